/- The walks of FormatPoints. -/
import Derived.Test.YtbkcoechoblndaaDoorWkFacts
import Derived.Test.YtbkcoechoblndaaDoorWkFmt2
namespace Go.Proofs.YtbkcoechoblndaaDoor.Abs
open Go.Proofs Go.RowKit
set_option linter.unusedVariables false
set_option linter.unusedSimpArgs false
def ptT (x : TPoint) : ByteArray := fmtI x.x ++ ⟨#[44]⟩ ++ fmtI x.y
theorem ptT_sizes {x : TPoint} (h : x.ok) : (fmtI x.x).size + (⟨#[44]⟩ : ByteArray).size ≤ 9223372036854775807 ∧ (fmtI x.x ++ ⟨#[44]⟩).size + (fmtI x.y).size ≤ 9223372036854775807 := by
  have h1 := fmtI_size h.1
  have h2 := fmtI_size h.2
  have h3 : (⟨#[44]⟩ : ByteArray).size = 1 := rfl
  rw [ByteArray.size_append]
  omega
theorem ptT_size {x : TPoint} (h : x.ok) : (ptT x).size ≤ 43 := by
  have h1 := fmtI_size h.1
  have h2 := fmtI_size h.2
  have h3 : (⟨#[44]⟩ : ByteArray).size = 1 := rfl
  unfold ptT
  rw [ByteArray.size_append, ByteArray.size_append]
  omega
def ptsT (l : List TPoint) : ByteArray := joinR (l.map ptT) ⟨#[59]⟩
theorem joinR_size {l : List ByteArray} {sep : ByteArray} {B : Nat} (hB : ∀ x ∈ l, x.size ≤ B) : (joinR l sep).size ≤ l.length * (B + sep.size) + 1 := by
  unfold joinR
  split
  · exact Nat.le_add_left _ _
  · exact Nat.le_succ_of_le (jn_size hB _ (Nat.le_refl _))
theorem ptsT_size {l : List TPoint} (h : ∀ x ∈ l, x.ok) : (ptsT l).size ≤ l.length * 44 + 1 := by
  have := joinR_size (l := l.map ptT) (sep := ⟨#[59]⟩) (B := 43) (fun x hx => by
    obtain ⟨y, hy, rfl⟩ := List.mem_map.1 hx
    exact ptT_size (h y hy))
  rw [List.length_map] at this
  exact this
set_option maxRecDepth 100000 in
set_option maxHeartbeats 2000000 in
theorem ptT_i (x : TPoint) (hxo : x.ok) : VCallsI Tryd.prog TabI 42 [.agg x.en] (fun r M => r = S (ptT x) ∧ M = []) := by
  refine VCallsI.bodyE Tryd.func42 rfl 10 rfl (fun E hE hK => ?_)
  simp only [List.reduceReplicate, List.cons_append, List.nil_append]
  have hx1 := hxo.1
  have hx2 := hxo.2
  obtain ⟨hz1, hz2⟩ := ptT_sizes hxo
  dsimp only [TPoint.en]
  repeat' ((first
    | refine AW.seq ?_
    | refine AW.region ?_
    | refine AW.skip ?_
    | refine AL.q TT_ok rfl (by rfl) ?_
    | refine AL.step rfl ?_
    | (refine OpA.quiet (QOp.cat (by rfl) (by rfl) (by rfl) (by first | assumption | (simp only [ByteArray.size_append, bs_size] at *; omega))) ?_)
    | refine OpA.box (by rfl) (by rfl) (by rfl) ?_
    | refine OpA.pcallI hK (by rfl) Tryd.func39 rfl rfl (by rfl) (by first | exact clo_all (by rfl) | (intro x hx; simp only [List.mem_cons, List.not_mem_nil, or_false] at hx; rcases hx with rfl | rfl | rfl | rfl | rfl | rfl | rfl | rfl <;> first | exact clo_of (by rfl) | exact clo_fn _ | assumption)) (fmt_i _ (by assumption)) (by first | exact clo_of (by rfl) | assumption) ?_
    | refine AW.drawn (id := 1) 7 (by kernel_rfl) (by kernel_rfl) (by rfl) ?_
    | refine DL.q TT_ok rfl (by rfl) ?_
    | (refine DL.p rfl (POp.quiet (QOp.cat (by rfl) (by rfl) (by rfl) (by first | assumption | (simp only [ByteArray.size_append, bs_size] at *; omega)))) ?_)
    | (refine DL.p rfl (POp.pcallI hK (by rfl) Tryd.func39 rfl rfl (by rfl) (by first | exact clo_all (by rfl) | (intro x hx; simp only [List.mem_cons, List.not_mem_nil, or_false] at hx; rcases hx with rfl | rfl | rfl | rfl | rfl | rfl | rfl | rfl <;> first | exact clo_of (by rfl) | exact clo_fn _ | assumption)) (fmt_i _ (by assumption)) (by first | exact clo_of (by rfl) | assumption)) ?_)
    | refine DL.nil ?_
    | refine AL.nil ?_
    | refine AW.ret ?_) <;> (try dsimp only [dput, List.set, cond_true, cond_false, Nat.zero_add, Nat.add_zero, Nat.reduceAdd, splice, List.take, List.drop, List.length, List.nil_append, List.cons_append, TPoint.en, TSegment.en, TBox.en, TFeature.en, TMeet.en, TPlace.en, TCover.en, TLabel.en, TPiece.en, TLevel.en, TChart.en, TReason.en, TEdit.en, TEntry.en, TEdition.en, TListing.en, TAtlas.en, TEvent.en, TWindow.en]))
  all_goals exact Fin.one rfl (RV.tmp (by rfl)) (clo_c _) ⟨rfl, rfl⟩

set_option maxRecDepth 100000 in
set_option maxHeartbeats 2000000 in
theorem pts_s (l : List TPoint) (hl : l.length ≤ 1048576) (hok : ∀ x ∈ l, x.ok) : VCalls Tryd.prog 14 [.ro 2 (l.map TPoint.en)] (fun r M => r = S (ptsT l) ∧ M = []) := by
  refine VCalls.bodyE Tryd.func14 rfl 30 rfl (fun E hE => ?_)
  simp only [List.reduceReplicate, List.cons_append, List.nil_append]
  repeat' ((first
    | refine AW.seq ?_
    | refine AW.region ?_
    | refine AW.skip ?_
    | refine AL.q TT_ok rfl (by rfl) ?_
    | refine AL.step rfl ?_
    | refine OpA.quiet (QOp.atk_ro (by rfl) (by rfl) (by rfl) (by first | exact slk22 | exact slk30 | exact slk67) (Nat.le_of_ble_eq_true (by rfl)) (by first | assumption | omega) (by assumption)) ?_
    | refine OpA.quiet (QOp.ld1_ro (by rfl) (by rfl) (by assumption) (by first | exact ldk2 | exact ldk3 | exact ldk4 | exact ldk5 | exact ldk6 | exact ldk8 | exact ldk9 | exact ldk10 | exact ldk11 | exact ldk12 | exact ldk13 | exact ldk14 | exact ldk15 | exact ldk16 | exact ldk17 | exact ldk18 | exact ldk19 | exact ldk21 | exact ldk22 | exact ldk30 | exact ldk67 | exact ldk71) (by rfl)) ?_
    | refine OpA.quiet (QOp.ldr_ro (by rfl) (by rfl) (by assumption) (by first | exact ldk2 | exact ldk3 | exact ldk4 | exact ldk5 | exact ldk6 | exact ldk8 | exact ldk9 | exact ldk10 | exact ldk11 | exact ldk12 | exact ldk13 | exact ldk14 | exact ldk15 | exact ldk16 | exact ldk17 | exact ldk18 | exact ldk19 | exact ldk21 | exact ldk22 | exact ldk30 | exact ldk67 | exact ldk71) (Nat.le_of_ble_eq_true (by rfl))) ?_
    | refine OpA.quiet (QOp.at_own (by rfl) (by first | exact slk22 | exact slk30 | exact slk67) (by rfl) (by rfl) (by rfl) (by rfl) (by rfl) (by rfl) (by first | assumption | omega | decide) (by first | assumption | omega | decide)) ?_
    | refine OpA.quiet (QOp.len_own (by rfl) (by first | exact slk22 | exact slk30 | exact slk67) (by rfl) (by rfl) (by rfl) (by rfl)) ?_
    | (refine OpA.quiet (QOp.cat (by rfl) (by rfl) (by rfl) (by first | assumption | (simp only [ByteArray.size_append, bs_size] at *; omega))) ?_)
    | refine OpA.pop (POp.empty (by rfl) (by rfl) (by first | exact rwk22 | exact rwk30 | exact rwk67)) ?_
    | refine OpA.pop (POp.literal (by rfl) (by first | exact rwk22 | exact rwk30 | exact rwk67) (by rfl) (by rfl) (by rfl) (by rfl) (by rfl) (by rfl)) ?_
    | (refine OpA.pop (POp.append (by rfl) (by first | exact rwk22 | exact rwk30 | exact rwk67) (by rfl) (by rfl) (by rfl) (by rfl) (by rfl) (by rfl) (by rfl) (SrcA.own (by rfl) (by rfl) (by rfl) (by rfl)) (by first | (simp; omega) | omega | (simp_all; omega)) (by first | (simp [maxLen]; omega) | (simp_all [maxLen]; omega))) ?_)
    | (refine OpA.pop (POp.append (by rfl) (by first | exact rwk22 | exact rwk30 | exact rwk67) (by rfl) (by rfl) (by rfl) (by rfl) (by rfl) (by rfl) (by rfl) SrcA.ro (by first | (simp; omega) | omega | (simp_all; omega)) (by first | (simp [maxLen]; omega) | (simp_all [maxLen]; omega))) ?_)
    | refine OpA.pcall (by rfl) Tryd.func37 rfl rfl (by rfl) (by first | exact clo_all (by rfl) | (intro x hx; simp only [List.mem_cons, List.not_mem_nil, or_false] at hx; rcases hx with rfl | rfl | rfl | rfl | rfl | rfl | rfl | rfl <;> first | exact clo_of (by rfl) | exact clo_fn _ | assumption)) (fmt_s _ (by assumption)) (by first | exact clo_of (by rfl) | assumption) ?_
    | refine OpA.pcall (by rfl) Tryd.func38 rfl rfl (by rfl) (by first | exact clo_all (by rfl) | (intro x hx; simp only [List.mem_cons, List.not_mem_nil, or_false] at hx; rcases hx with rfl | rfl | rfl | rfl | rfl | rfl | rfl | rfl <;> first | exact clo_of (by rfl) | exact clo_fn _ | assumption)) (join_s (l.map ptT) _ (by assumption) (by assumption) (by first | assumption | decide)) (by first | exact clo_of (by rfl) | assumption) ?_
    | (refine AW.loopD hE (fun i : Nat => [.ro 2 (l.map TPoint.en), .any, .any, .own 0 i, I i, .any, .any, .any, .any, .any, .any, .any, .any, .any, .any, .any, .any, .any, .any, .any, .any, .any, .any, .any, .any, .any, .any, .any, .any, .any, .any]) (fun i => [some ⟨9, 1, i, false, ((l.map ptT).take i).map (fun s => [S s])⟩]) (fun i => l.length - i) (fun i => i ≤ l.length) 0 (by simp) ?_ (by first | rfl | (simp [fil_zero]; done)) ?_)
    | refine AW.drawnM (id := 5) 16 15 (by kernel_rfl) (by kernel_rfl) (by rfl) (by rfl) ?_
    | refine DL.q TT_ok rfl (by rfl) ?_
    | refine DL.p rfl (POp.quiet (QOp.atk_ro (by rfl) (by rfl) (by rfl) (by first | exact slk22 | exact slk30 | exact slk67) (Nat.le_of_ble_eq_true (by rfl)) (by first | assumption | omega) (by assumption))) ?_
    | refine DL.p rfl (POp.quiet (QOp.ld1_ro (by rfl) (by rfl) (by assumption) (by first | exact ldk2 | exact ldk3 | exact ldk4 | exact ldk5 | exact ldk6 | exact ldk8 | exact ldk9 | exact ldk10 | exact ldk11 | exact ldk12 | exact ldk13 | exact ldk14 | exact ldk15 | exact ldk16 | exact ldk17 | exact ldk18 | exact ldk19 | exact ldk21 | exact ldk22 | exact ldk30 | exact ldk67 | exact ldk71) (by rfl))) ?_
    | refine DL.p rfl (POp.quiet (QOp.ldr_ro (by rfl) (by rfl) (by assumption) (by first | exact ldk2 | exact ldk3 | exact ldk4 | exact ldk5 | exact ldk6 | exact ldk8 | exact ldk9 | exact ldk10 | exact ldk11 | exact ldk12 | exact ldk13 | exact ldk14 | exact ldk15 | exact ldk16 | exact ldk17 | exact ldk18 | exact ldk19 | exact ldk21 | exact ldk22 | exact ldk30 | exact ldk67 | exact ldk71) (Nat.le_of_ble_eq_true (by rfl)))) ?_
    | refine DL.p rfl (POp.quiet (QOp.at_own (by rfl) (by first | exact slk22 | exact slk30 | exact slk67) (by rfl) (by rfl) (by rfl) (by rfl) (by rfl) (by rfl) (by first | assumption | omega | decide) (by first | assumption | omega | decide))) ?_
    | refine DL.p rfl (POp.quiet (QOp.len_own (by rfl) (by first | exact slk22 | exact slk30 | exact slk67) (by rfl) (by rfl) (by rfl) (by rfl))) ?_
    | (refine DL.p rfl (POp.quiet (QOp.cat (by rfl) (by rfl) (by rfl) (by first | assumption | (simp only [ByteArray.size_append, bs_size] at *; omega)))) ?_)
    | (refine DL.p rfl (POp.pcall (by rfl) Tryd.func37 rfl rfl (by rfl) (by first | exact clo_all (by rfl) | (intro x hx; simp only [List.mem_cons, List.not_mem_nil, or_false] at hx; rcases hx with rfl | rfl | rfl | rfl | rfl | rfl | rfl | rfl <;> first | exact clo_of (by rfl) | exact clo_fn _ | assumption)) (fmt_s _ (by assumption)) (by first | exact clo_of (by rfl) | assumption)) ?_)
    | (refine DL.p rfl (POp.pcall (by rfl) Tryd.func38 rfl rfl (by rfl) (by first | exact clo_all (by rfl) | (intro x hx; simp only [List.mem_cons, List.not_mem_nil, or_false] at hx; rcases hx with rfl | rfl | rfl | rfl | rfl | rfl | rfl | rfl <;> first | exact clo_of (by rfl) | exact clo_fn _ | assumption)) (join_s (l.map ptT) _ (by assumption) (by assumption) (by first | assumption | decide)) (by first | exact clo_of (by rfl) | assumption)) ?_)
    | refine DL.nil ?_
    | refine DLM.p (by rfl) rfl (fun Y => POp.q TT_ok (by rfl)) ?_
    | refine DLM.make (by rfl) rfl (POp.empty (by rfl) (by rfl) (by first | exact rwk22 | exact rwk30 | exact rwk67)) rfl ?_
    | refine DLM.make (by rfl) rfl (POp.literal (by rfl) (by first | exact rwk22 | exact rwk30 | exact rwk67) (by rfl) (by rfl) (by rfl) (by rfl) (by rfl) (by rfl)) rfl ?_
    | refine DLM.p (by rfl) rfl (fun Y => POp.quiet (QOp.atk_ro (by rfl) (by rfl) (by rfl) (by first | exact slk22 | exact slk30 | exact slk67) (Nat.le_of_ble_eq_true (by rfl)) (by first | assumption | omega) (by assumption))) ?_
    | refine DLM.p (by rfl) rfl (fun Y => POp.quiet (QOp.ld1_ro (by rfl) (by rfl) (by assumption) (by first | exact ldk2 | exact ldk3 | exact ldk4 | exact ldk5 | exact ldk6 | exact ldk8 | exact ldk9 | exact ldk10 | exact ldk11 | exact ldk12 | exact ldk13 | exact ldk14 | exact ldk15 | exact ldk16 | exact ldk17 | exact ldk18 | exact ldk19 | exact ldk21 | exact ldk22 | exact ldk30 | exact ldk67 | exact ldk71) (by rfl))) ?_
    | refine DLM.p (by rfl) rfl (fun Y => POp.quiet (QOp.ldr_ro (by rfl) (by rfl) (by assumption) (by first | exact ldk2 | exact ldk3 | exact ldk4 | exact ldk5 | exact ldk6 | exact ldk8 | exact ldk9 | exact ldk10 | exact ldk11 | exact ldk12 | exact ldk13 | exact ldk14 | exact ldk15 | exact ldk16 | exact ldk17 | exact ldk18 | exact ldk19 | exact ldk21 | exact ldk22 | exact ldk30 | exact ldk67 | exact ldk71) (Nat.le_of_ble_eq_true (by rfl)))) ?_
    | refine DLM.p (by rfl) rfl (fun Y => POp.quiet (QOp.at_own (by rfl) (by first | exact slk22 | exact slk30 | exact slk67) (by rfl) (by rfl) (by rfl) (by rfl) (by rfl) (by rfl) (by first | assumption | omega | decide) (by first | assumption | omega | decide))) ?_
    | refine DLM.p (by rfl) rfl (fun Y => POp.quiet (QOp.len_own (by rfl) (by first | exact slk22 | exact slk30 | exact slk67) (by rfl) (by rfl) (by rfl) (by rfl))) ?_
    | (refine DLM.p (by rfl) rfl (fun Y => POp.quiet (QOp.cat (by rfl) (by rfl) (by rfl) (by first | assumption | (simp only [ByteArray.size_append, bs_size] at *; omega)))) ?_)
    | (refine DLM.p (by rfl) rfl (fun Y => POp.pcall (by rfl) Tryd.func37 rfl rfl (by rfl) (by first | exact clo_all (by rfl) | (intro x hx; simp only [List.mem_cons, List.not_mem_nil, or_false] at hx; rcases hx with rfl | rfl | rfl | rfl | rfl | rfl | rfl | rfl <;> first | exact clo_of (by rfl) | exact clo_fn _ | assumption)) (fmt_s _ (by assumption)) (by first | exact clo_of (by rfl) | assumption)) ?_)
    | (refine DLM.p (by rfl) rfl (fun Y => POp.pcall (by rfl) Tryd.func38 rfl rfl (by rfl) (by first | exact clo_all (by rfl) | (intro x hx; simp only [List.mem_cons, List.not_mem_nil, or_false] at hx; rcases hx with rfl | rfl | rfl | rfl | rfl | rfl | rfl | rfl <;> first | exact clo_of (by rfl) | exact clo_fn _ | assumption)) (join_s (l.map ptT) _ (by assumption) (by assumption) (by first | assumption | decide)) (by first | exact clo_of (by rfl) | assumption)) ?_)
    | refine DLM.nil ?_
    | (refine AW.cond (by rfl) (fun h => ?_) ?_; rotate_left; focus (intro h; (try simp only [Bool.not_eq_true', Bool.not_eq_false'] at h); first | (cases h; done) | exact clash (by with_reducible_and_instances assumption) h | exact clash h (by with_reducible_and_instances assumption) | exact absurd h (by decide) | (refine absurd h ?_; simp; done)))
    | (refine AW.cond (by rfl) ?_ (fun h => ?_); focus (intro h; (try simp only [Bool.not_eq_true', Bool.not_eq_false'] at h); first | (cases h; done) | exact clash (by with_reducible_and_instances assumption) h | exact clash h (by with_reducible_and_instances assumption) | exact absurd h (by decide) | (refine absurd h ?_; simp; done)))
    | (refine AW.cond (by rfl) ?_ ?_ <;> (intro h; try simp only [Bool.not_eq_true', Bool.not_eq_false'] at h))
    | refine AW.block ?_
    | refine AW.exit ?_
    | refine AL.nil ?_
    | refine AW.ret ?_) <;> (try dsimp only [dput, List.set, cond_true, cond_false, Nat.zero_add, Nat.add_zero, Nat.reduceAdd, splice, List.take, List.drop, List.length, List.nil_append, List.cons_append, TPoint.en, TSegment.en, TBox.en, TFeature.en, TMeet.en, TPlace.en, TCover.en, TLabel.en, TPiece.en, TLevel.en, TChart.en, TReason.en, TEdit.en, TEntry.en, TEdition.en, TListing.en, TAtlas.en, TEvent.en, TWindow.en]))
  · (repeat' (first | exact Wk.nil | refine Wk.any ?_ | (with_reducible refine Wk.same ?_) | refine Wk.of ?_ ?_)) <;> first | rfl | (simp)
  · intro i hi
    have hclo : Clo (.ro 2 (l.map TPoint.en)) := clo_list TPoint.clo_en
    by_cases hlt : i < l.length
    · obtain ⟨x, hx⟩ : ∃ x, l[i]? = some x := ⟨_, List.getElem?_eq_getElem hlt⟩
      have hg := map_get (f := TPoint.en) hx
      have ht := lt_true (f := TPoint.en) hlt
      have hn := next_ix hlt (by omega)
      have hxm := List.mem_of_getElem? hx
      have hs : (l.map ptT)[i]? = some (ptT x) := by rw [List.getElem?_map, hx]; rfl
      have hm := map_take_succS (f := fun s => [S s]) hs
      have hxo := hok x hxm
      have hx1 := hxo.1
      have hx2 := hxo.2
      obtain ⟨hz1, hz2⟩ := ptT_sizes hxo
      repeat' ((first
        | refine AW.seq ?_
        | refine AW.region ?_
        | refine AW.skip ?_
        | refine AL.q TT_ok rfl (by rfl) ?_
        | refine AL.step rfl ?_
        | refine OpA.quiet (QOp.atk_ro (by rfl) (by rfl) (by rfl) (by first | exact slk22 | exact slk30 | exact slk67) (Nat.le_of_ble_eq_true (by rfl)) (by first | assumption | omega) (by assumption)) ?_
        | refine OpA.quiet (QOp.ld1_ro (by rfl) (by rfl) (by assumption) (by first | exact ldk2 | exact ldk3 | exact ldk4 | exact ldk5 | exact ldk6 | exact ldk8 | exact ldk9 | exact ldk10 | exact ldk11 | exact ldk12 | exact ldk13 | exact ldk14 | exact ldk15 | exact ldk16 | exact ldk17 | exact ldk18 | exact ldk19 | exact ldk21 | exact ldk22 | exact ldk30 | exact ldk67 | exact ldk71) (by rfl)) ?_
        | refine OpA.quiet (QOp.ldr_ro (by rfl) (by rfl) (by assumption) (by first | exact ldk2 | exact ldk3 | exact ldk4 | exact ldk5 | exact ldk6 | exact ldk8 | exact ldk9 | exact ldk10 | exact ldk11 | exact ldk12 | exact ldk13 | exact ldk14 | exact ldk15 | exact ldk16 | exact ldk17 | exact ldk18 | exact ldk19 | exact ldk21 | exact ldk22 | exact ldk30 | exact ldk67 | exact ldk71) (Nat.le_of_ble_eq_true (by rfl))) ?_
        | refine OpA.quiet (QOp.at_own (by rfl) (by first | exact slk22 | exact slk30 | exact slk67) (by rfl) (by rfl) (by rfl) (by rfl) (by rfl) (by rfl) (by first | assumption | omega | decide) (by first | assumption | omega | decide)) ?_
        | refine OpA.quiet (QOp.len_own (by rfl) (by first | exact slk22 | exact slk30 | exact slk67) (by rfl) (by rfl) (by rfl) (by rfl)) ?_
        | (refine OpA.quiet (QOp.cat (by rfl) (by rfl) (by rfl) (by first | assumption | (simp only [ByteArray.size_append, bs_size] at *; omega))) ?_)
        | refine OpA.pop (POp.empty (by rfl) (by rfl) (by first | exact rwk22 | exact rwk30 | exact rwk67)) ?_
        | refine OpA.pop (POp.literal (by rfl) (by first | exact rwk22 | exact rwk30 | exact rwk67) (by rfl) (by rfl) (by rfl) (by rfl) (by rfl) (by rfl)) ?_
        | (refine OpA.pop (POp.append (by rfl) (by first | exact rwk22 | exact rwk30 | exact rwk67) (by rfl) (by rfl) (by rfl) (by rfl) (by rfl) (by rfl) (by rfl) (SrcA.own (by rfl) (by rfl) (by rfl) (by rfl)) (by first | (simp; omega) | omega | (simp_all; omega)) (by first | (simp [maxLen]; omega) | (simp_all [maxLen]; omega))) ?_)
        | (refine OpA.pop (POp.append (by rfl) (by first | exact rwk22 | exact rwk30 | exact rwk67) (by rfl) (by rfl) (by rfl) (by rfl) (by rfl) (by rfl) (by rfl) SrcA.ro (by first | (simp; omega) | omega | (simp_all; omega)) (by first | (simp [maxLen]; omega) | (simp_all [maxLen]; omega))) ?_)
        | refine OpA.pcall (by rfl) Tryd.func37 rfl rfl (by rfl) (by first | exact clo_all (by rfl) | (intro x hx; simp only [List.mem_cons, List.not_mem_nil, or_false] at hx; rcases hx with rfl | rfl | rfl | rfl | rfl | rfl | rfl | rfl <;> first | exact clo_of (by rfl) | exact clo_fn _ | assumption)) (fmt_s _ (by assumption)) (by first | exact clo_of (by rfl) | assumption) ?_
        | refine OpA.pcall (by rfl) Tryd.func38 rfl rfl (by rfl) (by first | exact clo_all (by rfl) | (intro x hx; simp only [List.mem_cons, List.not_mem_nil, or_false] at hx; rcases hx with rfl | rfl | rfl | rfl | rfl | rfl | rfl | rfl <;> first | exact clo_of (by rfl) | exact clo_fn _ | assumption)) (join_s (l.map ptT) _ (by assumption) (by assumption) (by first | assumption | decide)) (by first | exact clo_of (by rfl) | assumption) ?_
        | refine AW.drawnM (id := 5) 16 15 (by kernel_rfl) (by kernel_rfl) (by rfl) (by rfl) ?_
        | refine DL.q TT_ok rfl (by rfl) ?_
        | refine DL.p rfl (POp.quiet (QOp.atk_ro (by rfl) (by rfl) (by rfl) (by first | exact slk22 | exact slk30 | exact slk67) (Nat.le_of_ble_eq_true (by rfl)) (by first | assumption | omega) (by assumption))) ?_
        | refine DL.p rfl (POp.quiet (QOp.ld1_ro (by rfl) (by rfl) (by assumption) (by first | exact ldk2 | exact ldk3 | exact ldk4 | exact ldk5 | exact ldk6 | exact ldk8 | exact ldk9 | exact ldk10 | exact ldk11 | exact ldk12 | exact ldk13 | exact ldk14 | exact ldk15 | exact ldk16 | exact ldk17 | exact ldk18 | exact ldk19 | exact ldk21 | exact ldk22 | exact ldk30 | exact ldk67 | exact ldk71) (by rfl))) ?_
        | refine DL.p rfl (POp.quiet (QOp.ldr_ro (by rfl) (by rfl) (by assumption) (by first | exact ldk2 | exact ldk3 | exact ldk4 | exact ldk5 | exact ldk6 | exact ldk8 | exact ldk9 | exact ldk10 | exact ldk11 | exact ldk12 | exact ldk13 | exact ldk14 | exact ldk15 | exact ldk16 | exact ldk17 | exact ldk18 | exact ldk19 | exact ldk21 | exact ldk22 | exact ldk30 | exact ldk67 | exact ldk71) (Nat.le_of_ble_eq_true (by rfl)))) ?_
        | refine DL.p rfl (POp.quiet (QOp.at_own (by rfl) (by first | exact slk22 | exact slk30 | exact slk67) (by rfl) (by rfl) (by rfl) (by rfl) (by rfl) (by rfl) (by first | assumption | omega | decide) (by first | assumption | omega | decide))) ?_
        | refine DL.p rfl (POp.quiet (QOp.len_own (by rfl) (by first | exact slk22 | exact slk30 | exact slk67) (by rfl) (by rfl) (by rfl) (by rfl))) ?_
        | (refine DL.p rfl (POp.quiet (QOp.cat (by rfl) (by rfl) (by rfl) (by first | assumption | (simp only [ByteArray.size_append, bs_size] at *; omega)))) ?_)
        | (refine DL.p rfl (POp.pcall (by rfl) Tryd.func37 rfl rfl (by rfl) (by first | exact clo_all (by rfl) | (intro x hx; simp only [List.mem_cons, List.not_mem_nil, or_false] at hx; rcases hx with rfl | rfl | rfl | rfl | rfl | rfl | rfl | rfl <;> first | exact clo_of (by rfl) | exact clo_fn _ | assumption)) (fmt_s _ (by assumption)) (by first | exact clo_of (by rfl) | assumption)) ?_)
        | (refine DL.p rfl (POp.pcall (by rfl) Tryd.func38 rfl rfl (by rfl) (by first | exact clo_all (by rfl) | (intro x hx; simp only [List.mem_cons, List.not_mem_nil, or_false] at hx; rcases hx with rfl | rfl | rfl | rfl | rfl | rfl | rfl | rfl <;> first | exact clo_of (by rfl) | exact clo_fn _ | assumption)) (join_s (l.map ptT) _ (by assumption) (by assumption) (by first | assumption | decide)) (by first | exact clo_of (by rfl) | assumption)) ?_)
        | refine DL.nil ?_
        | refine DLM.p (by rfl) rfl (fun Y => POp.q TT_ok (by rfl)) ?_
        | refine DLM.make (by rfl) rfl (POp.empty (by rfl) (by rfl) (by first | exact rwk22 | exact rwk30 | exact rwk67)) rfl ?_
        | refine DLM.make (by rfl) rfl (POp.literal (by rfl) (by first | exact rwk22 | exact rwk30 | exact rwk67) (by rfl) (by rfl) (by rfl) (by rfl) (by rfl) (by rfl)) rfl ?_
        | refine DLM.p (by rfl) rfl (fun Y => POp.quiet (QOp.atk_ro (by rfl) (by rfl) (by rfl) (by first | exact slk22 | exact slk30 | exact slk67) (Nat.le_of_ble_eq_true (by rfl)) (by first | assumption | omega) (by assumption))) ?_
        | refine DLM.p (by rfl) rfl (fun Y => POp.quiet (QOp.ld1_ro (by rfl) (by rfl) (by assumption) (by first | exact ldk2 | exact ldk3 | exact ldk4 | exact ldk5 | exact ldk6 | exact ldk8 | exact ldk9 | exact ldk10 | exact ldk11 | exact ldk12 | exact ldk13 | exact ldk14 | exact ldk15 | exact ldk16 | exact ldk17 | exact ldk18 | exact ldk19 | exact ldk21 | exact ldk22 | exact ldk30 | exact ldk67 | exact ldk71) (by rfl))) ?_
        | refine DLM.p (by rfl) rfl (fun Y => POp.quiet (QOp.ldr_ro (by rfl) (by rfl) (by assumption) (by first | exact ldk2 | exact ldk3 | exact ldk4 | exact ldk5 | exact ldk6 | exact ldk8 | exact ldk9 | exact ldk10 | exact ldk11 | exact ldk12 | exact ldk13 | exact ldk14 | exact ldk15 | exact ldk16 | exact ldk17 | exact ldk18 | exact ldk19 | exact ldk21 | exact ldk22 | exact ldk30 | exact ldk67 | exact ldk71) (Nat.le_of_ble_eq_true (by rfl)))) ?_
        | refine DLM.p (by rfl) rfl (fun Y => POp.quiet (QOp.at_own (by rfl) (by first | exact slk22 | exact slk30 | exact slk67) (by rfl) (by rfl) (by rfl) (by rfl) (by rfl) (by rfl) (by first | assumption | omega | decide) (by first | assumption | omega | decide))) ?_
        | refine DLM.p (by rfl) rfl (fun Y => POp.quiet (QOp.len_own (by rfl) (by first | exact slk22 | exact slk30 | exact slk67) (by rfl) (by rfl) (by rfl) (by rfl))) ?_
        | (refine DLM.p (by rfl) rfl (fun Y => POp.quiet (QOp.cat (by rfl) (by rfl) (by rfl) (by first | assumption | (simp only [ByteArray.size_append, bs_size] at *; omega)))) ?_)
        | (refine DLM.p (by rfl) rfl (fun Y => POp.pcall (by rfl) Tryd.func37 rfl rfl (by rfl) (by first | exact clo_all (by rfl) | (intro x hx; simp only [List.mem_cons, List.not_mem_nil, or_false] at hx; rcases hx with rfl | rfl | rfl | rfl | rfl | rfl | rfl | rfl <;> first | exact clo_of (by rfl) | exact clo_fn _ | assumption)) (fmt_s _ (by assumption)) (by first | exact clo_of (by rfl) | assumption)) ?_)
        | (refine DLM.p (by rfl) rfl (fun Y => POp.pcall (by rfl) Tryd.func38 rfl rfl (by rfl) (by first | exact clo_all (by rfl) | (intro x hx; simp only [List.mem_cons, List.not_mem_nil, or_false] at hx; rcases hx with rfl | rfl | rfl | rfl | rfl | rfl | rfl | rfl <;> first | exact clo_of (by rfl) | exact clo_fn _ | assumption)) (join_s (l.map ptT) _ (by assumption) (by assumption) (by first | assumption | decide)) (by first | exact clo_of (by rfl) | assumption)) ?_)
        | refine DLM.nil ?_
        | (refine AW.cond (by rfl) (fun h => ?_) ?_; rotate_left; focus (intro h; (try simp only [Bool.not_eq_true', Bool.not_eq_false'] at h); first | (cases h; done) | exact clash (by with_reducible_and_instances assumption) h | exact clash h (by with_reducible_and_instances assumption) | exact absurd h (by decide) | (refine absurd h ?_; simp; done)))
        | (refine AW.cond (by rfl) ?_ (fun h => ?_); focus (intro h; (try simp only [Bool.not_eq_true', Bool.not_eq_false'] at h); first | (cases h; done) | exact clash (by with_reducible_and_instances assumption) h | exact clash h (by with_reducible_and_instances assumption) | exact absurd h (by decide) | (refine absurd h ?_; simp; done)))
        | (refine AW.cond (by rfl) ?_ ?_ <;> (intro h; try simp only [Bool.not_eq_true', Bool.not_eq_false'] at h))
        | refine AW.block ?_
        | refine AW.exit ?_
        | refine AL.nil ?_
        | refine AW.ret ?_) <;> (try dsimp only [dput, List.set, cond_true, cond_false, Nat.zero_add, Nat.add_zero, Nat.reduceAdd, splice, List.take, List.drop, List.length, List.nil_append, List.cons_append, TPoint.en, TSegment.en, TBox.en, TFeature.en, TMeet.en, TPlace.en, TCover.en, TLabel.en, TPiece.en, TLevel.en, TChart.en, TReason.en, TEdit.en, TEntry.en, TEdition.en, TListing.en, TAtlas.en, TEvent.en, TWindow.en]))
      all_goals first
        | (refine ⟨i + 1, _, hlt, by omega, ?_, by rw [hm] <;> rfl, ?_, ?_⟩; (focus ((repeat' (first | exact Wk.nil | refine Wk.any ?_ | (with_reducible refine Wk.same ?_) | refine Wk.of ?_ ?_)) <;> (simp_all))); (focus ((repeat' (first | exact Fits.nil _ | refine Fits.cons ?_ ?_ | exact Fits.any _ | exact Fits.c _ _ | exact Fits.own (by rfl) | exact Fits.ref (by rfl) | exact Fits.clo (by assumption) | exact Fits.clo (clo_of (by rfl)) | exact Fits.clo (clo_fn _))))); (focus (exact fits_row (clo_rowsS cloS))))
    · have ht := lt_false (f := TPoint.en) hlt
      have e : i = l.length := by omega
      subst e
      try rw [List.take_length]
      have hlm : (l.map ptT).length ≤ 1048576 := by simpa using hl
      have hclR : Clo (.ro 1 ((l.map ptT).map (fun s => [S s]))) := clo_list cloS
      rw [take_map_all]
      have hB : ∀ x ∈ l.map ptT, x.size ≤ 67108864 := fun x hx => by
        obtain ⟨y, hy, rfl⟩ := List.mem_map.1 hx
        have := ptT_size (hok y hy)
        omega
      refine AW.freeze (t := 3) (id := 0) rfl rfl rfl rfl (clo_rowsS cloS) ?_
      try dsimp only [dput, List.set, cond_true, cond_false, Nat.zero_add, Nat.add_zero, Nat.reduceAdd, splice, List.take, List.drop, List.length, List.nil_append, List.cons_append, TPoint.en, TSegment.en, TBox.en, TFeature.en, TMeet.en, TPlace.en, TCover.en, TLabel.en, TPiece.en, TLevel.en, TChart.en, TReason.en, TEdit.en, TEntry.en, TEdition.en, TListing.en, TAtlas.en, TEvent.en, TWindow.en]
      repeat' ((first
        | refine AW.seq ?_
        | refine AW.region ?_
        | refine AW.skip ?_
        | refine AL.q TT_ok rfl (by rfl) ?_
        | refine AL.step rfl ?_
        | refine OpA.quiet (QOp.atk_ro (by rfl) (by rfl) (by rfl) (by first | exact slk22 | exact slk30 | exact slk67) (Nat.le_of_ble_eq_true (by rfl)) (by first | assumption | omega) (by assumption)) ?_
        | refine OpA.quiet (QOp.ld1_ro (by rfl) (by rfl) (by assumption) (by first | exact ldk2 | exact ldk3 | exact ldk4 | exact ldk5 | exact ldk6 | exact ldk8 | exact ldk9 | exact ldk10 | exact ldk11 | exact ldk12 | exact ldk13 | exact ldk14 | exact ldk15 | exact ldk16 | exact ldk17 | exact ldk18 | exact ldk19 | exact ldk21 | exact ldk22 | exact ldk30 | exact ldk67 | exact ldk71) (by rfl)) ?_
        | refine OpA.quiet (QOp.ldr_ro (by rfl) (by rfl) (by assumption) (by first | exact ldk2 | exact ldk3 | exact ldk4 | exact ldk5 | exact ldk6 | exact ldk8 | exact ldk9 | exact ldk10 | exact ldk11 | exact ldk12 | exact ldk13 | exact ldk14 | exact ldk15 | exact ldk16 | exact ldk17 | exact ldk18 | exact ldk19 | exact ldk21 | exact ldk22 | exact ldk30 | exact ldk67 | exact ldk71) (Nat.le_of_ble_eq_true (by rfl))) ?_
        | refine OpA.quiet (QOp.at_own (by rfl) (by first | exact slk22 | exact slk30 | exact slk67) (by rfl) (by rfl) (by rfl) (by rfl) (by rfl) (by rfl) (by first | assumption | omega | decide) (by first | assumption | omega | decide)) ?_
        | refine OpA.quiet (QOp.len_own (by rfl) (by first | exact slk22 | exact slk30 | exact slk67) (by rfl) (by rfl) (by rfl) (by rfl)) ?_
        | (refine OpA.quiet (QOp.cat (by rfl) (by rfl) (by rfl) (by first | assumption | (simp only [ByteArray.size_append, bs_size] at *; omega))) ?_)
        | refine OpA.pop (POp.empty (by rfl) (by rfl) (by first | exact rwk22 | exact rwk30 | exact rwk67)) ?_
        | refine OpA.pop (POp.literal (by rfl) (by first | exact rwk22 | exact rwk30 | exact rwk67) (by rfl) (by rfl) (by rfl) (by rfl) (by rfl) (by rfl)) ?_
        | (refine OpA.pop (POp.append (by rfl) (by first | exact rwk22 | exact rwk30 | exact rwk67) (by rfl) (by rfl) (by rfl) (by rfl) (by rfl) (by rfl) (by rfl) (SrcA.own (by rfl) (by rfl) (by rfl) (by rfl)) (by first | (simp; omega) | omega | (simp_all; omega)) (by first | (simp [maxLen]; omega) | (simp_all [maxLen]; omega))) ?_)
        | (refine OpA.pop (POp.append (by rfl) (by first | exact rwk22 | exact rwk30 | exact rwk67) (by rfl) (by rfl) (by rfl) (by rfl) (by rfl) (by rfl) (by rfl) SrcA.ro (by first | (simp; omega) | omega | (simp_all; omega)) (by first | (simp [maxLen]; omega) | (simp_all [maxLen]; omega))) ?_)
        | refine OpA.pcall (by rfl) Tryd.func37 rfl rfl (by rfl) (by first | exact clo_all (by rfl) | (intro x hx; simp only [List.mem_cons, List.not_mem_nil, or_false] at hx; rcases hx with rfl | rfl | rfl | rfl | rfl | rfl | rfl | rfl <;> first | exact clo_of (by rfl) | exact clo_fn _ | assumption)) (fmt_s _ (by assumption)) (by first | exact clo_of (by rfl) | assumption) ?_
        | refine OpA.pcall (by rfl) Tryd.func38 rfl rfl (by rfl) (by first | exact clo_all (by rfl) | (intro x hx; simp only [List.mem_cons, List.not_mem_nil, or_false] at hx; rcases hx with rfl | rfl | rfl | rfl | rfl | rfl | rfl | rfl <;> first | exact clo_of (by rfl) | exact clo_fn _ | assumption)) (join_s (l.map ptT) _ (by assumption) (by assumption) (by first | assumption | decide)) (by first | exact clo_of (by rfl) | assumption) ?_
        | refine AW.drawnM (id := 5) 16 15 (by kernel_rfl) (by kernel_rfl) (by rfl) (by rfl) ?_
        | refine DL.q TT_ok rfl (by rfl) ?_
        | refine DL.p rfl (POp.quiet (QOp.atk_ro (by rfl) (by rfl) (by rfl) (by first | exact slk22 | exact slk30 | exact slk67) (Nat.le_of_ble_eq_true (by rfl)) (by first | assumption | omega) (by assumption))) ?_
        | refine DL.p rfl (POp.quiet (QOp.ld1_ro (by rfl) (by rfl) (by assumption) (by first | exact ldk2 | exact ldk3 | exact ldk4 | exact ldk5 | exact ldk6 | exact ldk8 | exact ldk9 | exact ldk10 | exact ldk11 | exact ldk12 | exact ldk13 | exact ldk14 | exact ldk15 | exact ldk16 | exact ldk17 | exact ldk18 | exact ldk19 | exact ldk21 | exact ldk22 | exact ldk30 | exact ldk67 | exact ldk71) (by rfl))) ?_
        | refine DL.p rfl (POp.quiet (QOp.ldr_ro (by rfl) (by rfl) (by assumption) (by first | exact ldk2 | exact ldk3 | exact ldk4 | exact ldk5 | exact ldk6 | exact ldk8 | exact ldk9 | exact ldk10 | exact ldk11 | exact ldk12 | exact ldk13 | exact ldk14 | exact ldk15 | exact ldk16 | exact ldk17 | exact ldk18 | exact ldk19 | exact ldk21 | exact ldk22 | exact ldk30 | exact ldk67 | exact ldk71) (Nat.le_of_ble_eq_true (by rfl)))) ?_
        | refine DL.p rfl (POp.quiet (QOp.at_own (by rfl) (by first | exact slk22 | exact slk30 | exact slk67) (by rfl) (by rfl) (by rfl) (by rfl) (by rfl) (by rfl) (by first | assumption | omega | decide) (by first | assumption | omega | decide))) ?_
        | refine DL.p rfl (POp.quiet (QOp.len_own (by rfl) (by first | exact slk22 | exact slk30 | exact slk67) (by rfl) (by rfl) (by rfl) (by rfl))) ?_
        | (refine DL.p rfl (POp.quiet (QOp.cat (by rfl) (by rfl) (by rfl) (by first | assumption | (simp only [ByteArray.size_append, bs_size] at *; omega)))) ?_)
        | (refine DL.p rfl (POp.pcall (by rfl) Tryd.func37 rfl rfl (by rfl) (by first | exact clo_all (by rfl) | (intro x hx; simp only [List.mem_cons, List.not_mem_nil, or_false] at hx; rcases hx with rfl | rfl | rfl | rfl | rfl | rfl | rfl | rfl <;> first | exact clo_of (by rfl) | exact clo_fn _ | assumption)) (fmt_s _ (by assumption)) (by first | exact clo_of (by rfl) | assumption)) ?_)
        | (refine DL.p rfl (POp.pcall (by rfl) Tryd.func38 rfl rfl (by rfl) (by first | exact clo_all (by rfl) | (intro x hx; simp only [List.mem_cons, List.not_mem_nil, or_false] at hx; rcases hx with rfl | rfl | rfl | rfl | rfl | rfl | rfl | rfl <;> first | exact clo_of (by rfl) | exact clo_fn _ | assumption)) (join_s (l.map ptT) _ (by assumption) (by assumption) (by first | assumption | decide)) (by first | exact clo_of (by rfl) | assumption)) ?_)
        | refine DL.nil ?_
        | refine DLM.p (by rfl) rfl (fun Y => POp.q TT_ok (by rfl)) ?_
        | refine DLM.make (by rfl) rfl (POp.empty (by rfl) (by rfl) (by first | exact rwk22 | exact rwk30 | exact rwk67)) rfl ?_
        | refine DLM.make (by rfl) rfl (POp.literal (by rfl) (by first | exact rwk22 | exact rwk30 | exact rwk67) (by rfl) (by rfl) (by rfl) (by rfl) (by rfl) (by rfl)) rfl ?_
        | refine DLM.p (by rfl) rfl (fun Y => POp.quiet (QOp.atk_ro (by rfl) (by rfl) (by rfl) (by first | exact slk22 | exact slk30 | exact slk67) (Nat.le_of_ble_eq_true (by rfl)) (by first | assumption | omega) (by assumption))) ?_
        | refine DLM.p (by rfl) rfl (fun Y => POp.quiet (QOp.ld1_ro (by rfl) (by rfl) (by assumption) (by first | exact ldk2 | exact ldk3 | exact ldk4 | exact ldk5 | exact ldk6 | exact ldk8 | exact ldk9 | exact ldk10 | exact ldk11 | exact ldk12 | exact ldk13 | exact ldk14 | exact ldk15 | exact ldk16 | exact ldk17 | exact ldk18 | exact ldk19 | exact ldk21 | exact ldk22 | exact ldk30 | exact ldk67 | exact ldk71) (by rfl))) ?_
        | refine DLM.p (by rfl) rfl (fun Y => POp.quiet (QOp.ldr_ro (by rfl) (by rfl) (by assumption) (by first | exact ldk2 | exact ldk3 | exact ldk4 | exact ldk5 | exact ldk6 | exact ldk8 | exact ldk9 | exact ldk10 | exact ldk11 | exact ldk12 | exact ldk13 | exact ldk14 | exact ldk15 | exact ldk16 | exact ldk17 | exact ldk18 | exact ldk19 | exact ldk21 | exact ldk22 | exact ldk30 | exact ldk67 | exact ldk71) (Nat.le_of_ble_eq_true (by rfl)))) ?_
        | refine DLM.p (by rfl) rfl (fun Y => POp.quiet (QOp.at_own (by rfl) (by first | exact slk22 | exact slk30 | exact slk67) (by rfl) (by rfl) (by rfl) (by rfl) (by rfl) (by rfl) (by first | assumption | omega | decide) (by first | assumption | omega | decide))) ?_
        | refine DLM.p (by rfl) rfl (fun Y => POp.quiet (QOp.len_own (by rfl) (by first | exact slk22 | exact slk30 | exact slk67) (by rfl) (by rfl) (by rfl) (by rfl))) ?_
        | (refine DLM.p (by rfl) rfl (fun Y => POp.quiet (QOp.cat (by rfl) (by rfl) (by rfl) (by first | assumption | (simp only [ByteArray.size_append, bs_size] at *; omega)))) ?_)
        | (refine DLM.p (by rfl) rfl (fun Y => POp.pcall (by rfl) Tryd.func37 rfl rfl (by rfl) (by first | exact clo_all (by rfl) | (intro x hx; simp only [List.mem_cons, List.not_mem_nil, or_false] at hx; rcases hx with rfl | rfl | rfl | rfl | rfl | rfl | rfl | rfl <;> first | exact clo_of (by rfl) | exact clo_fn _ | assumption)) (fmt_s _ (by assumption)) (by first | exact clo_of (by rfl) | assumption)) ?_)
        | (refine DLM.p (by rfl) rfl (fun Y => POp.pcall (by rfl) Tryd.func38 rfl rfl (by rfl) (by first | exact clo_all (by rfl) | (intro x hx; simp only [List.mem_cons, List.not_mem_nil, or_false] at hx; rcases hx with rfl | rfl | rfl | rfl | rfl | rfl | rfl | rfl <;> first | exact clo_of (by rfl) | exact clo_fn _ | assumption)) (join_s (l.map ptT) _ (by assumption) (by assumption) (by first | assumption | decide)) (by first | exact clo_of (by rfl) | assumption)) ?_)
        | refine DLM.nil ?_
        | (refine AW.cond (by rfl) (fun h => ?_) ?_; rotate_left; focus (intro h; (try simp only [Bool.not_eq_true', Bool.not_eq_false'] at h); first | (cases h; done) | exact clash (by with_reducible_and_instances assumption) h | exact clash h (by with_reducible_and_instances assumption) | exact absurd h (by decide) | (refine absurd h ?_; simp; done)))
        | (refine AW.cond (by rfl) ?_ (fun h => ?_); focus (intro h; (try simp only [Bool.not_eq_true', Bool.not_eq_false'] at h); first | (cases h; done) | exact clash (by with_reducible_and_instances assumption) h | exact clash h (by with_reducible_and_instances assumption) | exact absurd h (by decide) | (refine absurd h ?_; simp; done)))
        | (refine AW.cond (by rfl) ?_ ?_ <;> (intro h; try simp only [Bool.not_eq_true', Bool.not_eq_false'] at h))
        | refine AW.block ?_
        | refine AW.exit ?_
        | refine AL.nil ?_
        | refine AW.ret ?_) <;> (try dsimp only [dput, List.set, cond_true, cond_false, Nat.zero_add, Nat.add_zero, Nat.reduceAdd, splice, List.take, List.drop, List.length, List.nil_append, List.cons_append, TPoint.en, TSegment.en, TBox.en, TFeature.en, TMeet.en, TPlace.en, TCover.en, TLabel.en, TPiece.en, TLevel.en, TChart.en, TReason.en, TEdit.en, TEntry.en, TEdition.en, TListing.en, TAtlas.en, TEvent.en, TWindow.en]))
      all_goals exact Fin.one rfl (RV.tmp (by rfl)) (clo_c _) ⟨rfl, rfl⟩

set_option maxRecDepth 100000 in
set_option maxHeartbeats 2000000 in
theorem pts_i (l : List TPoint) (hl : l.length ≤ 1048576) (hok : ∀ x ∈ l, x.ok) : VCallsI Tryd.prog TabI 16 [.ro 2 (l.map TPoint.en)] (fun r M => r = S (ptsT l) ∧ M = []) := by
  refine VCallsI.bodyE Tryd.func16 rfl 20 rfl (fun E hE hK => ?_)
  simp only [List.reduceReplicate, List.cons_append, List.nil_append]
  repeat' ((first
    | refine AW.seq ?_
    | refine AW.region ?_
    | refine AW.skip ?_
    | refine AL.q TT_ok rfl (by rfl) ?_
    | refine AL.step rfl ?_
    | refine OpA.quiet (QOp.atk_ro (by rfl) (by rfl) (by rfl) (by first | exact slk30 | exact slk67) (Nat.le_of_ble_eq_true (by rfl)) (by first | assumption | omega) (by assumption)) ?_
    | refine OpA.quiet (QOp.ld1_ro (by rfl) (by rfl) (by assumption) (by first | exact ldk2 | exact ldk3 | exact ldk4 | exact ldk5 | exact ldk6 | exact ldk7 | exact ldk8 | exact ldk9 | exact ldk11 | exact ldk12 | exact ldk17 | exact ldk18 | exact ldk30 | exact ldk67 | exact ldk71) (by rfl)) ?_
    | refine OpA.quiet (QOp.ldr_ro (by rfl) (by rfl) (by assumption) (by first | exact ldk2 | exact ldk3 | exact ldk4 | exact ldk5 | exact ldk6 | exact ldk7 | exact ldk8 | exact ldk9 | exact ldk11 | exact ldk12 | exact ldk17 | exact ldk18 | exact ldk30 | exact ldk67 | exact ldk71) (Nat.le_of_ble_eq_true (by rfl))) ?_
    | refine OpA.quiet (QOp.at_own (by rfl) (by first | exact slk30 | exact slk67) (by rfl) (by rfl) (by rfl) (by rfl) (by rfl) (by rfl) (by first | assumption | omega | decide) (by first | assumption | omega | decide)) ?_
    | refine OpA.quiet (QOp.len_own (by rfl) (by first | exact slk30 | exact slk67) (by rfl) (by rfl) (by rfl) (by rfl)) ?_
    | (refine OpA.quiet (QOp.cat (by rfl) (by rfl) (by rfl) (by first | assumption | (simp only [ByteArray.size_append, bs_size] at *; omega))) ?_)
    | refine OpA.pop (POp.empty (by rfl) (by rfl) (by first | exact rwk30 | exact rwk67)) ?_
    | refine OpA.pop (POp.literal (by rfl) (by first | exact rwk30 | exact rwk67) (by rfl) (by rfl) (by rfl) (by rfl) (by rfl) (by rfl)) ?_
    | refine OpA.allocA (by rfl) (by first | exact ze2 | exact ze3 | exact ze4 | exact ze5 | exact ze6 | exact ze7 | exact ze8 | exact ze9 | exact ze11 | exact ze12 | exact ze17 | exact ze18 | exact ze30 | exact ze67 | exact ze71) ?_
    | refine OpA.sto (by rfl) (by rfl) (by rfl) (by rfl) (by rfl) (by rfl) (by rfl) (by rfl) (by first | exact ldk2 | exact ldk3 | exact ldk4 | exact ldk5 | exact ldk6 | exact ldk7 | exact ldk8 | exact ldk9 | exact ldk11 | exact ldk12 | exact ldk17 | exact ldk18 | exact ldk30 | exact ldk67 | exact ldk71) (by rfl) (Nat.le_of_ble_eq_true (by rfl)) ?_
    | refine OpA.sto (by rfl) (by rfl) (by rfl) (by rfl) (by rfl) (by assumption) (by rfl) (by rfl) (by first | exact ldk2 | exact ldk3 | exact ldk4 | exact ldk5 | exact ldk6 | exact ldk7 | exact ldk8 | exact ldk9 | exact ldk11 | exact ldk12 | exact ldk17 | exact ldk18 | exact ldk30 | exact ldk67 | exact ldk71) (by rfl) (Nat.le_of_ble_eq_true (by rfl)) ?_
    | (refine OpA.pop (POp.append (by rfl) (by first | exact rwk30 | exact rwk67) (by rfl) (by rfl) (by rfl) (by rfl) (by rfl) (by rfl) (by rfl) (SrcA.own (by rfl) (by rfl) (by rfl) (by rfl)) (by first | (simp; omega) | omega | (simp_all; omega)) (by first | (simp [maxLen]; omega) | (simp_all [maxLen]; omega))) ?_)
    | (refine OpA.pop (POp.append (by rfl) (by first | exact rwk30 | exact rwk67) (by rfl) (by rfl) (by rfl) (by rfl) (by rfl) (by rfl) (by rfl) SrcA.ro (by first | (simp; omega) | omega | (simp_all; omega)) (by first | (simp [maxLen]; omega) | (simp_all [maxLen]; omega))) ?_)
    | refine OpA.pcall (by rfl) Tryd.func40 rfl rfl (by rfl) (by first | exact clo_all (by rfl) | (intro x hx; simp only [List.mem_cons, List.not_mem_nil, or_false] at hx; rcases hx with rfl | rfl | rfl | rfl | rfl | rfl | rfl | rfl <;> first | exact clo_of (by rfl) | exact clo_fn _ | assumption)) (joined_i (l.map ptT) _ (by assumption) (by assumption) (by first | assumption | decide)) (by first | exact clo_of (by rfl) | assumption) ?_
    | refine OpA.pcallI hK (by rfl) Tryd.func42 rfl rfl (by rfl) (by first | exact clo_all (by rfl) | (intro x hx; simp only [List.mem_cons, List.not_mem_nil, or_false] at hx; rcases hx with rfl | rfl | rfl | rfl | rfl | rfl | rfl | rfl <;> first | exact clo_of (by rfl) | exact clo_fn _ | assumption)) (ptT_i x (by assumption)) (by first | exact clo_of (by rfl) | assumption) ?_
    | (refine AW.loopD hE (fun i : Nat => [.any, .any, .any, .own 0 i, .any, .any, .any, .ro 2 (l.map TPoint.en), I (l.map TPoint.en).length, I i, .any, .any, .any, .any, .any, .any, .any, .any, .any, .any, .any]) (fun i => [some ⟨9, 1, i, false, ((l.map ptT).take i).map (fun s => [S s])⟩]) (fun i => l.length - i) (fun i => i ≤ l.length) 0 (by simp) ?_ (by first | rfl | (simp [fil_zero]; done)) ?_)
    | (refine AW.cond (by rfl) (fun h => ?_) ?_; rotate_left; focus (intro h; (try simp only [Bool.not_eq_true', Bool.not_eq_false'] at h); first | (cases h; done) | exact clash (by with_reducible_and_instances assumption) h | exact clash h (by with_reducible_and_instances assumption) | exact absurd h (by decide) | (refine absurd h ?_; simp; done)))
    | (refine AW.cond (by rfl) ?_ (fun h => ?_); focus (intro h; (try simp only [Bool.not_eq_true', Bool.not_eq_false'] at h); first | (cases h; done) | exact clash (by with_reducible_and_instances assumption) h | exact clash h (by with_reducible_and_instances assumption) | exact absurd h (by decide) | (refine absurd h ?_; simp; done)))
    | (refine AW.cond (by rfl) ?_ ?_ <;> (intro h; try simp only [Bool.not_eq_true', Bool.not_eq_false'] at h))
    | refine AW.block ?_
    | refine AW.exit ?_
    | refine AL.nil ?_
    | refine AW.ret ?_) <;> (try dsimp only [dput, List.set, cond_true, cond_false, Nat.zero_add, Nat.add_zero, Nat.reduceAdd, splice, List.take, List.drop, List.length, List.nil_append, List.cons_append, TPoint.en, TSegment.en, TBox.en, TFeature.en, TMeet.en, TPlace.en, TCover.en, TLabel.en, TPiece.en, TLevel.en, TChart.en, TReason.en, TEdit.en, TEntry.en, TEdition.en, TListing.en, TAtlas.en, TEvent.en, TWindow.en]))
  · (repeat' (first | exact Wk.nil | refine Wk.any ?_ | (with_reducible refine Wk.same ?_) | refine Wk.of ?_ ?_)) <;> first | rfl | (simp)
  · intro i hi
    have hclo : Clo (.ro 2 (l.map TPoint.en)) := clo_list TPoint.clo_en
    by_cases hlt : i < l.length
    · obtain ⟨x, hx⟩ : ∃ x, l[i]? = some x := ⟨_, List.getElem?_eq_getElem hlt⟩
      have hg := map_get (f := TPoint.en) hx
      have ht := lt_true (f := TPoint.en) hlt
      have hn := next_ix hlt (by omega)
      have hxm := List.mem_of_getElem? hx
      have hs : (l.map ptT)[i]? = some (ptT x) := by rw [List.getElem?_map, hx]; rfl
      have hm := map_take_succS (f := fun s => [S s]) hs
      have hxo := hok x hxm
      have hx1 := hxo.1
      have hx2 := hxo.2
      obtain ⟨hz1, hz2⟩ := ptT_sizes hxo
      repeat' ((first
        | refine AW.seq ?_
        | refine AW.region ?_
        | refine AW.skip ?_
        | refine AL.q TT_ok rfl (by rfl) ?_
        | refine AL.step rfl ?_
        | refine OpA.quiet (QOp.atk_ro (by rfl) (by rfl) (by rfl) (by first | exact slk30 | exact slk67) (Nat.le_of_ble_eq_true (by rfl)) (by first | assumption | omega) (by assumption)) ?_
        | refine OpA.quiet (QOp.ld1_ro (by rfl) (by rfl) (by assumption) (by first | exact ldk2 | exact ldk3 | exact ldk4 | exact ldk5 | exact ldk6 | exact ldk7 | exact ldk8 | exact ldk9 | exact ldk11 | exact ldk12 | exact ldk17 | exact ldk18 | exact ldk30 | exact ldk67 | exact ldk71) (by rfl)) ?_
        | refine OpA.quiet (QOp.ldr_ro (by rfl) (by rfl) (by assumption) (by first | exact ldk2 | exact ldk3 | exact ldk4 | exact ldk5 | exact ldk6 | exact ldk7 | exact ldk8 | exact ldk9 | exact ldk11 | exact ldk12 | exact ldk17 | exact ldk18 | exact ldk30 | exact ldk67 | exact ldk71) (Nat.le_of_ble_eq_true (by rfl))) ?_
        | refine OpA.quiet (QOp.at_own (by rfl) (by first | exact slk30 | exact slk67) (by rfl) (by rfl) (by rfl) (by rfl) (by rfl) (by rfl) (by first | assumption | omega | decide) (by first | assumption | omega | decide)) ?_
        | refine OpA.quiet (QOp.len_own (by rfl) (by first | exact slk30 | exact slk67) (by rfl) (by rfl) (by rfl) (by rfl)) ?_
        | (refine OpA.quiet (QOp.cat (by rfl) (by rfl) (by rfl) (by first | assumption | (simp only [ByteArray.size_append, bs_size] at *; omega))) ?_)
        | refine OpA.pop (POp.empty (by rfl) (by rfl) (by first | exact rwk30 | exact rwk67)) ?_
        | refine OpA.pop (POp.literal (by rfl) (by first | exact rwk30 | exact rwk67) (by rfl) (by rfl) (by rfl) (by rfl) (by rfl) (by rfl)) ?_
        | refine OpA.allocA (by rfl) (by first | exact ze2 | exact ze3 | exact ze4 | exact ze5 | exact ze6 | exact ze7 | exact ze8 | exact ze9 | exact ze11 | exact ze12 | exact ze17 | exact ze18 | exact ze30 | exact ze67 | exact ze71) ?_
        | refine OpA.sto (by rfl) (by rfl) (by rfl) (by rfl) (by rfl) (by rfl) (by rfl) (by rfl) (by first | exact ldk2 | exact ldk3 | exact ldk4 | exact ldk5 | exact ldk6 | exact ldk7 | exact ldk8 | exact ldk9 | exact ldk11 | exact ldk12 | exact ldk17 | exact ldk18 | exact ldk30 | exact ldk67 | exact ldk71) (by rfl) (Nat.le_of_ble_eq_true (by rfl)) ?_
        | refine OpA.sto (by rfl) (by rfl) (by rfl) (by rfl) (by rfl) (by assumption) (by rfl) (by rfl) (by first | exact ldk2 | exact ldk3 | exact ldk4 | exact ldk5 | exact ldk6 | exact ldk7 | exact ldk8 | exact ldk9 | exact ldk11 | exact ldk12 | exact ldk17 | exact ldk18 | exact ldk30 | exact ldk67 | exact ldk71) (by rfl) (Nat.le_of_ble_eq_true (by rfl)) ?_
        | (refine OpA.pop (POp.append (by rfl) (by first | exact rwk30 | exact rwk67) (by rfl) (by rfl) (by rfl) (by rfl) (by rfl) (by rfl) (by rfl) (SrcA.own (by rfl) (by rfl) (by rfl) (by rfl)) (by first | (simp; omega) | omega | (simp_all; omega)) (by first | (simp [maxLen]; omega) | (simp_all [maxLen]; omega))) ?_)
        | (refine OpA.pop (POp.append (by rfl) (by first | exact rwk30 | exact rwk67) (by rfl) (by rfl) (by rfl) (by rfl) (by rfl) (by rfl) (by rfl) SrcA.ro (by first | (simp; omega) | omega | (simp_all; omega)) (by first | (simp [maxLen]; omega) | (simp_all [maxLen]; omega))) ?_)
        | refine OpA.pcall (by rfl) Tryd.func40 rfl rfl (by rfl) (by first | exact clo_all (by rfl) | (intro x hx; simp only [List.mem_cons, List.not_mem_nil, or_false] at hx; rcases hx with rfl | rfl | rfl | rfl | rfl | rfl | rfl | rfl <;> first | exact clo_of (by rfl) | exact clo_fn _ | assumption)) (joined_i (l.map ptT) _ (by assumption) (by assumption) (by first | assumption | decide)) (by first | exact clo_of (by rfl) | assumption) ?_
        | refine OpA.pcallI hK (by rfl) Tryd.func42 rfl rfl (by rfl) (by first | exact clo_all (by rfl) | (intro x hx; simp only [List.mem_cons, List.not_mem_nil, or_false] at hx; rcases hx with rfl | rfl | rfl | rfl | rfl | rfl | rfl | rfl <;> first | exact clo_of (by rfl) | exact clo_fn _ | assumption)) (ptT_i x (by assumption)) (by first | exact clo_of (by rfl) | assumption) ?_
        | (refine AW.cond (by rfl) (fun h => ?_) ?_; rotate_left; focus (intro h; (try simp only [Bool.not_eq_true', Bool.not_eq_false'] at h); first | (cases h; done) | exact clash (by with_reducible_and_instances assumption) h | exact clash h (by with_reducible_and_instances assumption) | exact absurd h (by decide) | (refine absurd h ?_; simp; done)))
        | (refine AW.cond (by rfl) ?_ (fun h => ?_); focus (intro h; (try simp only [Bool.not_eq_true', Bool.not_eq_false'] at h); first | (cases h; done) | exact clash (by with_reducible_and_instances assumption) h | exact clash h (by with_reducible_and_instances assumption) | exact absurd h (by decide) | (refine absurd h ?_; simp; done)))
        | (refine AW.cond (by rfl) ?_ ?_ <;> (intro h; try simp only [Bool.not_eq_true', Bool.not_eq_false'] at h))
        | refine AW.block ?_
        | refine AW.exit ?_
        | refine AL.nil ?_
        | refine AW.ret ?_) <;> (try dsimp only [dput, List.set, cond_true, cond_false, Nat.zero_add, Nat.add_zero, Nat.reduceAdd, splice, List.take, List.drop, List.length, List.nil_append, List.cons_append, TPoint.en, TSegment.en, TBox.en, TFeature.en, TMeet.en, TPlace.en, TCover.en, TLabel.en, TPiece.en, TLevel.en, TChart.en, TReason.en, TEdit.en, TEntry.en, TEdition.en, TListing.en, TAtlas.en, TEvent.en, TWindow.en]))
      all_goals first
        | (refine ⟨i + 1, _, hlt, by omega, ?_, by rw [hm] <;> rfl, ?_, ?_⟩; (focus ((repeat' (first | exact Wk.nil | refine Wk.any ?_ | (with_reducible refine Wk.same ?_) | refine Wk.of ?_ ?_)) <;> (simp_all))); (focus ((repeat' (first | exact Fits.nil _ | refine Fits.cons ?_ ?_ | exact Fits.any _ | exact Fits.c _ _ | exact Fits.own (by rfl) | exact Fits.ref (by rfl) | exact Fits.clo (by assumption) | exact Fits.clo (clo_of (by rfl)) | exact Fits.clo (clo_fn _))))); (focus (exact fits_row (clo_rowsS cloS))))
    · have ht := lt_false (f := TPoint.en) hlt
      have e : i = l.length := by omega
      subst e
      try rw [List.take_length]
      have hlm : (l.map ptT).length ≤ 1048576 := by simpa using hl
      have hclR : Clo (.ro 1 ((l.map ptT).map (fun s => [S s]))) := clo_list cloS
      rw [take_map_all]
      have hB : ∀ x ∈ l.map ptT, x.size ≤ 67108864 := fun x hx => by
        obtain ⟨y, hy, rfl⟩ := List.mem_map.1 hx
        have := ptT_size (hok y hy)
        omega
      refine AW.freeze (t := 3) (id := 0) rfl rfl rfl rfl (clo_rowsS cloS) ?_
      try dsimp only [dput, List.set, cond_true, cond_false, Nat.zero_add, Nat.add_zero, Nat.reduceAdd, splice, List.take, List.drop, List.length, List.nil_append, List.cons_append, TPoint.en, TSegment.en, TBox.en, TFeature.en, TMeet.en, TPlace.en, TCover.en, TLabel.en, TPiece.en, TLevel.en, TChart.en, TReason.en, TEdit.en, TEntry.en, TEdition.en, TListing.en, TAtlas.en, TEvent.en, TWindow.en]
      repeat' ((first
        | refine AW.seq ?_
        | refine AW.region ?_
        | refine AW.skip ?_
        | refine AL.q TT_ok rfl (by rfl) ?_
        | refine AL.step rfl ?_
        | refine OpA.quiet (QOp.atk_ro (by rfl) (by rfl) (by rfl) (by first | exact slk30 | exact slk67) (Nat.le_of_ble_eq_true (by rfl)) (by first | assumption | omega) (by assumption)) ?_
        | refine OpA.quiet (QOp.ld1_ro (by rfl) (by rfl) (by assumption) (by first | exact ldk2 | exact ldk3 | exact ldk4 | exact ldk5 | exact ldk6 | exact ldk7 | exact ldk8 | exact ldk9 | exact ldk11 | exact ldk12 | exact ldk17 | exact ldk18 | exact ldk30 | exact ldk67 | exact ldk71) (by rfl)) ?_
        | refine OpA.quiet (QOp.ldr_ro (by rfl) (by rfl) (by assumption) (by first | exact ldk2 | exact ldk3 | exact ldk4 | exact ldk5 | exact ldk6 | exact ldk7 | exact ldk8 | exact ldk9 | exact ldk11 | exact ldk12 | exact ldk17 | exact ldk18 | exact ldk30 | exact ldk67 | exact ldk71) (Nat.le_of_ble_eq_true (by rfl))) ?_
        | refine OpA.quiet (QOp.at_own (by rfl) (by first | exact slk30 | exact slk67) (by rfl) (by rfl) (by rfl) (by rfl) (by rfl) (by rfl) (by first | assumption | omega | decide) (by first | assumption | omega | decide)) ?_
        | refine OpA.quiet (QOp.len_own (by rfl) (by first | exact slk30 | exact slk67) (by rfl) (by rfl) (by rfl) (by rfl)) ?_
        | (refine OpA.quiet (QOp.cat (by rfl) (by rfl) (by rfl) (by first | assumption | (simp only [ByteArray.size_append, bs_size] at *; omega))) ?_)
        | refine OpA.pop (POp.empty (by rfl) (by rfl) (by first | exact rwk30 | exact rwk67)) ?_
        | refine OpA.pop (POp.literal (by rfl) (by first | exact rwk30 | exact rwk67) (by rfl) (by rfl) (by rfl) (by rfl) (by rfl) (by rfl)) ?_
        | refine OpA.allocA (by rfl) (by first | exact ze2 | exact ze3 | exact ze4 | exact ze5 | exact ze6 | exact ze7 | exact ze8 | exact ze9 | exact ze11 | exact ze12 | exact ze17 | exact ze18 | exact ze30 | exact ze67 | exact ze71) ?_
        | refine OpA.sto (by rfl) (by rfl) (by rfl) (by rfl) (by rfl) (by rfl) (by rfl) (by rfl) (by first | exact ldk2 | exact ldk3 | exact ldk4 | exact ldk5 | exact ldk6 | exact ldk7 | exact ldk8 | exact ldk9 | exact ldk11 | exact ldk12 | exact ldk17 | exact ldk18 | exact ldk30 | exact ldk67 | exact ldk71) (by rfl) (Nat.le_of_ble_eq_true (by rfl)) ?_
        | refine OpA.sto (by rfl) (by rfl) (by rfl) (by rfl) (by rfl) (by assumption) (by rfl) (by rfl) (by first | exact ldk2 | exact ldk3 | exact ldk4 | exact ldk5 | exact ldk6 | exact ldk7 | exact ldk8 | exact ldk9 | exact ldk11 | exact ldk12 | exact ldk17 | exact ldk18 | exact ldk30 | exact ldk67 | exact ldk71) (by rfl) (Nat.le_of_ble_eq_true (by rfl)) ?_
        | (refine OpA.pop (POp.append (by rfl) (by first | exact rwk30 | exact rwk67) (by rfl) (by rfl) (by rfl) (by rfl) (by rfl) (by rfl) (by rfl) (SrcA.own (by rfl) (by rfl) (by rfl) (by rfl)) (by first | (simp; omega) | omega | (simp_all; omega)) (by first | (simp [maxLen]; omega) | (simp_all [maxLen]; omega))) ?_)
        | (refine OpA.pop (POp.append (by rfl) (by first | exact rwk30 | exact rwk67) (by rfl) (by rfl) (by rfl) (by rfl) (by rfl) (by rfl) (by rfl) SrcA.ro (by first | (simp; omega) | omega | (simp_all; omega)) (by first | (simp [maxLen]; omega) | (simp_all [maxLen]; omega))) ?_)
        | refine OpA.pcall (by rfl) Tryd.func40 rfl rfl (by rfl) (by first | exact clo_all (by rfl) | (intro x hx; simp only [List.mem_cons, List.not_mem_nil, or_false] at hx; rcases hx with rfl | rfl | rfl | rfl | rfl | rfl | rfl | rfl <;> first | exact clo_of (by rfl) | exact clo_fn _ | assumption)) (joined_i (l.map ptT) _ (by assumption) (by assumption) (by first | assumption | decide)) (by first | exact clo_of (by rfl) | assumption) ?_
        | refine OpA.pcallI hK (by rfl) Tryd.func42 rfl rfl (by rfl) (by first | exact clo_all (by rfl) | (intro x hx; simp only [List.mem_cons, List.not_mem_nil, or_false] at hx; rcases hx with rfl | rfl | rfl | rfl | rfl | rfl | rfl | rfl <;> first | exact clo_of (by rfl) | exact clo_fn _ | assumption)) (ptT_i x (by assumption)) (by first | exact clo_of (by rfl) | assumption) ?_
        | (refine AW.cond (by rfl) (fun h => ?_) ?_; rotate_left; focus (intro h; (try simp only [Bool.not_eq_true', Bool.not_eq_false'] at h); first | (cases h; done) | exact clash (by with_reducible_and_instances assumption) h | exact clash h (by with_reducible_and_instances assumption) | exact absurd h (by decide) | (refine absurd h ?_; simp; done)))
        | (refine AW.cond (by rfl) ?_ (fun h => ?_); focus (intro h; (try simp only [Bool.not_eq_true', Bool.not_eq_false'] at h); first | (cases h; done) | exact clash (by with_reducible_and_instances assumption) h | exact clash h (by with_reducible_and_instances assumption) | exact absurd h (by decide) | (refine absurd h ?_; simp; done)))
        | (refine AW.cond (by rfl) ?_ ?_ <;> (intro h; try simp only [Bool.not_eq_true', Bool.not_eq_false'] at h))
        | refine AW.block ?_
        | refine AW.exit ?_
        | refine AL.nil ?_
        | refine AW.ret ?_) <;> (try dsimp only [dput, List.set, cond_true, cond_false, Nat.zero_add, Nat.add_zero, Nat.reduceAdd, splice, List.take, List.drop, List.length, List.nil_append, List.cons_append, TPoint.en, TSegment.en, TBox.en, TFeature.en, TMeet.en, TPlace.en, TCover.en, TLabel.en, TPiece.en, TLevel.en, TChart.en, TReason.en, TEdit.en, TEntry.en, TEdition.en, TListing.en, TAtlas.en, TEvent.en, TWindow.en]))
      all_goals exact Fin.one rfl (RV.tmp (by rfl)) (clo_c _) ⟨rfl, rfl⟩

set_option maxRecDepth 100000 in
set_option maxHeartbeats 2000000 in
theorem law_FnExactFormatPoints (l : List TPoint) (h0 : (l.length ≤ maxLen ∧ ∀ x ∈ l, x.ok)) : VCallsI Tryd.prog TabI 4 [.ro 2 (l.map TPoint.en)] (fun r M => r = B true ∧ M = []) := by
  refine VCallsI.bodyE Tryd.func4 rfl 26 rfl (fun E hE hK => ?_)
  simp only [List.reduceReplicate, List.cons_append, List.nil_append]
  have hclo_l : Clo (.ro 2 (l.map TPoint.en)) := clo_list TPoint.clo_en
  obtain ⟨hl0, hp0⟩ := id h0
  rw [maxLen_eq] at hl0
  have hok := h0.2
  have hclR : Clo (.ro 2 (l.map TPoint.en)) := clo_list TPoint.clo_en
  rcases Szs.split (Szs.flat (ok := TPoint.ok)) l 1048576 h0 (by decide) (by decide) with hz | ⟨hz, hl0', hz0, hz1⟩
  repeat' ((first
    | refine AW.seq ?_
    | refine AW.region ?_
    | refine AW.skip ?_
    | refine AL.q TT_ok rfl (by rfl) ?_
    | refine AL.step rfl ?_
    | refine OpA.quiet (QOp.sEq (by rfl) (by rfl) (by rfl) (by first | exact flk71.1) (by rfl) (by rfl) (by rfl) (by rfl) (by rfl) (by rfl) (by rfl) (by rfl)) ?_
    | refine OpA.pcall (by rfl) Tryd.func13 rfl rfl (by rfl) (by first | exact clo_all (by rfl) | (intro x hx; simp only [List.mem_cons, List.not_mem_nil, or_false] at hx; rcases hx with rfl | rfl | rfl | rfl | rfl | rfl | rfl | rfl <;> first | exact clo_of (by rfl) | exact clo_fn _ | assumption)) (szPointS _ _) (by first | exact clo_of (by rfl) | assumption) ?_
    | refine OpA.pcall (by rfl) Tryd.func14 rfl rfl (by rfl) (by first | exact clo_all (by rfl) | (intro x hx; simp only [List.mem_cons, List.not_mem_nil, or_false] at hx; rcases hx with rfl | rfl | rfl | rfl | rfl | rfl | rfl | rfl <;> first | exact clo_of (by rfl) | exact clo_fn _ | assumption)) (pts_s _ (by assumption) (by assumption)) (by first | exact clo_of (by rfl) | assumption) ?_
    | refine OpA.pcall (by rfl) Tryd.func15 rfl rfl (by rfl) (by first | exact clo_all (by rfl) | (intro x hx; simp only [List.mem_cons, List.not_mem_nil, or_false] at hx; rcases hx with rfl | rfl | rfl | rfl | rfl | rfl | rfl | rfl <;> first | exact clo_of (by rfl) | exact clo_fn _ | assumption)) (toPointS _ (by assumption)) (by first | exact clo_of (by rfl) | assumption) ?_
    | refine OpA.pcallI hK (by rfl) Tryd.func16 rfl rfl (by rfl) (by first | exact clo_all (by rfl) | (intro x hx; simp only [List.mem_cons, List.not_mem_nil, or_false] at hx; rcases hx with rfl | rfl | rfl | rfl | rfl | rfl | rfl | rfl <;> first | exact clo_of (by rfl) | exact clo_fn _ | assumption)) (pts_i _ (by assumption) (by assumption)) (by first | exact clo_of (by rfl) | assumption) ?_
    | refine OpA.pcall (by rfl) Tryd.func17 rfl rfl (by rfl) (by first | exact clo_all (by rfl) | (intro x hx; simp only [List.mem_cons, List.not_mem_nil, or_false] at hx; rcases hx with rfl | rfl | rfl | rfl | rfl | rfl | rfl | rfl <;> first | exact clo_of (by rfl) | exact clo_fn _ | assumption)) (eqPointS_self _ (by assumption)) (by first | exact clo_of (by rfl) | assumption) ?_
    | (refine AW.cond (by rfl) (fun h => ?_) ?_; rotate_left; focus (intro h; (try simp only [Bool.not_eq_true', Bool.not_eq_false'] at h); first | (cases h; done) | exact clash (by with_reducible_and_instances assumption) h | exact clash h (by with_reducible_and_instances assumption) | exact absurd h (by decide) | (refine absurd h ?_; simp; done)))
    | (refine AW.cond (by rfl) ?_ (fun h => ?_); focus (intro h; (try simp only [Bool.not_eq_true', Bool.not_eq_false'] at h); first | (cases h; done) | exact clash (by with_reducible_and_instances assumption) h | exact clash h (by with_reducible_and_instances assumption) | exact absurd h (by decide) | (refine absurd h ?_; simp; done)))
    | (refine AW.cond (by rfl) ?_ ?_ <;> (intro h; try simp only [Bool.not_eq_true', Bool.not_eq_false'] at h))
    | refine AL.nil ?_
    | refine AW.ret ?_) <;> (try dsimp only [dput, List.set, cond_true, cond_false, Nat.zero_add, Nat.add_zero, Nat.reduceAdd, splice, List.take, List.drop, List.length, List.nil_append, List.cons_append, TPoint.en, TSegment.en, TBox.en, TFeature.en, TMeet.en, TPlace.en, TCover.en, TLabel.en, TPiece.en, TLevel.en, TChart.en, TReason.en, TEdit.en, TEntry.en, TEdition.en, TListing.en, TAtlas.en, TEvent.en, TWindow.en]))
  all_goals exact Fin.one rfl (RV.tmp (by rfl)) (clo_c _) ⟨by first | rfl | (simp_all; done), rfl⟩

end Go.Proofs.YtbkcoechoblndaaDoor.Abs
