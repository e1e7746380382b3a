/- The walks of FormatFeature. -/
import Derived.Test.YtbkcoechoblndaaDoorWkFacts
import Derived.Test.YtbkcoechoblndaaDoorWkPoints
namespace Go.Proofs.YtbkcoechoblndaaDoor.Abs
open Go.Proofs Go.RowKit
set_option linter.unusedVariables false
set_option linter.unusedSimpArgs false
def inr (a b c : Int) : Bool := decide (b ≤ a) && decide (a ≤ c)
def kindT (k : Int) : ByteArray := if k = 1 then ⟨#[112]⟩ else if k = 2 then ⟨#[108]⟩ else if k = 3 then ⟨#[97]⟩ else ⟨#[63]⟩
def nameT (s : ByteArray) : ByteArray := if (s.toList == (⟨#[]⟩ : ByteArray).toList) = true then ⟨#[45]⟩ else s
def ftT (x : TFeature) : ByteArray := kindT x.kind ++ fmtI x.id ++ ⟨#[58]⟩ ++ fmtI x.rank ++ ⟨#[58]⟩ ++ nameT x.name ++ ⟨#[58]⟩ ++ ptsT x.points
theorem kd_cases (k : Int) : (k = 1 ∧ kindT k = ⟨#[112]⟩) ∨ (k = 2 ∧ kindT k = ⟨#[108]⟩) ∨ (k = 3 ∧ kindT k = ⟨#[97]⟩) ∨ (kindT k = ⟨#[63]⟩ ∧ inr k 1 3 = false ∧ (k == 1) = false ∧ (k == 2) = false ∧ (k == 3) = false) := by
  by_cases h1 : k = 1
  · exact .inl ⟨h1, by rw [h1]; rfl⟩
  · by_cases h2 : k = 2
    · exact .inr (.inl ⟨h2, by rw [h2]; rfl⟩)
    · by_cases h3 : k = 3
      · exact .inr (.inr (.inl ⟨h3, by rw [h3]; rfl⟩))
      · refine .inr (.inr (.inr ⟨by unfold kindT; rw [if_neg h1, if_neg h2, if_neg h3], ?_, by simpa using h1, by simpa using h2, by simpa using h3⟩))
        simp [inr]
        omega
theorem nm_cases (s : ByteArray) : ((s.toList == (⟨#[]⟩ : ByteArray).toList) = true ∧ nameT s = ⟨#[45]⟩) ∨ ((s.toList == (⟨#[]⟩ : ByteArray).toList) = false ∧ nameT s = s) := by
  unfold nameT
  cases h : (s.toList == (⟨#[]⟩ : ByteArray).toList)
  · exact .inr ⟨rfl, by simp⟩
  · exact .inl ⟨rfl, by simp⟩
theorem kindT_size (k : Int) : (kindT k).size ≤ 1 := by
  unfold kindT
  repeat' split
  all_goals decide
theorem nameT_size {s : ByteArray} (h : s.size ≤ 1048576) : (nameT s).size ≤ 1048576 := by
  unfold nameT
  split
  · decide
  · exact h
theorem ft_sizes {x : TFeature} (hk : x.ok) (hs : x.points.length ≤ 1048576) (hn : x.name.size ≤ 1048576) :
    (kindT x.kind).size + (fmtI x.id).size ≤ 9223372036854775807 ∧ (kindT x.kind ++ fmtI x.id).size + (⟨#[58]⟩ : ByteArray).size ≤ 9223372036854775807 ∧ (kindT x.kind ++ fmtI x.id ++ ⟨#[58]⟩).size + (fmtI x.rank).size ≤ 9223372036854775807 ∧
    (kindT x.kind ++ fmtI x.id ++ ⟨#[58]⟩ ++ fmtI x.rank).size + (⟨#[58]⟩ : ByteArray).size ≤ 9223372036854775807 ∧ (kindT x.kind ++ fmtI x.id ++ ⟨#[58]⟩ ++ fmtI x.rank ++ ⟨#[58]⟩).size + (nameT x.name).size ≤ 9223372036854775807 ∧
    (kindT x.kind ++ fmtI x.id ++ ⟨#[58]⟩ ++ fmtI x.rank ++ ⟨#[58]⟩ ++ nameT x.name).size + (⟨#[58]⟩ : ByteArray).size ≤ 9223372036854775807 ∧ (kindT x.kind ++ fmtI x.id ++ ⟨#[58]⟩ ++ fmtI x.rank ++ ⟨#[58]⟩ ++ nameT x.name ++ ⟨#[58]⟩).size + (ptsT x.points).size ≤ 9223372036854775807 ∧ (ftT x).size ≤ 67108864 := by
  have h1 := fmtI_size hk.1
  have h2 := fmtI_size hk.2.2.1
  have h3 := kindT_size x.kind
  have h4 := nameT_size hn
  have h5 : (⟨#[58]⟩ : ByteArray).size = 1 := rfl
  have h6 := ptsT_size hk.2.2.2.2.2
  unfold ftT
  simp only [ByteArray.size_append]
  omega
theorem TFeature.szn : Szs TFeature.sz TFeature.ok (fun x => x.name.size ≤ 1048576) := by
  intro x left hk h0 h1 hp
  refine ⟨?_, (TFeature.szs x left hk h0 h1 hp).2⟩
  unfold TFeature.sz at hp
  obtain ⟨p, e⟩ := thenS_ge hp
  have := wsub_ge hk.2.2.2.1 h0 h1
  omega

set_option maxRecDepth 100000 in
set_option maxHeartbeats 2000000 in
theorem inr_s (a b c : Int) : VCalls Tryd.prog 53 [I a, I b, I c] (fun r M => r = B (inr a b c) ∧ M = []) := by
  refine VCalls.body Tryd.func53 rfl 12 rfl (fun E => ?_)
  simp only [List.reduceReplicate, List.cons_append, List.nil_append]
  repeat' ((first
    | refine AW.seq ?_
    | refine AW.region ?_
    | refine AW.skip ?_
    | refine AL.q TT_ok rfl (by rfl) ?_
    | refine AL.step rfl ?_
    | refine OpA.q TT_ok (by rfl) ?_
    | (refine OpA.quiet (QOp.pickT (by rfl) (by rfl) ?_ (by rfl)) ?_; focus (first | (with_reducible rfl) | (with_reducible_and_instances assumption) | (simp only [Bool.not_eq_true', Bool.not_eq_false']; with_reducible_and_instances assumption)))
    | (refine OpA.quiet (QOp.pickF (by rfl) (by rfl) ?_ (by rfl)) ?_; focus (first | (with_reducible rfl) | (with_reducible_and_instances assumption) | (simp only [Bool.not_eq_true', Bool.not_eq_false']; with_reducible_and_instances assumption)))
    | refine OpA.quiet (QOp.pickAnd (by rfl) (by rfl) (by rfl) (by rfl) (by rfl)) ?_
    | refine OpA.quiet (QOp.pickOr (by rfl) (by rfl) (by rfl) (by rfl) (by rfl)) ?_
    | refine AL.guardU (by rfl) (by rfl) (by rfl) (by rfl) ?_
    | refine AL.gF (by rfl) (by rfl) (by rfl) (by rfl) (by first | rfl | assumption) ?_
    | refine AL.gT (by rfl) (by rfl) (by rfl) (by rfl) (by first | rfl | assumption) ?_
    | refine AL.guardW (by rfl) (by rfl) (by rfl) (by rfl) (fun h => by (try rw [h]); first | exact OpA.quietW (QOp.quietA TT_ok (by rfl)) | exact OpA.quietW (QOp.pickAnd (by rfl) (by rfl) (by rfl) (by rfl) (by rfl)) | exact OpA.quietW (QOp.pickOr (by rfl) (by rfl) (by rfl) (by rfl) (by rfl))) ?_
    | (refine AL.guardT (by rfl) (by rfl) (by rfl) (by rfl) (fun h => ?_) ?_; rotate_left; focus (intro h; (try simp only [Bool.not_eq_true', Bool.not_eq_false'] at h); first | (cases h; done) | exact clash (by with_reducible_and_instances assumption) h | exact clash h (by with_reducible_and_instances assumption) | exact absurd h (by decide) | (refine absurd h ?_; simp; done)))
    | (refine AL.guardT (by rfl) (by rfl) (by rfl) (by rfl) ?_ (fun h => ?_); focus (intro h; (try simp only [Bool.not_eq_true', Bool.not_eq_false'] at h); first | (cases h; done) | exact clash (by with_reducible_and_instances assumption) h | exact clash h (by with_reducible_and_instances assumption) | exact absurd h (by decide) | (refine absurd h ?_; simp; done)))
    | (refine AL.guardT (by rfl) (by rfl) (by rfl) (by rfl) ?_ ?_ <;> (intro h; try simp only [Bool.not_eq_true', Bool.not_eq_false'] at h))
    | (refine AL.guardF (by rfl) (by rfl) (by rfl) (by rfl) (fun h => ?_) ?_; rotate_left; focus (intro h; (try simp only [Bool.not_eq_true', Bool.not_eq_false'] at h); first | (cases h; done) | exact clash (by with_reducible_and_instances assumption) h | exact clash h (by with_reducible_and_instances assumption) | exact absurd h (by decide) | (refine absurd h ?_; simp; done)))
    | (refine AL.guardF (by rfl) (by rfl) (by rfl) (by rfl) ?_ (fun h => ?_); focus (intro h; (try simp only [Bool.not_eq_true', Bool.not_eq_false'] at h); first | (cases h; done) | exact clash (by with_reducible_and_instances assumption) h | exact clash h (by with_reducible_and_instances assumption) | exact absurd h (by decide) | (refine absurd h ?_; simp; done)))
    | (refine AL.guardF (by rfl) (by rfl) (by rfl) (by rfl) ?_ ?_ <;> (intro h; try simp only [Bool.not_eq_true', Bool.not_eq_false'] at h))
    | refine AL.nil ?_
    | refine AW.ret ?_) <;> (try dsimp only [dput, List.set, cond_true, cond_false, Nat.zero_add, Nat.add_zero, Nat.reduceAdd, splice, List.take, List.drop, List.length, List.nil_append, List.cons_append, TPoint.en, TSegment.en, TBox.en, TFeature.en, TMeet.en, TPlace.en, TCover.en, TLabel.en, TPiece.en, TLevel.en, TChart.en, TReason.en, TEdit.en, TEntry.en, TEdition.en, TListing.en, TAtlas.en, TEvent.en, TWindow.en]))
  all_goals exact Fin.one rfl (RV.tmp (by rfl)) (clo_c _) ⟨by first | rfl | (simp_all [inr]; done), rfl⟩

theorem sl1 (w : World) : (Instr.sliceAt 9 (.string ⟨#[32, 112, 108, 97]⟩) (some (.int .i64 1)) (some (.int .i64 2)) none).run Tryd.prog w = .ok (.string ⟨#[112]⟩) w := by kernel_rfl
theorem sl2 (w : World) : (Instr.sliceAt 9 (.string ⟨#[32, 112, 108, 97]⟩) (some (.int .i64 2)) (some (.int .i64 3)) none).run Tryd.prog w = .ok (.string ⟨#[108]⟩) w := by kernel_rfl
theorem sl3 (w : World) : (Instr.sliceAt 9 (.string ⟨#[32, 112, 108, 97]⟩) (some (.int .i64 3)) (some (.int .i64 4)) none).run Tryd.prog w = .ok (.string ⟨#[97]⟩) w := by kernel_rfl
set_option maxRecDepth 100000 in
set_option maxHeartbeats 2000000 in
theorem ft_s (x : TFeature) (hk : x.ok) (hs : x.points.length ≤ 1048576) (hn : x.name.size ≤ 1048576) : VCalls Tryd.prog 28 [.agg x.en] (fun r M => r = S (ftT x) ∧ M = []) := by
  refine VCalls.body Tryd.func28 rfl 35 rfl (fun E => ?_)
  simp only [List.reduceReplicate, List.cons_append, List.nil_append]
  have hsz := ft_sizes hk hs hn
  obtain ⟨id, kind, rank, name, points⟩ := x
  have hx1 := hk.1
  have hx2 := hk.2.2.1
  have hok := hk.2.2.2.2.2
  have hcl0 : Clo (.ro 2 (points.map TPoint.en)) := clo_list TPoint.clo_en
  dsimp only [TFeature.en] at *
  have hft : ftT ⟨id, kind, rank, name, points⟩ = kindT kind ++ fmtI id ++ ⟨#[58]⟩ ++ fmtI rank ++ ⟨#[58]⟩ ++ nameT name ++ ⟨#[58]⟩ ++ ptsT points := rfl
  rw [hft]
  rcases kd_cases kind with ⟨rfl, hkT⟩ | ⟨rfl, hkT⟩ | ⟨rfl, hkT⟩ | ⟨hkT, hin, hq1, hq2, hq3⟩ <;> rcases nm_cases name with ⟨hnm, hnT⟩ | ⟨hnm, hnT⟩ <;> rw [hkT, hnT] at hsz ⊢ <;> obtain ⟨hz1, hz2, hz3, hz4, hz5, hz6, hz7, _⟩ := hsz
  repeat' ((first
    | refine AW.seq ?_
    | refine AW.region ?_
    | refine AW.skip ?_
    | refine AL.q TT_ok rfl (by rfl) ?_
    | refine AL.step rfl ?_
    | refine OpA.quiet (QOp.ld1_ro (by rfl) (by rfl) (by assumption) (by first | exact ldk2 | exact ldk3 | exact ldk4 | exact ldk5 | exact ldk6 | exact ldk8 | exact ldk9 | exact ldk10 | exact ldk11 | exact ldk12 | exact ldk13 | exact ldk14 | exact ldk15 | exact ldk16 | exact ldk17 | exact ldk18 | exact ldk19 | exact ldk21 | exact ldk22 | exact ldk27 | exact ldk30 | exact ldk50 | exact ldk71 | exact ldk73) (by rfl)) ?_
    | refine OpA.quiet (QOp.ldr_ro (by rfl) (by rfl) (by assumption) (by first | exact ldk2 | exact ldk3 | exact ldk4 | exact ldk5 | exact ldk6 | exact ldk8 | exact ldk9 | exact ldk10 | exact ldk11 | exact ldk12 | exact ldk13 | exact ldk14 | exact ldk15 | exact ldk16 | exact ldk17 | exact ldk18 | exact ldk19 | exact ldk21 | exact ldk22 | exact ldk27 | exact ldk30 | exact ldk50 | exact ldk71 | exact ldk73) (Nat.le_of_ble_eq_true (by rfl))) ?_
    | refine OpA.quiet (QOp.sEq (by rfl) (by rfl) (by rfl) (by first | exact flk71.1) (by rfl) (by rfl) (by rfl) (by rfl) (by rfl) (by rfl) (by rfl) (by rfl)) ?_
    | (refine OpA.quiet (QOp.cat (by rfl) (by rfl) (by rfl) (by first | assumption | (simp only [ByteArray.size_append, bs_size] at *; omega))) ?_)
    | refine OpA.box (by rfl) (by rfl) (by rfl) ?_
    | refine OpA.pcall (by rfl) Tryd.func14 rfl rfl (by rfl) (by first | exact clo_all (by rfl) | (intro x hx; simp only [List.mem_cons, List.not_mem_nil, or_false] at hx; rcases hx with rfl | rfl | rfl | rfl | rfl | rfl | rfl | rfl <;> first | exact clo_of (by rfl) | exact clo_fn _ | assumption)) (pts_s _ (by assumption) (by assumption)) (by first | exact clo_of (by rfl) | assumption) ?_
    | refine OpA.pcall (by rfl) Tryd.func37 rfl rfl (by rfl) (by first | exact clo_all (by rfl) | (intro x hx; simp only [List.mem_cons, List.not_mem_nil, or_false] at hx; rcases hx with rfl | rfl | rfl | rfl | rfl | rfl | rfl | rfl <;> first | exact clo_of (by rfl) | exact clo_fn _ | assumption)) (fmt_s _ (by assumption)) (by first | exact clo_of (by rfl) | assumption) ?_
    | refine OpA.pcall (by rfl) Tryd.func53 rfl rfl (by rfl) (by first | exact clo_all (by rfl) | (intro x hx; simp only [List.mem_cons, List.not_mem_nil, or_false] at hx; rcases hx with rfl | rfl | rfl | rfl | rfl | rfl | rfl | rfl <;> first | exact clo_of (by rfl) | exact clo_fn _ | assumption)) (inr_s _ _ _) (by first | exact clo_of (by rfl) | assumption) ?_
    | refine OpA.quiet (QOp.sliceK (by rfl) (by rfl) (by rfl) (by rfl) (by first | exact sl1 | exact sl2 | exact sl3)) ?_
    | refine AW.drawn (id := 7) 17 (by kernel_rfl) (by kernel_rfl) (by rfl) ?_
    | refine DL.q TT_ok rfl (by rfl) ?_
    | refine DL.p rfl (POp.quiet (QOp.ld1_ro (by rfl) (by rfl) (by assumption) (by first | exact ldk2 | exact ldk3 | exact ldk4 | exact ldk5 | exact ldk6 | exact ldk8 | exact ldk9 | exact ldk10 | exact ldk11 | exact ldk12 | exact ldk13 | exact ldk14 | exact ldk15 | exact ldk16 | exact ldk17 | exact ldk18 | exact ldk19 | exact ldk21 | exact ldk22 | exact ldk27 | exact ldk30 | exact ldk50 | exact ldk71 | exact ldk73) (by rfl))) ?_
    | refine DL.p rfl (POp.quiet (QOp.ldr_ro (by rfl) (by rfl) (by assumption) (by first | exact ldk2 | exact ldk3 | exact ldk4 | exact ldk5 | exact ldk6 | exact ldk8 | exact ldk9 | exact ldk10 | exact ldk11 | exact ldk12 | exact ldk13 | exact ldk14 | exact ldk15 | exact ldk16 | exact ldk17 | exact ldk18 | exact ldk19 | exact ldk21 | exact ldk22 | exact ldk27 | exact ldk30 | exact ldk50 | exact ldk71 | exact ldk73) (Nat.le_of_ble_eq_true (by rfl)))) ?_
    | refine DL.p rfl (POp.quiet (QOp.sEq (by rfl) (by rfl) (by rfl) (by first | exact flk71.1) (by rfl) (by rfl) (by rfl) (by rfl) (by rfl) (by rfl) (by rfl) (by rfl))) ?_
    | (refine DL.p rfl (POp.quiet (QOp.cat (by rfl) (by rfl) (by rfl) (by first | assumption | (simp only [ByteArray.size_append, bs_size] at *; omega)))) ?_)
    | (refine DL.p rfl (POp.pcall (by rfl) Tryd.func14 rfl rfl (by rfl) (by first | exact clo_all (by rfl) | (intro x hx; simp only [List.mem_cons, List.not_mem_nil, or_false] at hx; rcases hx with rfl | rfl | rfl | rfl | rfl | rfl | rfl | rfl <;> first | exact clo_of (by rfl) | exact clo_fn _ | assumption)) (pts_s _ (by assumption) (by assumption)) (by first | exact clo_of (by rfl) | assumption)) ?_)
    | (refine DL.p rfl (POp.pcall (by rfl) Tryd.func37 rfl rfl (by rfl) (by first | exact clo_all (by rfl) | (intro x hx; simp only [List.mem_cons, List.not_mem_nil, or_false] at hx; rcases hx with rfl | rfl | rfl | rfl | rfl | rfl | rfl | rfl <;> first | exact clo_of (by rfl) | exact clo_fn _ | assumption)) (fmt_s _ (by assumption)) (by first | exact clo_of (by rfl) | assumption)) ?_)
    | (refine DL.p rfl (POp.pcall (by rfl) Tryd.func53 rfl rfl (by rfl) (by first | exact clo_all (by rfl) | (intro x hx; simp only [List.mem_cons, List.not_mem_nil, or_false] at hx; rcases hx with rfl | rfl | rfl | rfl | rfl | rfl | rfl | rfl <;> first | exact clo_of (by rfl) | exact clo_fn _ | assumption)) (inr_s _ _ _) (by first | exact clo_of (by rfl) | assumption)) ?_)
    | refine DL.nil ?_
    | (refine AW.cond (by rfl) (fun h => ?_) ?_; rotate_left; focus (intro h; (try simp only [Bool.not_eq_true', Bool.not_eq_false'] at h); first | (cases h; done) | exact clash (by with_reducible_and_instances assumption) h | exact clash h (by with_reducible_and_instances assumption) | exact absurd h (by decide) | (refine absurd h ?_; simp; done)))
    | (refine AW.cond (by rfl) ?_ (fun h => ?_); focus (intro h; (try simp only [Bool.not_eq_true', Bool.not_eq_false'] at h); first | (cases h; done) | exact clash (by with_reducible_and_instances assumption) h | exact clash h (by with_reducible_and_instances assumption) | exact absurd h (by decide) | (refine absurd h ?_; simp; done)))
    | (refine AW.cond (by rfl) ?_ ?_ <;> (intro h; try simp only [Bool.not_eq_true', Bool.not_eq_false'] at h))
    | refine AL.nil ?_
    | refine AW.ret ?_) <;> (try dsimp only [dput, List.set, cond_true, cond_false, Nat.zero_add, Nat.add_zero, Nat.reduceAdd, splice, List.take, List.drop, List.length, List.nil_append, List.cons_append, TPoint.en, TSegment.en, TBox.en, TFeature.en, TMeet.en, TPlace.en, TCover.en, TLabel.en, TPiece.en, TLevel.en, TChart.en, TReason.en, TEdit.en, TEntry.en, TEdition.en, TListing.en, TAtlas.en, TEvent.en, TWindow.en]))
  all_goals exact Fin.one rfl (RV.tmp (by rfl)) (clo_c _) ⟨rfl, rfl⟩

set_option maxRecDepth 100000 in
set_option maxHeartbeats 2000000 in
theorem ft_i (x : TFeature) (hk : x.ok) (hs : x.points.length ≤ 1048576) (hn : x.name.size ≤ 1048576) : VCallsI Tryd.prog TabI 30 [.agg x.en] (fun r M => r = S (ftT x) ∧ M = []) := by
  refine VCallsI.bodyE Tryd.func30 rfl 34 rfl (fun E hE hK => ?_)
  simp only [List.reduceReplicate, List.cons_append, List.nil_append]
  have hsz := ft_sizes hk hs hn
  obtain ⟨id, kind, rank, name, points⟩ := x
  have hx1 := hk.1
  have hx2 := hk.2.2.1
  have hok := hk.2.2.2.2.2
  have hcl0 : Clo (.ro 2 (points.map TPoint.en)) := clo_list TPoint.clo_en
  dsimp only [TFeature.en] at *
  have hft : ftT ⟨id, kind, rank, name, points⟩ = kindT kind ++ fmtI id ++ ⟨#[58]⟩ ++ fmtI rank ++ ⟨#[58]⟩ ++ nameT name ++ ⟨#[58]⟩ ++ ptsT points := rfl
  rw [hft]
  rcases kd_cases kind with ⟨rfl, hkT⟩ | ⟨rfl, hkT⟩ | ⟨rfl, hkT⟩ | ⟨hkT, hin, hq1, hq2, hq3⟩ <;> rcases nm_cases name with ⟨hnm, hnT⟩ | ⟨hnm, hnT⟩ <;> rw [hkT, hnT] at hsz ⊢ <;> obtain ⟨hz1, hz2, hz3, hz4, hz5, hz6, hz7, _⟩ := hsz
  repeat' ((first
    | refine AW.seq ?_
    | refine AW.region ?_
    | refine AW.skip ?_
    | refine AL.q TT_ok rfl (by rfl) ?_
    | refine AL.step rfl ?_
    | refine OpA.quiet (QOp.ld1_ro (by rfl) (by rfl) (by assumption) (by first | exact ldk2 | exact ldk3 | exact ldk4 | exact ldk5 | exact ldk6 | exact ldk7 | exact ldk8 | exact ldk9 | exact ldk10 | exact ldk12 | exact ldk14 | exact ldk15 | exact ldk17 | exact ldk18 | exact ldk21 | exact ldk22 | exact ldk27 | exact ldk30 | exact ldk50 | exact ldk71 | exact ldk73) (by rfl)) ?_
    | refine OpA.quiet (QOp.ldr_ro (by rfl) (by rfl) (by assumption) (by first | exact ldk2 | exact ldk3 | exact ldk4 | exact ldk5 | exact ldk6 | exact ldk7 | exact ldk8 | exact ldk9 | exact ldk10 | exact ldk12 | exact ldk14 | exact ldk15 | exact ldk17 | exact ldk18 | exact ldk21 | exact ldk22 | exact ldk27 | exact ldk30 | exact ldk50 | exact ldk71 | exact ldk73) (Nat.le_of_ble_eq_true (by rfl))) ?_
    | refine OpA.quiet (QOp.sEq (by rfl) (by rfl) (by rfl) (by first | exact flk71.1) (by rfl) (by rfl) (by rfl) (by rfl) (by rfl) (by rfl) (by rfl) (by rfl)) ?_
    | (refine OpA.quiet (QOp.cat (by rfl) (by rfl) (by rfl) (by first | assumption | (simp only [ByteArray.size_append, bs_size] at *; omega))) ?_)
    | refine OpA.box (by rfl) (by rfl) (by rfl) ?_
    | refine OpA.pcallI hK (by rfl) Tryd.func16 rfl rfl (by rfl) (by first | exact clo_all (by rfl) | (intro x hx; simp only [List.mem_cons, List.not_mem_nil, or_false] at hx; rcases hx with rfl | rfl | rfl | rfl | rfl | rfl | rfl | rfl <;> first | exact clo_of (by rfl) | exact clo_fn _ | assumption)) (pts_i _ (by assumption) (by assumption)) (by first | exact clo_of (by rfl) | assumption) ?_
    | refine OpA.pcallI hK (by rfl) Tryd.func39 rfl rfl (by rfl) (by first | exact clo_all (by rfl) | (intro x hx; simp only [List.mem_cons, List.not_mem_nil, or_false] at hx; rcases hx with rfl | rfl | rfl | rfl | rfl | rfl | rfl | rfl <;> first | exact clo_of (by rfl) | exact clo_fn _ | assumption)) (fmt_i _ (by assumption)) (by first | exact clo_of (by rfl) | assumption) ?_
    | refine AW.drawn (id := 1) 3 (by kernel_rfl) (by kernel_rfl) (by rfl) ?_
    | refine AW.drawn (id := 11) 17 (by kernel_rfl) (by kernel_rfl) (by rfl) ?_
    | refine DL.q TT_ok rfl (by rfl) ?_
    | refine DL.p rfl (POp.quiet (QOp.ld1_ro (by rfl) (by rfl) (by assumption) (by first | exact ldk2 | exact ldk3 | exact ldk4 | exact ldk5 | exact ldk6 | exact ldk7 | exact ldk8 | exact ldk9 | exact ldk10 | exact ldk12 | exact ldk14 | exact ldk15 | exact ldk17 | exact ldk18 | exact ldk21 | exact ldk22 | exact ldk27 | exact ldk30 | exact ldk50 | exact ldk71 | exact ldk73) (by rfl))) ?_
    | refine DL.p rfl (POp.quiet (QOp.ldr_ro (by rfl) (by rfl) (by assumption) (by first | exact ldk2 | exact ldk3 | exact ldk4 | exact ldk5 | exact ldk6 | exact ldk7 | exact ldk8 | exact ldk9 | exact ldk10 | exact ldk12 | exact ldk14 | exact ldk15 | exact ldk17 | exact ldk18 | exact ldk21 | exact ldk22 | exact ldk27 | exact ldk30 | exact ldk50 | exact ldk71 | exact ldk73) (Nat.le_of_ble_eq_true (by rfl)))) ?_
    | refine DL.p rfl (POp.quiet (QOp.sEq (by rfl) (by rfl) (by rfl) (by first | exact flk71.1) (by rfl) (by rfl) (by rfl) (by rfl) (by rfl) (by rfl) (by rfl) (by rfl))) ?_
    | (refine DL.p rfl (POp.quiet (QOp.cat (by rfl) (by rfl) (by rfl) (by first | assumption | (simp only [ByteArray.size_append, bs_size] at *; omega)))) ?_)
    | (refine DL.p rfl (POp.pcallI hK (by rfl) Tryd.func16 rfl rfl (by rfl) (by first | exact clo_all (by rfl) | (intro x hx; simp only [List.mem_cons, List.not_mem_nil, or_false] at hx; rcases hx with rfl | rfl | rfl | rfl | rfl | rfl | rfl | rfl <;> first | exact clo_of (by rfl) | exact clo_fn _ | assumption)) (pts_i _ (by assumption) (by assumption)) (by first | exact clo_of (by rfl) | assumption)) ?_)
    | (refine DL.p rfl (POp.pcallI hK (by rfl) Tryd.func39 rfl rfl (by rfl) (by first | exact clo_all (by rfl) | (intro x hx; simp only [List.mem_cons, List.not_mem_nil, or_false] at hx; rcases hx with rfl | rfl | rfl | rfl | rfl | rfl | rfl | rfl <;> first | exact clo_of (by rfl) | exact clo_fn _ | assumption)) (fmt_i _ (by assumption)) (by first | exact clo_of (by rfl) | assumption)) ?_)
    | refine DL.nil ?_
    | (refine AW.cond (by rfl) (fun h => ?_) ?_; rotate_left; focus (intro h; (try simp only [Bool.not_eq_true', Bool.not_eq_false'] at h); first | (cases h; done) | exact clash (by with_reducible_and_instances assumption) h | exact clash h (by with_reducible_and_instances assumption) | exact absurd h (by decide) | (refine absurd h ?_; simp; done)))
    | (refine AW.cond (by rfl) ?_ (fun h => ?_); focus (intro h; (try simp only [Bool.not_eq_true', Bool.not_eq_false'] at h); first | (cases h; done) | exact clash (by with_reducible_and_instances assumption) h | exact clash h (by with_reducible_and_instances assumption) | exact absurd h (by decide) | (refine absurd h ?_; simp; done)))
    | (refine AW.cond (by rfl) ?_ ?_ <;> (intro h; try simp only [Bool.not_eq_true', Bool.not_eq_false'] at h))
    | refine AW.block ?_
    | refine AL.nil ?_
    | refine AW.ret ?_) <;> (try dsimp only [dput, List.set, cond_true, cond_false, Nat.zero_add, Nat.add_zero, Nat.reduceAdd, splice, List.take, List.drop, List.length, List.nil_append, List.cons_append, TPoint.en, TSegment.en, TBox.en, TFeature.en, TMeet.en, TPlace.en, TCover.en, TLabel.en, TPiece.en, TLevel.en, TChart.en, TReason.en, TEdit.en, TEntry.en, TEdition.en, TListing.en, TAtlas.en, TEvent.en, TWindow.en]))
  all_goals exact Fin.one rfl (RV.tmp (by rfl)) (clo_c _) ⟨rfl, rfl⟩

set_option maxRecDepth 100000 in
set_option maxHeartbeats 2000000 in
theorem law_FnExactFormatFeature (x : TFeature) (hk : x.ok) : VCallsI Tryd.prog TabI 7 [.agg x.en] (fun r M => r = B true ∧ M = []) := by
  refine VCallsI.bodyE Tryd.func7 rfl 26 rfl (fun E hE hK => ?_)
  simp only [List.reduceReplicate, List.cons_append, List.nil_append]
  have hcle : Clo (.agg x.en) := Clo.agg x.clo_en
  rcases Szs.split TFeature.szs x 1048576 hk (by decide) (by decide) with hz | ⟨hz, hsm, hz0, hz1⟩
  rotate_left
  have hs : x.points.length ≤ 1048576 := hsm
  have hn := (TFeature.szn x 1048576 hk (by decide) (by decide) hz0).1
  repeat' ((first
    | refine AW.seq ?_
    | refine AW.region ?_
    | refine AW.skip ?_
    | refine AL.q TT_ok rfl (by rfl) ?_
    | refine AL.step rfl ?_
    | refine OpA.quiet (QOp.ld1_ro (by rfl) (by rfl) (by assumption) (by first | exact ldk3 | exact ldk4 | exact ldk5 | exact ldk6 | exact ldk9 | exact ldk10 | exact ldk12 | exact ldk14 | exact ldk16 | exact ldk17 | exact ldk18 | exact ldk19 | exact ldk27 | exact ldk30 | exact ldk46 | exact ldk50) (by rfl)) ?_
    | refine OpA.quiet (QOp.ldr_ro (by rfl) (by rfl) (by assumption) (by first | exact ldk3 | exact ldk4 | exact ldk5 | exact ldk6 | exact ldk9 | exact ldk10 | exact ldk12 | exact ldk14 | exact ldk16 | exact ldk17 | exact ldk18 | exact ldk19 | exact ldk27 | exact ldk30 | exact ldk46 | exact ldk50) (Nat.le_of_ble_eq_true (by rfl))) ?_
    | refine OpA.box (by rfl) (by rfl) (by rfl) ?_
    | refine OpA.allocA (by rfl) (by first | exact ze3 | exact ze4 | exact ze5 | exact ze6 | exact ze9 | exact ze10 | exact ze12 | exact ze14 | exact ze16 | exact ze17 | exact ze18 | exact ze19 | exact ze27 | exact ze30 | exact ze46 | exact ze50) ?_
    | refine OpA.sto (by rfl) (by rfl) (by rfl) (by rfl) (by rfl) (by rfl) (by rfl) (by rfl) (by first | exact ldk3 | exact ldk4 | exact ldk5 | exact ldk6 | exact ldk9 | exact ldk10 | exact ldk12 | exact ldk14 | exact ldk16 | exact ldk17 | exact ldk18 | exact ldk19 | exact ldk27 | exact ldk30 | exact ldk46 | exact ldk50) (by rfl) (Nat.le_of_ble_eq_true (by rfl)) ?_
    | refine OpA.sto (by rfl) (by rfl) (by rfl) (by rfl) (by rfl) (by assumption) (by rfl) (by rfl) (by first | exact ldk3 | exact ldk4 | exact ldk5 | exact ldk6 | exact ldk9 | exact ldk10 | exact ldk12 | exact ldk14 | exact ldk16 | exact ldk17 | exact ldk18 | exact ldk19 | exact ldk27 | exact ldk30 | exact ldk46 | exact ldk50) (by rfl) (Nat.le_of_ble_eq_true (by rfl)) ?_
    | refine OpA.pcall (by rfl) Tryd.func27 rfl rfl (by rfl) (by first | exact clo_all (by rfl) | (intro x hx; simp only [List.mem_cons, List.not_mem_nil, or_false] at hx; rcases hx with rfl | rfl | rfl | rfl | rfl | rfl | rfl | rfl <;> first | exact clo_of (by rfl) | exact clo_fn _ | assumption)) (szFeature x _ (by assumption)) (by first | exact clo_of (by rfl) | assumption) ?_
    | refine OpA.pcall (by rfl) Tryd.func28 rfl rfl (by rfl) (by first | exact clo_all (by rfl) | (intro x hx; simp only [List.mem_cons, List.not_mem_nil, or_false] at hx; rcases hx with rfl | rfl | rfl | rfl | rfl | rfl | rfl | rfl <;> first | exact clo_of (by rfl) | exact clo_fn _ | assumption)) (ft_s x (by assumption) (by assumption) (by assumption)) (by first | exact clo_of (by rfl) | assumption) ?_
    | refine OpA.pcall (by rfl) Tryd.func29 rfl rfl (by rfl) (by first | exact clo_all (by rfl) | (intro x hx; simp only [List.mem_cons, List.not_mem_nil, or_false] at hx; rcases hx with rfl | rfl | rfl | rfl | rfl | rfl | rfl | rfl <;> first | exact clo_of (by rfl) | exact clo_fn _ | assumption)) (toFeature x (by assumption)) (by first | exact clo_of (by rfl) | assumption) ?_
    | refine OpA.pcallI hK (by rfl) Tryd.func30 rfl rfl (by rfl) (by first | exact clo_all (by rfl) | (intro x hx; simp only [List.mem_cons, List.not_mem_nil, or_false] at hx; rcases hx with rfl | rfl | rfl | rfl | rfl | rfl | rfl | rfl <;> first | exact clo_of (by rfl) | exact clo_fn _ | assumption)) (ft_i x (by assumption) (by assumption) (by assumption)) (by first | exact clo_of (by rfl) | assumption) ?_
    | refine OpA.pcall (by rfl) Tryd.func31 rfl rfl (by rfl) (by first | exact clo_all (by rfl) | (intro x hx; simp only [List.mem_cons, List.not_mem_nil, or_false] at hx; rcases hx with rfl | rfl | rfl | rfl | rfl | rfl | rfl | rfl <;> first | exact clo_of (by rfl) | exact clo_fn _ | assumption)) (eqFeature_self x (by assumption)) (by first | exact clo_of (by rfl) | assumption) ?_
    | refine AW.drawn (id := 10) 3 (by kernel_rfl) (by kernel_rfl) (by rfl) ?_
    | refine DL.q TT_ok rfl (by rfl) ?_
    | refine DL.p rfl (POp.quiet (QOp.ld1_ro (by rfl) (by rfl) (by assumption) (by first | exact ldk3 | exact ldk4 | exact ldk5 | exact ldk6 | exact ldk9 | exact ldk10 | exact ldk12 | exact ldk14 | exact ldk16 | exact ldk17 | exact ldk18 | exact ldk19 | exact ldk27 | exact ldk30 | exact ldk46 | exact ldk50) (by rfl))) ?_
    | refine DL.p rfl (POp.quiet (QOp.ldr_ro (by rfl) (by rfl) (by assumption) (by first | exact ldk3 | exact ldk4 | exact ldk5 | exact ldk6 | exact ldk9 | exact ldk10 | exact ldk12 | exact ldk14 | exact ldk16 | exact ldk17 | exact ldk18 | exact ldk19 | exact ldk27 | exact ldk30 | exact ldk46 | exact ldk50) (Nat.le_of_ble_eq_true (by rfl)))) ?_
    | (refine DL.p rfl (POp.pcall (by rfl) Tryd.func27 rfl rfl (by rfl) (by first | exact clo_all (by rfl) | (intro x hx; simp only [List.mem_cons, List.not_mem_nil, or_false] at hx; rcases hx with rfl | rfl | rfl | rfl | rfl | rfl | rfl | rfl <;> first | exact clo_of (by rfl) | exact clo_fn _ | assumption)) (szFeature x _ (by assumption)) (by first | exact clo_of (by rfl) | assumption)) ?_)
    | (refine DL.p rfl (POp.pcall (by rfl) Tryd.func28 rfl rfl (by rfl) (by first | exact clo_all (by rfl) | (intro x hx; simp only [List.mem_cons, List.not_mem_nil, or_false] at hx; rcases hx with rfl | rfl | rfl | rfl | rfl | rfl | rfl | rfl <;> first | exact clo_of (by rfl) | exact clo_fn _ | assumption)) (ft_s x (by assumption) (by assumption) (by assumption)) (by first | exact clo_of (by rfl) | assumption)) ?_)
    | (refine DL.p rfl (POp.pcall (by rfl) Tryd.func29 rfl rfl (by rfl) (by first | exact clo_all (by rfl) | (intro x hx; simp only [List.mem_cons, List.not_mem_nil, or_false] at hx; rcases hx with rfl | rfl | rfl | rfl | rfl | rfl | rfl | rfl <;> first | exact clo_of (by rfl) | exact clo_fn _ | assumption)) (toFeature x (by assumption)) (by first | exact clo_of (by rfl) | assumption)) ?_)
    | (refine DL.p rfl (POp.pcallI hK (by rfl) Tryd.func30 rfl rfl (by rfl) (by first | exact clo_all (by rfl) | (intro x hx; simp only [List.mem_cons, List.not_mem_nil, or_false] at hx; rcases hx with rfl | rfl | rfl | rfl | rfl | rfl | rfl | rfl <;> first | exact clo_of (by rfl) | exact clo_fn _ | assumption)) (ft_i x (by assumption) (by assumption) (by assumption)) (by first | exact clo_of (by rfl) | assumption)) ?_)
    | (refine DL.p rfl (POp.pcall (by rfl) Tryd.func31 rfl rfl (by rfl) (by first | exact clo_all (by rfl) | (intro x hx; simp only [List.mem_cons, List.not_mem_nil, or_false] at hx; rcases hx with rfl | rfl | rfl | rfl | rfl | rfl | rfl | rfl <;> first | exact clo_of (by rfl) | exact clo_fn _ | assumption)) (eqFeature_self x (by assumption)) (by first | exact clo_of (by rfl) | assumption)) ?_)
    | refine DL.nil ?_
    | (refine AW.cond (by rfl) (fun h => ?_) ?_; rotate_left; focus (intro h; (try simp only [Bool.not_eq_true', Bool.not_eq_false'] at h); first | (cases h; done) | exact clash (by with_reducible_and_instances assumption) h | exact clash h (by with_reducible_and_instances assumption) | exact absurd h (by decide) | (refine absurd h ?_; simp; done)))
    | (refine AW.cond (by rfl) ?_ (fun h => ?_); focus (intro h; (try simp only [Bool.not_eq_true', Bool.not_eq_false'] at h); first | (cases h; done) | exact clash (by with_reducible_and_instances assumption) h | exact clash h (by with_reducible_and_instances assumption) | exact absurd h (by decide) | (refine absurd h ?_; simp; done)))
    | (refine AW.cond (by rfl) ?_ ?_ <;> (intro h; try simp only [Bool.not_eq_true', Bool.not_eq_false'] at h))
    | refine AL.nil ?_
    | refine AW.ret ?_) <;> (try dsimp only [dput, List.set, cond_true, cond_false, Nat.zero_add, Nat.add_zero, Nat.reduceAdd, splice, List.take, List.drop, List.length, List.nil_append, List.cons_append, TPoint.en, TSegment.en, TBox.en, TFeature.en, TMeet.en, TPlace.en, TCover.en, TLabel.en, TPiece.en, TLevel.en, TChart.en, TReason.en, TEdit.en, TEntry.en, TEdition.en, TListing.en, TAtlas.en, TEvent.en, TWindow.en]))
  all_goals exact Fin.one rfl (RV.tmp (by rfl)) (clo_c _) ⟨by first | rfl | (simp_all; done), rfl⟩

end Go.Proofs.YtbkcoechoblndaaDoor.Abs
