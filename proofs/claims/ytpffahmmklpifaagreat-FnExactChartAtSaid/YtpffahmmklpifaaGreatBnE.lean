/- Part E of the walk over abstract states and of the functions' walks. -/
import Derived.Test.YtpffahmmklpifaaGreatWkStep
import Derived.Test.YtpffahmmklpifaaGreatBnD
import Derived.Test.YtpffahmmklpifaaGreatBnC
import Derived.Test.YtpffahmmklpifaaGreatBnB
/- The walks of shown ids. -/
namespace Go.Proofs.YtpffahmmklpifaaGreat.Abs
open Go.Proofs Go.RowKit
set_option linter.unusedVariables false
set_option linter.unusedSimpArgs false
set_option maxRecDepth 100000
set_option maxHeartbeats 2000000
attribute [local irreducible] OpA AL AW DL DLM DLR DLS QOp POp VCalls VCallsI
def has (l : List Int) (n : Int) : Bool := l.any fun y => y == n
theorem has_iff {l : List Int} {n : Int} : has l n = true ↔ n ∈ l := by simp [has]
theorem any_take_n {α : Type} {l : List α} {p : α → Bool} {i : Nat} {x : α} (hx : l[i]? = some x) (h : (l.take i).any p = false) (hp : p x = false) : (l.take (i + 1)).any p = false := by
 rw [take_succ_of hx, List.any_append, h]
 simp [hp]
theorem any_yes {α : Type} {l : List α} {p : α → Bool} {i : Nat} {x : α} (hx : l[i]? = some x) (hp : p x = true) : l.any p = true := List.any_eq_true.2 ⟨x, List.mem_of_getElem? hx, hp⟩
def ixI (l : List Int) (n : Int) : Int := if has l n = true then ((l.findIdx fun y => y == n : Nat) : Int) else -1
theorem findIdx_at {α : Type} {p : α → Bool} : ∀ {l : List α} {i : Nat} {x : α}, l[i]? = some x → p x = true → (l.take i).any p = false → l.findIdx p = i
 | [], i, x, hx, _, _ => by simp at hx
 | a :: l, 0, x, hx, hp, _ => by
  simp at hx
  subst hx
  rw [List.findIdx_cons, hp]
  rfl
 | a :: l, i + 1, x, hx, hp, hn => by
  rw [List.take_succ_cons, List.any_cons, Bool.or_eq_false_iff] at hn
  rw [List.findIdx_cons, hn.1, findIdx_at (by simpa using hx) hp hn.2]
  rfl
theorem ixI_y {l : List Int} {n : Int} {i : Nat} {x : Int} (hx : l[i]? = some x) (hp : (x == n) = true) (hn : ((l.take i).any fun y => y == n) = false) : ixI l n = (i : Int) := by
 rw [ixI, if_pos (show has l n = true from any_yes hx hp), findIdx_at hx hp hn]
theorem ixI_n {l : List Int} {n : Int} (hn : ((l.take l.length).any fun y => y == n) = false) : ixI l n = -1 := by
 rw [List.take_length] at hn
 rw [ixI, if_neg (by rw [has, hn]; decide)]
theorem ixI_ge (l : List Int) (n : Int) : decide (ixI l n ≥ 0) = has l n := by
 unfold ixI
 cases h : has l n
 · rw [if_neg (by decide)]; decide
 · rw [if_pos rfl]; simp
theorem beq_symm (a b : Int) : (a == b) = (b == a) := by
 rw [Bool.eq_iff_iff]
 simp
 exact ⟨fun h => h.symm, fun h => h.symm⟩
def rkdTo (l : List TFeature) (r : Int) (i : Nat) : List TFeature := (l.take i).filter fun x => decide (x.rank ≥ r)
def rkd (l : List TFeature) (r : Int) : List TFeature := l.filter fun x => decide (x.rank ≥ r)
theorem rkdTo_all (l : List TFeature) (r : Int) : rkdTo l r l.length = rkd l r := by rw [rkdTo, List.take_length]; rfl
theorem filt_y {α : Type} {l : List α} {p : α → Bool} {i : Nat} {x : α} (hx : l[i]? = some x) (h : p x = true) : (l.take (i + 1)).filter p = (l.take i).filter p ++ [x] := by
 rw [take_succ_of hx, List.filter_append]
 simp [List.filter_cons, h]
theorem filt_n {α : Type} {l : List α} {p : α → Bool} {i : Nat} {x : α} (hx : l[i]? = some x) (h : p x = false) : (l.take (i + 1)).filter p = (l.take i).filter p := by
 rw [take_succ_of hx, List.filter_append]
 simp [List.filter_cons, h]
theorem filt_len {α : Type} (l : List α) (p : α → Bool) (i : Nat) : ((l.take i).filter p).length ≤ i := Nat.le_trans (List.length_filter_le _ _) (by rw [List.length_take]; omega)
theorem rkd_src {l : List TFeature} (hS : isSource l = true) (r : Int) : isSource (rkd l r) = true := src_filter hS _
theorem rkd_gd {l : List TFeature} (hg : ∀ x ∈ l, x.gd) (r : Int) : ∀ x ∈ rkd l r, x.gd := fun x hx => hg x (List.mem_filter.1 hx).1
def thn (l : List TFeature) (v : TLevel) : List Int := thinI (plsOf (rkd l v.rank)) v.far
def shP (l : List TFeature) (v : TLevel) (x : TFeature) : Bool := (x.kind != 1) || has (thn l v) x.id
def shTo (l : List TFeature) (v : TLevel) (i : Nat) : List Int := (((rkd l v.rank).take i).filter (shP l v)).map (·.id)
def shown (l : List TFeature) (v : TLevel) : List Int := ((rkd l v.rank).filter (shP l v)).map (·.id)
theorem shTo_all (l : List TFeature) (v : TLevel) : shTo l v (rkd l v.rank).length = shown l v := by rw [shTo, List.take_length]; rfl
theorem shTo_y {l : List TFeature} {v : TLevel} {i : Nat} {x : TFeature} (hx : (rkd l v.rank)[i]? = some x) (h : shP l v x = true) : (shTo l v (i + 1)).map enI = (shTo l v i).map enI ++ [[I x.id]] ∧ (shTo l v (i + 1)).length = (shTo l v i).length + 1 := by
 unfold shTo
 rw [filt_y hx h]
 simp
theorem shTo_n {l : List TFeature} {v : TLevel} {i : Nat} {x : TFeature} (hx : (rkd l v.rank)[i]? = some x) (h : shP l v x = false) : (shTo l v (i + 1)).map enI = (shTo l v i).map enI ∧ (shTo l v (i + 1)).length = (shTo l v i).length := by
 unfold shTo
 rw [filt_n hx h]
 exact ⟨rfl, rfl⟩
theorem shTo_len (l : List TFeature) (v : TLevel) (i : Nat) : (shTo l v i).length ≤ i := by
 unfold shTo
 rw [List.length_map]
 exact filt_len _ _ _
theorem thn_len {l : List TFeature} (hS : isSource l = true) (v : TLevel) : (thn l v).length ≤ 16 := by
 have h1 := putIs_len ((kept (srtA (plsOf (rkd l v.rank))) v.far).map (·.id)) []
 have h2 := thin_len (plsOf (rkd l v.rank)) v.far
 have h3 := (plsOf_ok (rkd_src hS v.rank)).len
 unfold thn thinI
 simp at h1
 omega
def npTo (l : List TFeature) (v : TLevel) (i : Nat) : List Int := thn l v ++ (((rkd l v.rank).take i).filter fun x => x.kind != 1).map (·.id)
theorem npTo_y {l : List TFeature} {v : TLevel} {i : Nat} {x : TFeature} (hx : (rkd l v.rank)[i]? = some x) (h : (x.kind != 1) = true) : (npTo l v (i + 1)).map enI = (npTo l v i).map enI ++ [[I x.id]] := by
 unfold npTo
 rw [filt_y hx h]
 simp
theorem npTo_n {l : List TFeature} {v : TLevel} {i : Nat} {x : TFeature} (hx : (rkd l v.rank)[i]? = some x) (h : (x.kind != 1) = false) : npTo l v (i + 1) = npTo l v i := by
 unfold npTo
 rw [filt_n hx h]
theorem npTo_len {l : List TFeature} (hS : isSource l = true) (v : TLevel) (i : Nat) : (npTo l v i).length ≤ 16 + i := by
 have h1 := thn_len hS v
 have h2 := filt_len (rkd l v.rank) (fun x => x.kind != 1) i
 unfold npTo
 simp only [List.length_append, List.length_map]
 omega
theorem thn_mem {l : List TFeature} {v : TLevel} {n : Int} (h : n ∈ thn l v) : ∃ x ∈ rkd l v.rank, (x.kind == 1) = true ∧ x.id = n := by
 obtain ⟨_, h2⟩ := putIs_asc (xs := (kept (srtA (plsOf (rkd l v.rank))) v.far).map (·.id)) (l := []) List.Pairwise.nil
 have hm := (h2 n).1 h
 simp only [List.not_mem_nil, or_false] at hm
 obtain ⟨p, hp, rfl⟩ := List.mem_map.1 hm
 have hp2 := (srtA_perm _).mem_iff.1 ((kept_sub _ _).subset hp)
 unfold plsOf at hp2
 obtain ⟨x, hx, rfl⟩ := List.mem_map.1 hp2
 obtain ⟨hx1, hx2⟩ := List.mem_filter.1 hx
 exact ⟨x, hx1, hx2, rfl⟩
theorem shown_merge {l : List TFeature} (hS : isSource l = true) (v : TLevel) : ((npTo l v (rkd l v.rank).length).mergeSort fun x y => decide (x ≤ y)) = shown l v := by
 obtain ⟨h1, h2, h3⟩ := (src_iff _).1 (rkd_src hS v.rank)
 have hid : ∀ x ∈ rkd l v.rank, ∀ y ∈ rkd l v.rank, x.id = y.id → x = y := fun x hx y hy e => by
  obtain ⟨i, hi, rfl⟩ := List.mem_iff_getElem.1 hx
  obtain ⟨j, hj, rfl⟩ := List.mem_iff_getElem.1 hy
  rcases Nat.lt_trichotomy i j with h | h | h
  · have := List.pairwise_iff_getElem.1 h3 i j hi hj h; omega
  · subst h; rfl
  · have := List.pairwise_iff_getElem.1 h3 j i hj hi h; omega
 have hnd : (npTo l v (rkd l v.rank).length).Pairwise (· ≠ ·) := by
  unfold npTo
  rw [List.take_length]
  refine List.pairwise_append.2 ⟨?_, ?_, fun a ha b hb e => ?_⟩
  · obtain ⟨g, _⟩ := putIs_asc (xs := (kept (srtA (plsOf (rkd l v.rank))) v.far).map (·.id)) (l := []) List.Pairwise.nil
    exact g.imp fun h => by omega
  · rw [List.pairwise_map]
    exact (h3.filter _).imp fun h => by omega
  · obtain ⟨x, hx, hk, rfl⟩ := thn_mem ha
    obtain ⟨y, hy, hye⟩ := List.mem_map.1 hb
    obtain ⟨hy1, hy2⟩ := List.mem_filter.1 hy
    have := hid x hx y hy1 (by rw [e, hye])
    subst this
    simp at hk hy2
    exact hy2 hk
 have hsh : (shown l v).Pairwise (· < ·) := by
  unfold shown
  rw [List.pairwise_map]
  exact h3.filter _
 refine asc_ext sto_int (merge_asc hnd) hsh fun n => ?_
 rw [(List.mergeSort_perm _ _).mem_iff]
 unfold npTo shown
 rw [List.take_length, List.mem_append, List.mem_map, List.mem_map]
 constructor
 · rintro (h | ⟨x, hx, rfl⟩)
   · obtain ⟨x, hx, hk, rfl⟩ := thn_mem h
     exact ⟨x, List.mem_filter.2 ⟨hx, by unfold shP; rw [Bool.or_eq_true]; exact .inr (has_iff.2 h)⟩, rfl⟩
   · obtain ⟨hx1, hx2⟩ := List.mem_filter.1 hx
     exact ⟨x, List.mem_filter.2 ⟨hx1, by unfold shP; rw [Bool.or_eq_true]; exact .inl hx2⟩, rfl⟩
 · rintro ⟨x, hx, rfl⟩
   obtain ⟨hx1, hx2⟩ := List.mem_filter.1 hx
   unfold shP at hx2
   rw [Bool.or_eq_true] at hx2
   rcases hx2 with h | h
   · exact .inr ⟨x, List.mem_filter.2 ⟨hx1, h⟩, rfl⟩
   · exact .inl (has_iff.1 h)

theorem has_s (l : List Int) (n : Int) (hl : l.length ≤ 1048576) : VCalls Tryz.prog 135 [.ro 1 (l.map enI), I n] (fun r M => r = B (has l n) ∧ M = []) := by
 refine VB Tryz.func135 16 (fun E hE => ?_)
 have hclo : Clo (.ro 1 (l.map enI)) := clo_list clo_enI
 repeat' ((first
  | (refine iAL ?_; first | refine AL.any ?_ | refine AL.nil ?_)
  | (refine iAW ?_; first | (refine AW.c0 ?_; constructor) | refine AW.cT ?_ | refine AW.cF ?_)
  | (
 refine AW.loopD hE (fun i : Nat => [.ro 1 (l.map enI), I n, .any, .any, .any, I (i : Int), .any, .any, .any, .any, .any, .any, .any, .any, .any, .any, .any, .any]) (fun i => []) (fun i => l.length - i) (fun i => i ≤ l.length ∧ (l.take i).any (fun y => y == n) = false) 0 ⟨Nat.zero_le _, rfl⟩ ?_ (by first | rfl | (simp [fil_zero]; done)) ?_
 (focus (exact wkI))
 intro i hi
 have hi2 := hi.2
 by_cases hlt : i < l.length
 case' pos =>
  have hP := True.intro
  obtain ⟨x, hx⟩ : ∃ x, l[i]? = some x := ⟨_, List.getElem?_eq_getElem hlt⟩
  have hg := map_get (f := enI) hx
  have ht := lt_true (f := enI) hlt
  have hn := next_ix hlt (by omega)
  rcases Bool.eq_false_or_eq_true (x == n) with hxn | hxn
  case' inr => have hjn := any_take_n hx hi2 hxn
 case' neg =>
  have hQ := True.intro
  have ht := lt_false (f := enI) hlt
  have e : i = l.length := by omega
  subst e
  try rw [List.take_length])) <;> (try dsimp only))
 all_goals first
  | (have _ := hP; (refine ⟨i + 1, _, ⟨hlt, hjn⟩, by omega, ?_, rfl, ?_, ?_⟩; (focus (exact wkH)); (focus (exact fitsA)); (focus (exact FitsM.nil _))))
  | (have _ := hP; exact Fin.one rfl (RV.tmp (by rfl)) (clo_c _) ⟨by rw [has, any_yes hx hxn], rfl⟩)
  | (have _ := hQ; exact Fin.one rfl (RV.tmp (by rfl)) (clo_c _) ⟨by rw [List.take_length] at hi2; rw [has, hi2], rfl⟩)

theorem ix_i (l : List Int) (n : Int) (hl : l.length ≤ 1048576) : VCalls Tryz.prog 209 [.ro 1 (l.map enI), I n] (fun r M => r = I (ixI l n) ∧ M = []) := by
 refine VB Tryz.func209 17 (fun E hE => ?_)
 have hclo : Clo (.ro 1 (l.map enI)) := clo_list clo_enI
 repeat' ((first
  | (refine iAL ?_; first | refine AL.any ?_ | refine AL.nil ?_)
  | (refine iAW ?_; first | (refine AW.c0 ?_; constructor) | refine AW.cT ?_ | refine AW.cF ?_)
  | (
 refine AW.loopD hE (fun i : Nat => [.ro 1 (l.map enI), I n, .any, .any, .any, .any, .any, I ((l.map enI).length : Int), I (i : Int), .any, .any, .any, .any, .any, .any, .any, .any, .any, .any]) (fun i => []) (fun i => l.length - i) (fun i => i ≤ l.length ∧ (l.take i).any (fun y => y == n) = false) 0 ⟨Nat.zero_le _, rfl⟩ ?_ (by first | rfl | (simp [fil_zero]; done)) ?_
 (focus (exact wkI))
 intro i hi
 have hi2 := hi.2
 by_cases hlt : i < l.length
 case' pos =>
  have hP := True.intro
  obtain ⟨x, hx⟩ : ∃ x, l[i]? = some x := ⟨_, List.getElem?_eq_getElem hlt⟩
  have hg := map_get (f := enI) hx
  have ht := lt_true (f := enI) hlt
  have hn := next_ix hlt (by omega)
  rcases Bool.eq_false_or_eq_true (n == x) with hxn | hxn
  case' inr => have hjn := any_take_n (p := fun y => y == n) hx hi2 (by rw [beq_symm]; exact hxn)
 case' neg =>
  have hQ := True.intro
  have ht := lt_false (f := enI) hlt
  have e : i = l.length := by omega
  subst e
  try rw [List.take_length])) <;> (try dsimp only))
 all_goals first
  | (have _ := hP; (refine ⟨i + 1, _, ⟨hlt, hjn⟩, by omega, ?_, rfl, ?_, ?_⟩; (focus (exact wkH)); (focus (exact fitsA)); (focus (exact FitsM.nil _))))
  | (have _ := hP; exact Fin.one rfl (RV.tmp (by rfl)) (clo_c _) ⟨by rw [ixI_y hx (by rw [beq_symm]; exact hxn) hi2], rfl⟩)
  | (have _ := hQ; exact Fin.one rfl (RV.tmp (by rfl)) (clo_c _) ⟨by rw [ixI_n hi2], rfl⟩)

theorem has_i (l : List Int) (n : Int) (hl : l.length ≤ 1048576) : VCalls Tryz.prog 141 [.ro 1 (l.map enI), I n] (fun r M => r = B (has l n) ∧ M = []) := by
 refine VB Tryz.func141 7 (fun E hE => ?_)
 have hclo : Clo (.ro 1 (l.map enI)) := clo_list clo_enI
 repeat' ((first
  | (refine iAL ?_; first | refine AL.any ?_ | refine AL.any (h := POp.k Tryz.func209 (hc := ix_i _ _ (by omega))) ?_ | refine AL.nil ?_)
  | (refine iAW ?_; (refine AW.c0 ?_; constructor))) <;> (try dsimp only))
 all_goals exact Fin.one rfl (RV.tmp (by rfl)) (clo_c _) ⟨by rw [← ixI_ge], rfl⟩

theorem cloneF' (x : TFeature) (hs : x.sm) : VCalls Tryz.prog 118 [.agg x.en] (fun r M => r = .agg x.en ∧ M = []) := VCalls.frz (cloneF x hs) (by repeat' (first | exact VwL.nil | refine VwL.cons ?_ ?_ | (refine View.own (by rfl) (by rfl) (by rfl) (by rfl) ?_ ?_ <;> first | exact DCl.b rfl | exact DCl.map (fun _ => rfl) | assumption | rfl | exact TPoint.und | exact TSegment.und | exact TBox.und | exact TFeature.und | exact TMeet.und | exact TPlace.und | exact TCover.und | exact TLabel.und | exact TPiece.und | exact TLevel.und | exact TChart.und | exact TReason.und | exact TEdit.und | exact TEntry.und | exact TEdition.und | exact TListing.und | exact TAtlas.und | exact TEvent.und | exact TWindow.und | exact und_nil | exact und_I | assumption) | refine View.agg' ?_ | exact View.same (by first | exact clo_of (by rfl) | assumption | exact clo_fn _) | exact View.nil))
theorem rkd_s (l : List TFeature) (rk : Int) (hS : isSource l = true) (hg0 : ∀ x ∈ l, x.gd) : VCalls Tryz.prog 199 [.ro 5 (l.map TFeature.en), I rk] (fun r M => r = .ro 5 ((rkd l rk).map TFeature.en) ∧ M = []) := by
 refine VB Tryz.func199 28 (fun E hE => ?_)
 have hclo : Clo (.ro 5 (l.map TFeature.en)) := clo_list TFeature.clo_en
 have hsl := src_len hS
 repeat' ((first
  | (refine iAL ?_; first | refine AL.any ?_ | refine AL.any (h := POp.k Tryz.func108 (hc := cloneF_s' x (by assumption))) ?_ | refine AL.nil ?_)
  | (refine iAW ?_; first | (refine AW.freezeRet (t := 4) (id := 0) rfl rfl rfl rfl (clo_rows TFeature.clo_en) ?_; (try simp only [List.take_length]); try dsimp only [dput, List.set, cond_true, cond_false, Nat.zero_add, Nat.add_zero, Nat.reduceAdd, splice, List.take, List.drop, List.length, List.nil_append, List.cons_append, List.append, TPoint.en, TSegment.en, TBox.en, TFeature.en, TMeet.en, TPlace.en, TCover.en, TLabel.en, TPiece.en, TLevel.en, TChart.en, TReason.en, TEdit.en, TEntry.en, TEdition.en, TListing.en, TAtlas.en, TEvent.en, TWindow.en]) | (refine AW.c0 ?_; constructor) | refine AW.cT ?_ | refine AW.cF ?_)
  | (
 refine AW.loopD hE (fun i : Nat => [.ro 5 (l.map TFeature.en), I rk, .any, .any, .any, .own 0 (rkdTo l rk i).length, I (i : Int), .any, .any, .any, .any, .any, .any, .any, .any, .any, .any, .any, .any, .any, .any, .any, .any, .any, .any, .any, .any, .any, .any, .any]) (fun i => [some ⟨81, 5, (rkdTo l rk i).length, false, (rkdTo l rk i).map TFeature.en⟩]) (fun i => l.length - i) (fun i => i ≤ l.length) 0 (by simp) ?_ (by first | rfl | (simp [fil_zero]; done)) ?_
 (focus (exact wkI))
 intro i hi
 by_cases hlt : i < l.length
 case' pos =>
  have hP := True.intro
  obtain ⟨x, hx⟩ : ∃ x, l[i]? = some x := ⟨_, List.getElem?_eq_getElem hlt⟩
  have hg := map_get (f := TFeature.en) hx
  have ht := lt_true (f := TFeature.en) hlt
  have hn := next_ix hlt (by omega)
  have hgx := hg0 x (List.mem_of_getElem? hx)
  have hsx : x.sm := hgx.1
  have hcle : Clo (.agg x.en) := Clo.agg x.clo_en
  have hclP : Clo (.ro 2 (x.points.map TPoint.en)) := clo_list TPoint.clo_en
  have hln := filt_len l (fun x => decide (x.rank ≥ rk)) i
  have hln2 : (rkdTo l rk i).length ≤ i := hln
  rcases Bool.eq_false_or_eq_true (decide (x.rank ≥ rk)) with hk | hk
  case' inl =>
   have hm0 : rkdTo l rk (i + 1) = rkdTo l rk i ++ [x] := filt_y hx hk
   have hm : (rkdTo l rk (i + 1)).map TFeature.en = (rkdTo l rk i).map TFeature.en ++ [x.en] := by rw [hm0, List.map_append]; rfl
   have hm2 : (rkdTo l rk (i + 1)).length = (rkdTo l rk i).length + 1 := by rw [hm0]; simp
  case' inr => have hm0 : rkdTo l rk (i + 1) = rkdTo l rk i := filt_n hx hk
 case' neg =>
  have hQ := True.intro
  have ht := lt_false (f := TFeature.en) hlt
  have e : i = l.length := by omega
  subst e
  try rw [List.take_length]
  rw [rkdTo_all])) <;> (try dsimp only))
 all_goals first
  | (have _ := hP; (refine ⟨i + 1, _, hlt, by omega, ?_, by first | (rw [hm, hm2] <;> rfl) | (rw [hm0] <;> rfl), ?_, ?_⟩; (focus ((refine wkj ?_; repeat' with_reducible constructor) <;> (first | rfl | (rw [hn]; done) | (rw [hm2]; done) | (rw [hm0]; done)))); (focus (exact fitsA)); (focus (exact fits_row (clo_rows TFeature.clo_en)))))
  | (have _ := hQ; exact Fin.one rfl (RV.tmp (by rfl)) (clo_list TFeature.clo_en) ⟨rfl, rfl⟩)

theorem rkd_i (l : List TFeature) (rk : Int) (hS : isSource l = true) (hg0 : ∀ x ∈ l, x.gd) : VCalls Tryz.prog 159 [.ro 5 (l.map TFeature.en), I rk] (fun r M => r = .ro 5 ((rkd l rk).map TFeature.en) ∧ M = []) := by
 refine VB Tryz.func159 23 (fun E hE => ?_)
 have hclo : Clo (.ro 5 (l.map TFeature.en)) := clo_list TFeature.clo_en
 have hsl := src_len hS
 repeat' ((first
  | (refine iAL ?_; first | refine AL.any ?_ | refine AL.nil ?_)
  | (refine iAW ?_; first | (refine AW.freezeRet (t := 4) (id := 0) rfl rfl rfl rfl (clo_rows TFeature.clo_en) ?_; (try simp only [List.take_length]); try dsimp only [dput, List.set, cond_true, cond_false, Nat.zero_add, Nat.add_zero, Nat.reduceAdd, splice, List.take, List.drop, List.length, List.nil_append, List.cons_append, List.append, TPoint.en, TSegment.en, TBox.en, TFeature.en, TMeet.en, TPlace.en, TCover.en, TLabel.en, TPiece.en, TLevel.en, TChart.en, TReason.en, TEdit.en, TEntry.en, TEdition.en, TListing.en, TAtlas.en, TEvent.en, TWindow.en]) | (refine AW.c0 ?_; constructor) | refine AW.cT ?_ | refine AW.cF ?_)
  | (
 refine AW.loopD hE (fun i : Nat => [.any, I rk, .any, .any, .any, .own 0 (rkdTo l rk i).length, .any, .any, .any, .ro 5 (l.map TFeature.en), I ((l.map TFeature.en).length : Int), I (i : Int), .any, .any, .any, .any, .any, .any, .any, .any, .any, .any, .any, .any, .any]) (fun i => [some ⟨81, 5, (rkdTo l rk i).length, false, (rkdTo l rk i).map TFeature.en⟩]) (fun i => l.length - i) (fun i => i ≤ l.length) 0 (by simp) ?_ (by first | rfl | (simp [fil_zero]; done)) ?_
 (focus (exact wkI))
 intro i hi
 by_cases hlt : i < l.length
 case' pos =>
  have hP := True.intro
  obtain ⟨x, hx⟩ : ∃ x, l[i]? = some x := ⟨_, List.getElem?_eq_getElem hlt⟩
  have hg := map_get (f := TFeature.en) hx
  have ht := lt_true (f := TFeature.en) hlt
  have hn := next_ix hlt (by omega)
  have hgx := hg0 x (List.mem_of_getElem? hx)
  have hsx : x.sm := hgx.1
  have hcle : Clo (.agg x.en) := Clo.agg x.clo_en
  have hclP : Clo (.ro 2 (x.points.map TPoint.en)) := clo_list TPoint.clo_en
  have hln := filt_len l (fun x => decide (x.rank ≥ rk)) i
  have hln2 : (rkdTo l rk i).length ≤ i := hln
  rcases Bool.eq_false_or_eq_true (decide (x.rank ≥ rk)) with hk | hk
  case' inl =>
   have hm0 : rkdTo l rk (i + 1) = rkdTo l rk i ++ [x] := filt_y hx hk
   have hm : (rkdTo l rk (i + 1)).map TFeature.en = (rkdTo l rk i).map TFeature.en ++ [x.en] := by rw [hm0, List.map_append]; rfl
   have hm2 : (rkdTo l rk (i + 1)).length = (rkdTo l rk i).length + 1 := by rw [hm0]; simp
  case' inr => have hm0 : rkdTo l rk (i + 1) = rkdTo l rk i := filt_n hx hk
 case' neg =>
  have hQ := True.intro
  have ht := lt_false (f := TFeature.en) hlt
  have e : i = l.length := by omega
  subst e
  try rw [List.take_length]
  rw [rkdTo_all])) <;> (try dsimp only))
 all_goals first
  | (have _ := hP; (refine ⟨i + 1, _, hlt, by omega, ?_, by first | (rw [hm, hm2] <;> rfl) | (rw [hm0] <;> rfl), ?_, ?_⟩; (focus ((refine wkj ?_; repeat' with_reducible constructor) <;> (first | rfl | (rw [hn]; done) | (rw [hm2]; done) | (rw [hm0]; done)))); (focus (exact fitsA)); (focus (exact fits_row (clo_rows TFeature.clo_en)))))
  | (have _ := hQ; exact Fin.one rfl (RV.tmp (by rfl)) (clo_list TFeature.clo_en) ⟨rfl, rfl⟩)

theorem size_s (x : TFeature) (i : Nat) (hg : x.gd) : VCalls Tryz.prog 269 [.agg x.en, I (i : Int)] (fun r M => r = I (sizeA x i) ∧ M = []) := by
 refine VB Tryz.func269 17 (fun E hE => ?_)
 have hclP : Clo (.ro 2 (x.points.map TPoint.en)) := clo_list TPoint.clo_en
 have hcle : Clo (.agg x.en) := Clo.agg x.clo_en
 have hl := hg.1
 have hsx : x.sm := hg.1
 dsimp only [TFeature.en]
 rcases kd_cases x with h1 | ⟨h1, h2⟩ | ⟨h1, h2⟩
 repeat' ((first
  | (refine iAL ?_; first | refine AL.any ?_ | refine AL.any (h := POp.k Tryz.func303 (hc := crnA_s _ _ (by assumption))) ?_ | refine AL.any (h := POp.k Tryz.func304 (hc := crnS_s _ _ (by assumption))) ?_ | refine AL.nil ?_)
  | (refine iAW ?_; first | (refine AW.c0 ?_; constructor) | refine AW.cT ?_ | refine AW.cF ?_)) <;> (try dsimp only))
 all_goals exact Fin.one rfl (RV.tmp (by rfl)) (clo_c _) ⟨by first | (rw [sizeA, if_pos h1]) | (rw [sizeA, if_neg (by rw [h1]; decide), if_pos h2]) | (rw [sizeA, if_neg (by rw [h1]; decide), if_neg (by rw [h2]; decide)]), rfl⟩

theorem df_s (x : TFeature) (i : Nat) (hg : x.gd) : VCalls Tryz.prog 271 [.agg x.en, I (i : Int)] (fun r M => r = .tup [.agg (dfF x i).en, B (dfOk x i)] ∧ M = []) := by
 refine VB Tryz.func271 40 (fun E hE => ?_)
 have hclP : Clo (.ro 2 (x.points.map TPoint.en)) := clo_list TPoint.clo_en
 have hcle : Clo (.agg x.en) := Clo.agg x.clo_en
 have hl := hg.1
 have hsx : x.sm := hg.1
 have hg2 : TFeature.gd ⟨x.id, x.kind, x.rank, x.name, dpL x.points i⟩ := ⟨Nat.le_trans (dpL_len _ _) hg.1, hg.2⟩
 have hg3 : TFeature.gd ⟨x.id, x.kind, x.rank, x.name, dcL x.points i⟩ := ⟨Nat.le_trans (dcL_len _ _) hg.1, hg.2⟩
 have hc2 : Clo (.ro 2 ((dpL x.points i).map TPoint.en)) := clo_list TPoint.clo_en
 have hc3 : Clo (.ro 2 ((dcL x.points i).map TPoint.en)) := clo_list TPoint.clo_en
 have hce2 : Clo (.agg (TFeature.en ⟨x.id, x.kind, x.rank, x.name, dpL x.points i⟩)) := Clo.agg (TFeature.clo_en _)
 have hce3 : Clo (.agg (TFeature.en ⟨x.id, x.kind, x.rank, x.name, dcL x.points i⟩)) := Clo.agg (TFeature.clo_en _)
 have hct2 : Clo (.tup [.ro 2 ((dpL x.points i).map TPoint.en), B (dpOk x.points i)]) := Clo.tup (clo_cons hc2 (clo_cons (clo_c _) clo_nil))
 have hct3 : Clo (.tup [.ro 2 ((dcL x.points i).map TPoint.en), B (dcOk x.points i)]) := Clo.tup (clo_cons hc3 (clo_cons (clo_c _) clo_nil))
 rcases df_cases x i with ⟨k2, ho, hdf, hok⟩ | ⟨k2, ho, hf, hdf, hok⟩ | ⟨k2, ho, hf, hdf, hok⟩ | ⟨k2, k3, ho, hdf, hok⟩ | ⟨k2, k3, ho, hf, hdf, hok⟩ | ⟨k2, k3, ho, hf, hdf, hok⟩ | ⟨k2, k3, hdf, hok⟩
 all_goals dsimp only [TFeature.en] at *
 repeat' ((first
  | (refine iAL ?_; first | refine AL.any ?_ | refine AL.any (h := POp.k Tryz.func108 (hc := cloneF_s' x hsx)) ?_ | refine AL.any (h := POp.k Tryz.func305 (hc := dp_s x.points i hl)) ?_ | refine AL.any (h := POp.k Tryz.func306 (hc := dc_s x.points i hl)) ?_ | refine AL.F ?_ | refine AL.T ?_ | refine AL.T (h := POp.k Tryz.func109 (hc := by first | exact isFeat_s ⟨x.id, x.kind, x.rank, x.name, dpL x.points i⟩ hg2 | exact isFeat_s ⟨x.id, x.kind, x.rank, x.name, dcL x.points i⟩ hg3)) ?_ | refine AL.nil ?_)
  | (refine iAW ?_; first | (refine AW.c0 ?_; constructor) | refine AW.cT ?_ | refine AW.cF ?_)) <;> (try dsimp only))
 all_goals exact Fin.two rfl (RV.cell (QOp.quietA TT_ok (by rfl))) (RV.tmp (by rfl)) (Clo.tup (clo_cons (Clo.agg (by repeat' (first | exact clo_nil | refine clo_cons ?_ ?_ | exact clo_c _ | assumption))) (clo_cons (clo_c _) clo_nil))) ⟨by rw [hdf, hok] <;> rfl, rfl⟩

theorem size_i (x : TFeature) (i : Nat) (hg : x.gd) : VCalls Tryz.prog 275 [.agg x.en, I (i : Int)] (fun r M => r = I (sizeA x i) ∧ M = []) := by
 refine VB Tryz.func275 17 (fun E hE => ?_)
 have hclP : Clo (.ro 2 (x.points.map TPoint.en)) := clo_list TPoint.clo_en
 have hcle : Clo (.agg x.en) := Clo.agg x.clo_en
 have hl := hg.1
 have hsx : x.sm := hg.1
 dsimp only [TFeature.en]
 rcases kd_cases x with h1 | ⟨h1, h2⟩ | ⟨h1, h2⟩
 repeat' ((first
  | (refine iAL ?_; first | refine AL.any ?_ | refine AL.any (h := POp.k Tryz.func307 (hc := crnA_i _ _ (by assumption))) ?_ | refine AL.any (h := POp.k Tryz.func308 (hc := crnS_i _ _ (by assumption))) ?_ | refine AL.nil ?_)
  | (refine iAW ?_; first | (refine AW.c0 ?_; constructor) | refine AW.cT ?_ | refine AW.cF ?_)) <;> (try dsimp only))
 all_goals exact Fin.one rfl (RV.tmp (by rfl)) (clo_c _) ⟨by first | (rw [sizeA, if_pos h1]) | (rw [sizeA, if_neg (by rw [h1]; decide), if_pos h2]) | (rw [sizeA, if_neg (by rw [h1]; decide), if_neg (by rw [h2]; decide)]), rfl⟩

theorem df_i (x : TFeature) (i : Nat) (hg : x.gd) : VCalls Tryz.prog 277 [.agg x.en, I (i : Int)] (fun r M => r = .tup [.agg (dfF x i).en, B (dfOk x i)] ∧ M = []) := by
 refine VB Tryz.func277 40 (fun E hE => ?_)
 have hclP : Clo (.ro 2 (x.points.map TPoint.en)) := clo_list TPoint.clo_en
 have hcle : Clo (.agg x.en) := Clo.agg x.clo_en
 have hl := hg.1
 have hsx : x.sm := hg.1
 have hg2 : TFeature.gd ⟨x.id, x.kind, x.rank, x.name, dpL x.points i⟩ := ⟨Nat.le_trans (dpL_len _ _) hg.1, hg.2⟩
 have hg3 : TFeature.gd ⟨x.id, x.kind, x.rank, x.name, dcL x.points i⟩ := ⟨Nat.le_trans (dcL_len _ _) hg.1, hg.2⟩
 have hc2 : Clo (.ro 2 ((dpL x.points i).map TPoint.en)) := clo_list TPoint.clo_en
 have hc3 : Clo (.ro 2 ((dcL x.points i).map TPoint.en)) := clo_list TPoint.clo_en
 have hce2 : Clo (.agg (TFeature.en ⟨x.id, x.kind, x.rank, x.name, dpL x.points i⟩)) := Clo.agg (TFeature.clo_en _)
 have hce3 : Clo (.agg (TFeature.en ⟨x.id, x.kind, x.rank, x.name, dcL x.points i⟩)) := Clo.agg (TFeature.clo_en _)
 have hct2 : Clo (.tup [.ro 2 ((dpL x.points i).map TPoint.en), B (dpOk x.points i)]) := Clo.tup (clo_cons hc2 (clo_cons (clo_c _) clo_nil))
 have hct3 : Clo (.tup [.ro 2 ((dcL x.points i).map TPoint.en), B (dcOk x.points i)]) := Clo.tup (clo_cons hc3 (clo_cons (clo_c _) clo_nil))
 rcases df_cases x i with ⟨k2, ho, hdf, hok⟩ | ⟨k2, ho, hf, hdf, hok⟩ | ⟨k2, ho, hf, hdf, hok⟩ | ⟨k2, k3, ho, hdf, hok⟩ | ⟨k2, k3, ho, hf, hdf, hok⟩ | ⟨k2, k3, ho, hf, hdf, hok⟩ | ⟨k2, k3, hdf, hok⟩
 all_goals dsimp only [TFeature.en] at *
 repeat' ((first
  | (refine iAL ?_; first | refine AL.any ?_ | refine AL.any (h := POp.k Tryz.func118 (hc := cloneF' x hsx)) ?_ | refine AL.any (h := POp.k Tryz.func309 (hc := dp_i x.points i hl)) ?_ | refine AL.any (h := POp.k Tryz.func310 (hc := dc_i x.points i hl)) ?_ | refine AL.F ?_ | refine AL.T ?_ | refine AL.T (h := POp.k Tryz.func119 (hc := by first | exact isFeat_i ⟨x.id, x.kind, x.rank, x.name, dpL x.points i⟩ hg2 | exact isFeat_i ⟨x.id, x.kind, x.rank, x.name, dcL x.points i⟩ hg3)) ?_ | refine AL.nil ?_)
  | (refine iAW ?_; first | (refine AW.c0 ?_; constructor) | refine AW.cT ?_ | refine AW.cF ?_)) <;> (try dsimp only))
 all_goals exact Fin.two rfl (RV.cell (QOp.quietA TT_ok (by rfl))) (RV.tmp (by rfl)) (Clo.tup (clo_cons (Clo.agg (by repeat' (first | exact clo_nil | refine clo_cons ?_ ?_ | exact clo_c _ | assumption))) (clo_cons (clo_c _) clo_nil))) ⟨by rw [hdf, hok] <;> rfl, rfl⟩

theorem meetF_s (a b : TFeature) (ga : a.gd) (gb : b.gd) : VCalls Tryz.prog 150 [.agg a.en, .agg b.en] (fun r M => r = I (meetF a b) ∧ M = []) := by
 refine VB Tryz.func150 36 (fun E hE => ?_)
 have a1 := True.intro
 have hclA : Clo (.ro 4 (((partsOf a)).map TSegment.en)) := clo_list TSegment.clo_en
 have hclB : Clo (.ro 4 (((partsOf b)).map TSegment.en)) := clo_list TSegment.clo_en
 have hcla : Clo (.agg a.en) := Clo.agg a.clo_en
 have hclb : Clo (.agg b.en) := Clo.agg b.clo_en
 have hla := partsOf_le a
 have hlb := partsOf_le b
 repeat' ((first
  | (refine iAL ?_; first | refine AL.any ?_ | refine AL.any (h := POp.k Tryz.func110 (hc := by first | exact parts_s a ga | exact parts_s b gb)) ?_ | refine AL.any (h := POp.k Tryz.func222 (hc := max_s _ _)) ?_ | refine AL.nil ?_)
  | ((with_reducible show DL ..); first | refine DL.any ?_ | refine DL.any (h := POp.k Tryz.func223 (hc := meet_s s y)) ?_ | refine DL.nil ?_)
  | (refine iAW ?_; first | (refine AW.c0 ?_; constructor) | refine AW.dr (id := 10) 10 ?_ | refine AW.cT ?_ | refine AW.cF ?_)
  | (
 have _ := a1
 clear a1
 refine AW.loopD hE (fun s_ : Nat => [.any, .any, .any, .any, .any, I (mtTo (partsOf a) (partsOf b) s_), .ro 4 (((partsOf a)).map TSegment.en), .ro 4 (((partsOf b)).map TSegment.en), I (s_ : Int), .any, .any, .any, .any, .any, .any, .any, .any, .any, .any, .any, .any, .any, .any, .any, .any, .any, .any, .any, .any, .any, .any, .any, .any, .any, .any, .any, .any, .any]) (fun s_ => [some ⟨81, 5, 0, true, [a.en]⟩, some ⟨81, 5, 0, true, [b.en]⟩]) (fun s_ => (partsOf a).length - s_) (fun s_ => s_ ≤ (partsOf a).length) 0 (Nat.zero_le _) ?_ (by first | rfl | (rfl)) ?_
 (focus (exact wkI))
 rintro i hJ
 try dsimp only at hJ
 try dsimp only
 by_cases hlt : i < (partsOf a).length
 case' pos =>
  have a2 := True.intro
  obtain ⟨s, hs⟩ := getD_some (l := (partsOf a)) (i := i) hlt
  have hg := map_get (f := TSegment.en) hs
  have ht := lt_true (f := TSegment.en) hlt
  have hn := next_ix hlt (by omega)
  have hss := mtTo_succ (T := (partsOf b)) hs
  have hcs : Clo (.agg s.en) := Clo.agg s.clo_en
 case' neg =>
  have q1 := True.intro
  have ht := lt_false (f := TSegment.en) hlt
  have ei : i = (partsOf a).length := by omega
  rw [ei]
  clear ei)
  | (
 have _ := a2
 clear a2
 refine AW.loopD hE (fun s_ : Nat => [.any, .any, .any, .any, .any, I (mrTo s (partsOf b) (mtTo (partsOf a) (partsOf b) i) s_), .ro 4 (((partsOf a)).map TSegment.en), .ro 4 (((partsOf b)).map TSegment.en), I (i : Int), I (s_ : Int), .any, .any, .any, .any, .any, .any, .any, .any, .any, .any, .any, .any, .any, .any, .any, .any, .any, .any, .any, .any, .any, .any, .any, .any, .any, .any, .any, .any]) (fun s_ => [some ⟨81, 5, 0, true, [a.en]⟩, some ⟨81, 5, 0, true, [b.en]⟩]) (fun s_ => (partsOf b).length - s_) (fun s_ => s_ ≤ (partsOf b).length) 0 (Nat.zero_le _) ?_ (by first | rfl | (rfl)) ?_
 (focus (exact wkI))
 rintro k hJ
 try dsimp only at hJ
 try dsimp only
 by_cases hlt : k < (partsOf b).length
 case' pos =>
  have p2 := True.intro
  obtain ⟨y, hy⟩ := getD_some (l := (partsOf b)) (i := k) hlt
  have hgy := map_get (f := TSegment.en) hy
  have hty := lt_true (f := TSegment.en) hlt
  have hny := next_ix hlt (by omega)
  have hsy := mrTo_succ (s := s) (n := mtTo (partsOf a) (partsOf b) i) hy
  have hcy : Clo (.agg y.en) := Clo.agg y.clo_en
 case' neg =>
  have q2 := True.intro
  have hty := lt_false (f := TSegment.en) hlt
  have ek : k = (partsOf b).length := by omega
  rw [ek]
  clear ek)) <;> (try dsimp only))
 all_goals first
  | (have _ := p2; refine ⟨k + 1, _, hlt, by omega, ?_, rfl, ?_, ?_⟩; (focus ((refine wkj ?_; repeat' with_reducible constructor) <;> first | rfl | (rw [hsy] <;> first | rfl | (unfold wmax; rfl)) | (rw [hny]; done))); (focus (exact fitsA)); (focus (exact fitsM_cons (clo_one a.clo_en) (fitsM_cons (clo_one b.clo_en) (FitsM.nil _)))))
  | (have _ := q2; refine ⟨i + 1, _, (by assumption), by omega, ?_, rfl, ?_, ?_⟩; (focus ((refine wkj ?_; repeat' with_reducible constructor) <;> first | rfl | (rw [hss]; done) | (rw [hn]; done))); (focus (exact fitsA)); (focus (exact fitsM_cons (clo_one a.clo_en) (fitsM_cons (clo_one b.clo_en) (FitsM.nil _)))))
  | (have _ := q1; exact Fin.one rfl (RV.tmp (by rfl)) (clo_c _) ⟨by rw [mt_all], rfl⟩)

theorem great_i (S1 S2 : List TSegment) (h1 : S1.length ≤ 1048576) (h2 : S2.length ≤ 1048576) : VCalls Tryz.prog 224 [.ro 4 ((S1).map TSegment.en), .ro 4 ((S2).map TSegment.en)] (fun r M => r = I (mtTo S1 S2 S1.length) ∧ M = []) := by
 refine VB Tryz.func224 28 (fun E hE => ?_)
 have a1 := True.intro
 have hclA : Clo (.ro 4 ((S1).map TSegment.en)) := clo_list TSegment.clo_en
 have hclB : Clo (.ro 4 ((S2).map TSegment.en)) := clo_list TSegment.clo_en
 repeat' ((first
  | (refine iAL ?_; first | refine AL.any ?_ | refine AL.any (h := POp.k Tryz.func247 (hc := meet_i s y)) ?_ | refine AL.nil ?_)
  | (refine iAW ?_; first | (refine AW.c0 ?_; constructor) | refine AW.cT ?_ | refine AW.cF ?_)
  | (
 have _ := a1
 clear a1
 refine AW.loopD hE (fun s_ : Nat => [.any, .ro 4 ((S2).map TSegment.en), .any, .any, .any, I (mtTo S1 S2 s_), .any, .any, .any, .any, .ro 4 ((S1).map TSegment.en), I ((S1.map TSegment.en).length : Int), I (s_ : Int), .any, .any, .any, .any, .any, .any, .any, .any, .any, .any, .any, .any, .any, .any, .any, .any, .any]) (fun s_ => []) (fun s_ => S1.length - s_) (fun s_ => s_ ≤ S1.length) 0 (Nat.zero_le _) ?_ (by first | rfl | (rfl)) ?_
 (focus (exact wkI))
 rintro i hJ
 try dsimp only at hJ
 try dsimp only
 by_cases hlt : i < S1.length
 case' pos =>
  have a2 := True.intro
  obtain ⟨s, hs⟩ := getD_some (l := S1) (i := i) hlt
  have hg := map_get (f := TSegment.en) hs
  have ht := lt_true (f := TSegment.en) hlt
  have hn := next_ix hlt (by omega)
  have hss := mtTo_succ (T := S2) hs
  have hcs : Clo (.agg s.en) := Clo.agg s.clo_en
 case' neg =>
  have q1 := True.intro
  have ht := lt_false (f := TSegment.en) hlt
  obtain rfl : i = S1.length := by omega)
  | (
 have _ := a2
 clear a2
 refine AW.loopD hE (fun s_ : Nat => [.any, .ro 4 ((S2).map TSegment.en), .any, .any, .any, I (mrTo s S2 (mtTo S1 S2 i) s_), .any, .ref 0 0 4 0 0, .any, .any, .ro 4 ((S1).map TSegment.en), I ((S1.map TSegment.en).length : Int), I (i : Int), .any, .any, .any, .ro 4 ((S2).map TSegment.en), I ((S2.map TSegment.en).length : Int), I (s_ : Int), .any, .any, .any, .any, .any, .any, .any, .any, .any, .any, .any]) (fun s_ => [some ⟨200, 4, 0, true, [s.en]⟩]) (fun s_ => S2.length - s_) (fun s_ => s_ ≤ S2.length) 0 (Nat.zero_le _) ?_ (by first | rfl | (rfl)) ?_
 (focus (exact wkI))
 rintro k hJ
 try dsimp only at hJ
 try dsimp only
 by_cases hlt : k < S2.length
 case' pos =>
  have p2 := True.intro
  obtain ⟨y, hy⟩ := getD_some (l := S2) (i := k) hlt
  have hgy := map_get (f := TSegment.en) hy
  have hty := lt_true (f := TSegment.en) hlt
  have hny := next_ix hlt (by omega)
  have hsy := mrTo_succ (s := s) (n := mtTo S1 S2 i) hy
  have hcy : Clo (.agg y.en) := Clo.agg y.clo_en
 case' neg =>
  have q2 := True.intro
  have hty := lt_false (f := TSegment.en) hlt
  have ek : k = S2.length := by omega
  rw [ek]
  clear ek)) <;> (try dsimp only))
 all_goals first
  | (have _ := p2; refine ⟨k + 1, _, hlt, by omega, ?_, rfl, ?_, ?_⟩; (focus ((refine wkj ?_; repeat' with_reducible constructor) <;> first | rfl | (rw [hsy] <;> first | rfl | (unfold wmax; rfl)) | (rw [hny]; done))); (focus (exact fitsA)); (focus (exact fitsM_cons (clo_one s.clo_en) (FitsM.nil _))))
  | (have _ := q2; refine ⟨i + 1, _, (by assumption), by omega, ?_, rfl, ?_, ?_⟩; (focus ((refine wkj ?_; repeat' with_reducible constructor) <;> first | rfl | (rw [hss]; done) | (rw [hn]; done))); (focus (exact fitsA)); (focus (exact FitsM.nil _)))
  | (have _ := q1; exact Fin.one rfl (RV.tmp (by rfl)) (clo_c _) ⟨rfl, rfl⟩)

theorem meetF_i (a b : TFeature) (ga : a.gd) (gb : b.gd) : VCalls Tryz.prog 151 [.agg a.en, .agg b.en] (fun r M => r = I (meetF a b) ∧ M = []) := by
 refine VB Tryz.func151 8 (fun E hE => ?_)
 have hclA : Clo (.ro 4 (((partsOf a)).map TSegment.en)) := clo_list TSegment.clo_en
 have hclB : Clo (.ro 4 (((partsOf b)).map TSegment.en)) := clo_list TSegment.clo_en
 have hcla : Clo (.agg a.en) := Clo.agg a.clo_en
 have hclb : Clo (.agg b.en) := Clo.agg b.clo_en
 have hla := partsOf_le a
 have hlb := partsOf_le b
 repeat' ((first
  | (refine iAL ?_; first | refine AL.any ?_ | refine AL.any (h := POp.k Tryz.func184 (hc := by first | exact parts_i a ga | exact parts_i b gb)) ?_ | refine AL.any (h := POp.k Tryz.func224 (hc := great_i (partsOf a) (partsOf b) (by omega) (by omega))) ?_ | refine AL.nil ?_)
  | ((with_reducible show DL ..); first | refine DL.any ?_ | refine DL.any (h := POp.k Tryz.func184 (hc := by first | exact parts_i a ga | exact parts_i b gb)) ?_ | refine DL.nil ?_)
  | (refine iAW ?_; first | (refine AW.c0 ?_; constructor) | refine AW.dr (id := 1) 3 ?_)) <;> (try dsimp only))
 all_goals exact Fin.one rfl (RV.tmp (by rfl)) (clo_c _) ⟨by rw [← mt_all], rfl⟩

theorem can_s (x : TFeature) (j : Nat) (os : List TFeature) (hgx : x.gd) (hos : os.length ≤ 1048576) (hgo : ∀ o ∈ os, o.gd) : VCalls Tryz.prog 270 [.agg x.en, I (j : Int), .ro 5 (os.map TFeature.en)] (fun r M => r = B (canS x j os) ∧ M = []) := by
 refine VB Tryz.func270 36 (fun E hE => ?_)
 have a1 := True.intro
 have hclo : Clo (.ro 5 (os.map TFeature.en)) := clo_list TFeature.clo_en
 have hcle : Clo (.agg x.en) := Clo.agg x.clo_en
 have hcld : Clo (.agg (dfF x j).en) := Clo.agg (TFeature.clo_en _)
 have hgd := dfF_gd hgx j
 have hctd : Clo (.tup [.agg (dfF x j).en, B (dfOk x j)]) := Clo.tup (clo_cons hcld (clo_cons (clo_c _) clo_nil))
 repeat' ((first
  | (refine iAL ?_; first | refine AL.any ?_ | refine AL.any (h := POp.k Tryz.func150 (hc := by first | exact meetF_s (dfF x j) o hgd hgo1 | exact meetF_s x o hgx hgo1)) ?_ | refine AL.any (h := POp.k Tryz.func271 (hc := df_s x j hgx)) ?_ | refine AL.F ?_ | refine AL.T ?_ | refine AL.nil ?_)
  | ((with_reducible show DL ..); first | refine DL.any ?_ | refine DL.any (h := POp.k Tryz.func150 (hc := by first | exact meetF_s (dfF x j) o hgd hgo1 | exact meetF_s x o hgx hgo1)) ?_ | refine DL.nil ?_)
  | (refine iAW ?_; first | (refine AW.c0 ?_; constructor) | refine AW.dr (id := 5) 11 ?_ | refine AW.cT ?_ | refine AW.cF ?_)
  | (
 have _ := a1
 clear a1
 refine AW.loopD hE (fun s_ : Nat => [.any, .any, .ro 5 (os.map TFeature.en), .ref 0 0 5 0 0, .any, .any, .any, .ref 1 0 5 0 0, B (canTo x j os s_), I (s_ : Int), .any, .any, .any, .any, .any, .any, .any, .any, .any, .any, .any, .any, .any, .any, .any, .any, .any, .any, .any, .any, .any, .any, .any, .any, .any, .any, .any, .any, .any]) (fun s_ => [some ⟨81, 5, 0, true, [x.en]⟩, some ⟨81, 5, 0, true, [(dfF x j).en]⟩]) (fun s_ => os.length - s_) (fun s_ => s_ ≤ os.length) 0 (Nat.zero_le _) ?_ (by first | rfl | (rfl)) ?_
 (focus ((refine wkj ?_; repeat' with_reducible constructor) <;> first | rfl | (simp [canTo])))
 rintro k hJ
 try dsimp only at hJ
 try dsimp only
 by_cases hlt : k < os.length ∧ canTo x j os k = true
 case' pos =>
  have p1 := True.intro
  obtain ⟨hk, hok⟩ := hlt
  obtain ⟨o, ho⟩ := getD_some (l := os) (i := k) hk
  have hgg := map_get (f := TFeature.en) ho
  have ht := lt_true (f := TFeature.en) hk
  have hn := next_ix hk (by omega)
  have hgo1 := hgo o (List.mem_of_getElem? ho)
  have hclo1 : Clo (.agg o.en) := Clo.agg o.clo_en
  have hat := canTo_succ ho hok
 case' neg =>
  have q1 := True.intro
  by_cases hk : k < os.length
  case' pos =>
   have ht := lt_true (f := TFeature.en) hk
   have hok : canTo x j os k = false := by
    cases hc : canTo x j os k
    · rfl
    · exact absurd ⟨hk, hc⟩ hlt
   have hres := canTo_end (.inl hok)
  case' neg =>
   have ht := lt_false (f := TFeature.en) hk
   have hres := canTo_end (x := x) (j := j) (show canTo x j os k = false ∨ k = os.length from .inr (by omega)))) <;> (try dsimp only))
 all_goals first
  | (have _ := p1; refine ⟨k + 1, _, (by assumption), by omega, ?_, rfl, ?_, ?_⟩; (focus (exact wkH)); (focus (exact fitsA)); (focus (exact fitsM_cons (clo_one x.clo_en) (fitsM_cons (clo_one (TFeature.clo_en _)) (FitsM.nil _)))))
  | (have _ := q1; exact Fin.one rfl (RV.tmp (by rfl)) (clo_c _) ⟨by rw [hres], rfl⟩)

theorem can_i (x : TFeature) (j : Nat) (os : List TFeature) (hgx : x.gd) (hos : os.length ≤ 1048576) (hgo : ∀ o ∈ os, o.gd) : VCalls Tryz.prog 276 [.agg x.en, I (j : Int), .ro 5 (os.map TFeature.en)] (fun r M => r = B (canS x j os) ∧ M = []) := by
 refine VB Tryz.func276 30 (fun E hE => ?_)
 have hclo : Clo (.ro 5 (os.map TFeature.en)) := clo_list TFeature.clo_en
 have hcle : Clo (.agg x.en) := Clo.agg x.clo_en
 have hcld : Clo (.agg (dfF x j).en) := Clo.agg (TFeature.clo_en _)
 have hgd := dfF_gd hgx j
 have hctd : Clo (.tup [.agg (dfF x j).en, B (dfOk x j)]) := Clo.tup (clo_cons hcld (clo_cons (clo_c _) clo_nil))
 rcases Bool.eq_false_or_eq_true (dfOk x j) with hdk | hdk
 repeat' ((first
  | (refine iAL ?_; first | refine AL.any ?_ | refine AL.any (h := POp.k Tryz.func151 (hc := by first | exact meetF_i (dfF x j) o hgd hgo1 | exact meetF_i x o hgx hgo1)) ?_ | refine AL.any (h := POp.k Tryz.func277 (hc := df_i x j hgx)) ?_ | refine AL.nil ?_)
  | ((with_reducible show DL ..); first | refine DL.any ?_ | refine DL.any (h := POp.k Tryz.func151 (hc := by first | exact meetF_i (dfF x j) o hgd hgo1 | exact meetF_i x o hgx hgo1)) ?_ | refine DL.nil ?_)
  | (refine iAW ?_; first | (refine AW.c0 ?_; constructor) | refine AW.dr (id := 7) 5 ?_ | refine AW.cT ?_ | refine AW.cF ?_)
  | (
 refine AW.loopD hE (fun i : Nat => [.any, .any, .any, .ref 0 0 5 0 0, .any, .any, .any, .ref 1 0 5 0 0, .any, .any, .any, .any, .any, .any, .any, .any, .any, .any, .any, .ro 5 (os.map TFeature.en), I ((os.map TFeature.en).length : Int), I (i : Int), .any, .any, .any, .any, .any, .any, .any, .any, .any, .any, .any]) (fun i => [some ⟨81, 5, 0, true, [x.en]⟩, some ⟨81, 5, 0, true, [(dfF x j).en]⟩]) (fun i => os.length - i) (fun i => i ≤ os.length ∧ (os.take i).all (canP x j) = true) 0 ⟨Nat.zero_le _, rfl⟩ ?_ (by first | rfl | (simp [fil_zero]; done)) ?_
 (focus (exact wkI))
 intro i hi
 have hi2 := hi.2
 by_cases hlt : i < os.length
 case' pos =>
  have hP := True.intro
  obtain ⟨o, hx⟩ : ∃ x, os[i]? = some x := ⟨_, List.getElem?_eq_getElem hlt⟩
  have hg := map_get (f := TFeature.en) hx
  have ht := lt_true (f := TFeature.en) hlt
  have hn := next_ix hlt (by omega)
  have hgo1 := hgo o (List.mem_of_getElem? hx)
  have hclo1 : Clo (.agg o.en) := Clo.agg o.clo_en
  have hgt : decide (meetF (dfF x j) o > meetF x o) = !canP x j o := by unfold canP; by_cases h : meetF (dfF x j) o ≤ meetF x o <;> simp [h] <;> omega
  rcases Bool.eq_false_or_eq_true (canP x j o) with hcp | hcp
  case' inl => have hjn := (all_take_y (p := canP x j) hx hi2).trans hcp
  all_goals (rw [hcp] at hgt; simp only [Bool.not_true, Bool.not_false] at hgt)
 case' neg =>
  have hQ := True.intro
  have ht := lt_false (f := TFeature.en) hlt
  have e : i = os.length := by omega
  subst e
  try rw [List.take_length])) <;> (try dsimp only))
 all_goals first
  | (have _ := hP; (refine ⟨i + 1, _, ⟨hlt, hjn⟩, by omega, ?_, rfl, ?_, ?_⟩; (focus (exact wkH)); (focus (exact fitsA)); (focus (exact fitsM_cons (clo_one x.clo_en) (fitsM_cons (clo_one (TFeature.clo_en _)) (FitsM.nil _))))))
  | (have _ := hP; exact Fin.one rfl (RV.tmp (by rfl)) (clo_c _) ⟨by rw [canS_no hx hcp], rfl⟩)
  | (have _ := hQ; exact Fin.one rfl (RV.tmp (by rfl)) (clo_c _) ⟨by rw [can_all (by assumption), hi2], rfl⟩)
  | (exact Fin.one rfl (RV.tmp (by rfl)) (clo_c _) ⟨by rw [canS_n (by assumption)], rfl⟩)

theorem isFeatT_s (x : TFeature) (hg : x.gd) (h : isFeat x = true) : VCalls Tryz.prog 109 [.agg x.en] (fun r M => r = B true ∧ M = []) := h ▸ isFeat_s x hg
theorem sizeB_s (x : TFeature) (b : Int) (hb : ∃ k : Nat, b = (k : Int)) (hg : x.gd) : VCalls Tryz.prog 269 [.agg x.en, I b] (fun r M => r = I (sizeA x b.toNat) ∧ M = []) := by
 obtain ⟨k, rfl⟩ := hb
 exact size_s x k hg
theorem dfB_s (x : TFeature) (b : Int) (hb : ∃ k : Nat, b = (k : Int)) (hg : x.gd) : VCalls Tryz.prog 271 [.agg x.en, I b] (fun r M => r = .tup [.agg (dfF x b.toNat).en, B (dfOk x b.toNat)] ∧ M = []) := by
 obtain ⟨k, rfl⟩ := hb
 exact df_s x k hg
theorem shrF_s (f : TFeature) (os : List TFeature) (least : Int) (hgf : f.gd) (hF : isFeat f = true) (hos : os.length ≤ 1048576) (hgo : ∀ o ∈ os, o.gd) : VCalls Tryz.prog 202 [.agg f.en, .ro 5 (os.map TFeature.en), I least] (fun r M => r = .agg (shr os least f).en ∧ M = []) := by
 refine VB Tryz.func202 57 (fun E hE => ?_)
 have a1 := True.intro
 have hclo : Clo (.ro 5 (os.map TFeature.en)) := clo_list TFeature.clo_en
 have hclf : Clo (.agg f.en) := Clo.agg f.clo_en
 have hsf : f.sm := hgf.1
 repeat' ((first
  | (refine iAL ?_; first | refine AL.any ?_ | refine AL.any (h := POp.k Tryz.func108 (hc := cloneF_s' f hsf)) ?_ | refine AL.any (h := POp.k Tryz.func109 (hc := isFeatT_s f hgf hF)) ?_ | refine AL.any (h := POp.k Tryz.func269 (hc := by first | exact size_s out i hgt | exact sizeB_s out (bestTo out os least i) (by assumption) hgt)) ?_ | refine AL.any (h := POp.k Tryz.func271 (hc := dfB_s out (bestTo out os least out.points.length) hbk hgt)) ?_ | refine AL.U ?_ | refine AL.F ?_ | refine AL.T ?_ | refine AL.T (h := POp.k Tryz.func269 (hc := by first | exact size_s out i hgt | exact sizeB_s out (bestTo out os least i) (by assumption) hgt)) ?_ | refine AL.T (h := POp.k Tryz.func270 (hc := can_s out i os hgt hos hgo)) ?_ | refine AL.nil ?_)
  | (refine iAW ?_; first | (refine AW.c0 ?_; constructor) | refine AW.cT ?_ | refine AW.cF ?_)
  | (
 have _ := a1
 clear a1
 refine AW.loopD hE (fun s_ : TFeature => [.any, .ro 5 (os.map TFeature.en), I least, .ref 0 0 5 0 0, .any, .any, .ref 1 0 5 0 0, .ref 2 0 5 0 0, .any, .any, .any, .any, .any, .any, .any, .any, .any, .any, .any, .any, .any, .any, .any, .any, .any, .any, .any, .any, .any, .any, .any, .any, .any, .any, .any, .any, .any, .any, .any, .any, .any, .any, .any, .any, .any, .any, .any, .any, .any, .any, .any, .any, .any, .any, .any, .any, .any, .any, .any, .any]) (fun s_ => [some ⟨81, 5, 0, true, [f.en]⟩, some ⟨81, 5, 0, true, [[.c (.int .i64 0), .c (.int .i64 0), .c (.int .i64 0), .c (.string ⟨#[]⟩), .c (.slice none 0 0)]]⟩, some ⟨81, 5, 0, true, [s_.en]⟩]) (fun s_ => s_.points.length) (fun s_ => s_.gd ∧ shr os least s_ = shr os least f) f ⟨hgf, rfl⟩ ?_ (by first | rfl | (rfl)) ?_
 (focus (exact wkI))
 rintro out hJ
 try dsimp only at hJ
 try dsimp only
 by_cases hlt : True
 case' pos =>
  have a2 := True.intro
  obtain ⟨hgt, hsh⟩ := hJ
  have hol := hgt.1
  have hclt : Clo (.agg out.en) := Clo.agg out.clo_en
  have hclp : Clo (.ro 2 (out.points.map TPoint.en)) := clo_list TPoint.clo_en
 case' neg =>
  have q1 := True.intro
  exact absurd trivial hlt)
  | (
 have _ := a2
 clear a2
 refine AW.loopD hE (fun s_ : Nat => [.any, .ro 5 (os.map TFeature.en), I least, .ref 0 0 5 0 0, .any, .any, .ref 1 0 5 0 0, .ref 2 0 5 0 0, I (bestTo out os least s_), I (s_ : Int), .any, .any, .any, .any, .any, .any, .any, .any, .any, .any, .any, .any, .any, .any, .any, .any, .any, .any, .any, .any, .any, .any, .any, .any, .any, .any, .any, .any, .any, .any, .any, .any, .any, .any, .any, .any, .any, .any, .any, .any, .any, .any, .any, .any, .any, .any, .any, .any, .any, .any]) (fun s_ => [some ⟨81, 5, 0, true, [f.en]⟩, some ⟨81, 5, 0, true, [[.c (.int .i64 0), .c (.int .i64 0), .c (.int .i64 0), .c (.string ⟨#[]⟩), .c (.slice none 0 0)]]⟩, some ⟨81, 5, 0, true, [out.en]⟩]) (fun s_ => out.points.length - s_) (fun s_ => s_ ≤ out.points.length) 0 (Nat.zero_le _) ?_ (by first | rfl | (rfl)) ?_
 (focus (exact wkI))
 rintro i hJ2
 try dsimp only at hJ2
 try dsimp only
 by_cases hlt : i < out.points.length
 case' pos =>
  have p2 := True.intro
  have ht := lt_true (f := TPoint.en) hlt
  have hn := next_ix hlt (by omega)
  rcases pick_cases os least i hol with ⟨g1, g4, hbn⟩ | ⟨g1, g2, hbn⟩ | ⟨g1, g2, g3, g4, hbn⟩ | ⟨g1, g2, g3, g4, hbn⟩ | ⟨g1, g2, g3, hbk, g5, hbn⟩ | ⟨g1, g2, g3, hbk, g5, g4, hbn⟩ | ⟨g1, g2, g3, hbk, g5, g4, hbn⟩
 case' neg =>
  have q2 := True.intro
  have ht := lt_false (f := TPoint.en) hlt
  have ei : i = out.points.length := by omega
  rw [ei]
  rcases best_form out os least out.points.length with hb | ⟨k, _, hb, hck⟩
  case' inl =>
   have hb0 : decide (bestTo out os least out.points.length < 0) = true := by rw [hb]; rfl
   have hres : shr os least f = out := by rw [← hsh, shr_end hb]
  case' inr =>
   have hb0 : decide (bestTo out os least out.points.length < 0) = false := by rw [hb]; simp
   have hbk : ∃ k : Nat, bestTo out os least out.points.length = (k : Int) := ⟨k, hb⟩
   have hst := shr_step hol hb hck
   have hbt : (bestTo out os least out.points.length).toNat = k := by rw [hb]; rfl
   have hcld : Clo (.agg (dfF out (bestTo out os least out.points.length).toNat).en) := Clo.agg (TFeature.clo_en _)
   have hctd : Clo (.tup [.agg (dfF out (bestTo out os least out.points.length).toNat).en, B (dfOk out (bestTo out os least out.points.length).toNat)]) := Clo.tup (clo_cons hcld (clo_cons (clo_c _) clo_nil)))) <;> (try dsimp only))
 all_goals first
  | (have _ := p2; refine ⟨i + 1, _, hlt, by omega, ?_, rfl, ?_, ?_⟩; (focus ((refine wkj ?_; repeat' with_reducible constructor) <;> first | rfl | (rw [hbn]; done) | (rw [hn]; done))); (focus (exact fitsA)); (focus (exact fitsM_cons (clo_one f.clo_en) (fitsM_cons (clo_rows_b rfl) (fitsM_cons (clo_one (TFeature.clo_en _)) (FitsM.nil _))))))
  | (have _ := q2; exact Fin.one rfl (RV.cell (QOp.quietA TT_ok (by rfl))) (Clo.agg (TFeature.clo_en _)) ⟨by rw [hres] <;> rfl, rfl⟩)
  | (have _ := q2; refine ⟨dfF out (bestTo out os least out.points.length).toNat, _, ⟨dfF_gd hgt _, by rw [hbt, ← hst.1, hsh]⟩, by (rw [hbt]; exact hst.2), ?_, rfl, ?_, ?_⟩; (focus (exact wkN)); (focus (exact fitsA)); (focus (exact fitsM_cons (clo_one f.clo_en) (fitsM_cons (clo_rows_b rfl) (fitsM_cons (clo_one (TFeature.clo_en _)) (FitsM.nil _))))))

theorem isFeatT_i (x : TFeature) (hg : x.gd) (h : isFeat x = true) : VCalls Tryz.prog 119 [.agg x.en] (fun r M => r = B true ∧ M = []) := h ▸ isFeat_i x hg
theorem sizeB_i (x : TFeature) (b : Int) (hb : ∃ k : Nat, b = (k : Int)) (hg : x.gd) : VCalls Tryz.prog 275 [.agg x.en, I b] (fun r M => r = I (sizeA x b.toNat) ∧ M = []) := by
 obtain ⟨k, rfl⟩ := hb
 exact size_i x k hg
def smX (l : List TPoint) (i : Nat) : Int := (l.take i).foldl (fun n p => IntKind.i64.wrap (n + p.x)) 0
def smY (l : List TPoint) (i : Nat) : Int := (l.take i).foldl (fun n p => IntKind.i64.wrap (n + p.y)) 0
def rmid (l : List TPoint) : TPoint := ⟨IntKind.i64.wrap ((smX l l.length).tdiv (l.length : Int)), IntKind.i64.wrap ((smY l l.length).tdiv (l.length : Int))⟩
theorem smX_succ {l : List TPoint} {i : Nat} {p : TPoint} (h : l[i]? = some p) : smX l (i + 1) = IntKind.i64.wrap (smX l i + p.x) := by
 unfold smX; rw [take_succ_of h, List.foldl_append]; rfl
theorem smY_succ {l : List TPoint} {i : Nat} {p : TPoint} (h : l[i]? = some p) : smY l (i + 1) = IntKind.i64.wrap (smY l i + p.y) := by
 unfold smY; rw [take_succ_of h, List.foldl_append]; rfl
theorem fold_bd {f : TPoint → Int} : ∀ (l : List TPoint) (n : Int), (∀ p ∈ l, 0 ≤ f p ∧ f p ≤ 200) → 0 ≤ n → n + 200 * l.length ≤ 100000 → 0 ≤ l.foldl (fun n p => IntKind.i64.wrap (n + f p)) n ∧ l.foldl (fun n p => IntKind.i64.wrap (n + f p)) n ≤ n + 200 * l.length
 | [], n, _, h0, _ => ⟨h0, by simp⟩
 | p :: l, n, h, h0, hb => by
  obtain ⟨a, b⟩ := h p List.mem_cons_self
  simp only [List.length_cons] at hb
  have e : IntKind.i64.wrap (n + f p) = n + f p := w64 (by omega) (by omega)
  have := fold_bd l (n + f p) (fun q hq => h q (List.mem_cons_of_mem _ hq)) (by omega) (by omega)
  rw [List.foldl_cons, e]
  simp only [List.length_cons]
  omega
theorem div_bd {s n : Int} (h0 : 0 ≤ s) (hn : 0 < n) (h : s ≤ 200 * n) : 0 ≤ IntKind.i64.wrap (s.tdiv n) ∧ IntKind.i64.wrap (s.tdiv n) ≤ 200 := by
 have e : s.tdiv n = s / n := Int.tdiv_eq_ediv_of_nonneg h0
 have h1 : 0 ≤ s / n := Int.ediv_nonneg h0 (by omega)
 have h2 : s / n ≤ 200 := Int.ediv_le_of_le_mul hn h
 rw [e, w64 (by omega) (by omega)]
 exact ⟨h1, h2⟩
theorem ring_pts {l : List TPoint} (h : isRing l = true) : ∀ p ∈ l, isp p.x p.y = true := fun p hp => by
 obtain ⟨i, hi⟩ := List.getElem?_of_mem hp
 have hil := (List.getElem?_eq_some_iff.1 hi).1
 have := ((ring_edges h).2.1 i hil).1
 unfold ptA at this
 rw [List.getD_eq_getElem?_getD, hi] at this
 exact this
theorem isp_of {x y : Int} (h1 : 0 ≤ x) (h2 : x ≤ 200) (h3 : 0 ≤ y) (h4 : y ≤ 200) : isp x y = true := by simp [isp, inr, *]
theorem rmid_isp {l : List TPoint} (h : isRing l = true) : isp (rmid l).x (rmid l).y = true := by
 have hp := ring_pts h
 have hn := isRing_len h
 have h1 := fold_bd (f := fun p => p.x) l 0 (fun p hp' => by have := isp_bd (hp p hp'); omega) (Int.le_refl _) (by omega)
 have h2 := fold_bd (f := fun p => p.y) l 0 (fun p hp' => by have := isp_bd (hp p hp'); omega) (Int.le_refl _) (by omega)
 have e1 : smX l l.length = l.foldl (fun n p => IntKind.i64.wrap (n + p.x)) 0 := by rw [smX, List.take_length]
 have e2 : smY l l.length = l.foldl (fun n p => IntKind.i64.wrap (n + p.y)) 0 := by rw [smY, List.take_length]
 have q1 := div_bd (n := (l.length : Int)) h1.1 (by omega) (by omega)
 have q2 := div_bd (n := (l.length : Int)) h2.1 (by omega) (by omega)
 unfold rmid
 rw [e1, e2]
 exact isp_of q1.1 q1.2 q2.1 q2.2
def midP (x : TFeature) : TPoint := x.points.getD (x.points.length / 2) ⟨0, 0⟩
def anP (x : TFeature) : TPoint := if (x.kind == 3) = true then rmid x.points else midP x
def ancOf (x : TFeature) : TPlace := ⟨x.id, anP x, x.rank⟩
def named (x : TFeature) : Bool := !(noName x.name)
def ancTo (l : List TFeature) (i : Nat) : List TPlace := ((l.take i).filter named).map ancOf
def ancs (l : List TFeature) : List TPlace := (l.filter named).map ancOf
theorem ancTo_all (l : List TFeature) : ancTo l l.length = ancs l := by rw [ancTo, List.take_length]; rfl
theorem ancTo_y {l : List TFeature} {i : Nat} {x : TFeature} (hx : l[i]? = some x) (h : noName x.name = false) : (ancTo l (i + 1)).map TPlace.en = (ancTo l i).map TPlace.en ++ [(ancOf x).en] ∧ (ancTo l (i + 1)).length = (ancTo l i).length + 1 := by
 unfold ancTo
 rw [filt_y hx (by unfold named; rw [h]; rfl)]
 simp
theorem ancTo_n {l : List TFeature} {i : Nat} {x : TFeature} (hx : l[i]? = some x) (h : noName x.name = true) : (ancTo l (i + 1)).map TPlace.en = (ancTo l i).map TPlace.en ∧ (ancTo l (i + 1)).length = (ancTo l i).length := by
 unfold ancTo
 rw [filt_n hx (by unfold named; rw [h]; rfl)]
 exact ⟨rfl, rfl⟩
theorem ancTo_len (l : List TFeature) (i : Nat) : (ancTo l i).length ≤ i := by
 unfold ancTo
 rw [List.length_map]
 exact filt_len l named i
theorem tdiv2 {n : Nat} (h : n ≤ 1048576) : IntKind.i64.wrap ((n : Int).tdiv 2) = ((n / 2 : Nat) : Int) := by
 have e : (n : Int).tdiv 2 = ((n / 2 : Nat) : Int) := (Int.ofNat_tdiv n 2).symm
 rw [e, w64 (by omega) (by omega)]
theorem mid_get {x : TFeature} (hf : isFeat x = true) (hl : x.points.length ≤ 1048576) : 0 ≤ IntKind.i64.wrap (((x.points.map TPoint.en).length : Int).tdiv 2) ∧ (x.points.map TPoint.en)[(IntKind.i64.wrap (((x.points.map TPoint.en).length : Int).tdiv 2)).toNat]? = some (midP x).en ∧ ((x.kind == 3) = false → isp (midP x).x (midP x).y = true) := by
 rw [List.length_map, tdiv2 hl]
 have hpos : 0 < x.points.length := by
  rcases kind_cases (feat_bd hf).2.2.2 with ⟨_, p, hp, _⟩ | ⟨_, _, _, h⟩ | ⟨_, _, _, h⟩
  · rw [hp]; simp
  · unfold isSimple at h
    rw [Bool.and_eq_true] at h
    have := (isLine_len h.1).1
    omega
  · have := (isRing_len h).1
    omega
 have hm : x.points.length / 2 < x.points.length := by omega
 have hg : x.points[x.points.length / 2]? = some (midP x) := by
  unfold midP
  rw [List.getD_eq_getElem?_getD, List.getElem?_eq_getElem hm]
  rfl
 refine ⟨by omega, by rw [Int.toNat_natCast, List.getElem?_map, hg]; rfl, fun hk => ?_⟩
 rcases kind_cases (feat_bd hf).2.2.2 with ⟨_, p, hp, hi⟩ | ⟨_, _, _, h⟩ | ⟨_, _, h, _⟩
 · unfold midP
   rw [hp]
   simpa using hi
 · unfold isSimple at h
   rw [Bool.and_eq_true] at h
   have := line_pt h.1 hm
   have e : ptg x.points (x.points.length / 2) = midP x := by
    have := ptg_get hm
    rw [hg] at this
    exact (Option.some.inj this).symm
   rw [e] at this
   exact this
 · rw [h] at hk; cases hk
theorem anP_isp {x : TFeature} (hf : isFeat x = true) (hl : x.points.length ≤ 1048576) : isp (anP x).x (anP x).y = true := by
 unfold anP
 split
 · rename_i h
   rcases kind_cases (feat_bd hf).2.2.2 with ⟨h1, _⟩ | ⟨_, _, h1, _⟩ | ⟨_, _, _, hr⟩
   · have e1 := beq_iff_eq.1 h
     have e2 := beq_iff_eq.1 h1
     omega
   · rw [h] at h1; cases h1
   · exact rmid_isp hr
 · rename_i h
   exact (mid_get hf hl).2.2 (by simpa using h)
theorem ancs_ok {l : List TFeature} (hS : isSource l = true) (hg : ∀ x ∈ l, x.gd) : PlOk (ancs l) := by
 obtain ⟨h1, h2, h3⟩ := (src_iff _).1 (src_filter hS named)
 refine ⟨by unfold ancs; rw [List.length_map]; exact h1, fun x hx => ?_, ?_⟩
 · unfold ancs at hx
   obtain ⟨y, hy, rfl⟩ := List.mem_map.1 hx
   have hf := h2 y hy
   exact ⟨(feat_bd hf).1, anP_isp hf (hg y (List.mem_filter.1 hy).1).1, (feat_bd hf).2.1⟩
 · unfold ancs
   rw [List.pairwise_map]
   exact h3
theorem an_cases {x : TFeature} (hf : isFeat x = true) : ((x.kind == 1) = true ∧ (x.kind == 2) = false ∧ (x.kind == 3) = false ∧ anP x = midP x ∧ (x.points.map TPoint.en)[(0 : Int).toNat]? = some (midP x).en) ∨
 ((x.kind == 1) = false ∧ (x.kind == 2) = true ∧ (x.kind == 3) = false ∧ anP x = midP x) ∨ ((x.kind == 1) = false ∧ (x.kind == 2) = false ∧ (x.kind == 3) = true ∧ anP x = rmid x.points ∧ isRing x.points = true) := by
 rcases kind_cases (feat_bd hf).2.2.2 with ⟨h1, p, hp, _⟩ | ⟨h1, h2, h3, _⟩ | ⟨h1, h2, h3, hr⟩
 · have e := beq_iff_eq.1 h1
   have h3 : (x.kind == 3) = false := by rw [e]; rfl
   refine .inl ⟨h1, by rw [e]; rfl, h3, by unfold anP; rw [if_neg (by rw [h3]; decide)], ?_⟩
   unfold midP
   rw [hp]; simp
 · exact .inr (.inl ⟨h1, h2, h3, by unfold anP; rw [if_neg (by rw [h3]; decide)]⟩)
 · exact .inr (.inr ⟨h1, h2, h3, by unfold anP; rw [if_pos h3], hr⟩)

def ovB (a b : TBox) : Bool := isBoxB a && isBoxB b && decide (wmax a.low.x b.low.x < wmin a.high.x b.high.x) && decide (wmax a.low.y b.low.y < wmin a.high.y b.high.y)
def ovI (a b : TBox) : Bool := isBoxB a && isBoxB b && decide (comX a b > 0) && decide (comY a b > 0)
theorem ovI_eq (a b : TBox) : ovI a b = ovB a b := by
 unfold ovI ovB
 cases ha : isBoxB a
 · simp
 · cases hb : isBoxB b
   · simp
   · have h1 := isBox_bd ha
     have h2 := isBox_bd hb
     unfold comX comY wsub wmin wmax
     rw [Bool.eq_iff_iff]
     simp only [Bool.and_eq_true, decide_eq_true_eq, true_and]
     rw [w64 (by split <;> split <;> omega) (by split <;> split <;> omega), w64 (by split <;> split <;> omega) (by split <;> split <;> omega)]
     repeat' split
     all_goals omega
theorem name_len {s : ByteArray} (h : isName s = true) : 1 ≤ s.size ∧ s.size ≤ 8 := by
 unfold isName inr at h
 simp at h
 omega
theorem name_max {s : ByteArray} (h : isName s = true) : s.size ≤ maxLen := by have := name_len h; rw [maxLen_eq]; omega
def lbx (p : TPoint) (s : ByteArray) (k : Int) : TBox :=
 ⟨⟨if (k == 1 || k == 3) = true then IntKind.i64.wrap (p.x - 2 * (s.size : Int)) else p.x, if (k == 2 || k == 3) = true then IntKind.i64.wrap (p.y - 3) else p.y⟩,
  ⟨if (k == 1 || k == 3) = true then p.x else IntKind.i64.wrap (p.x + 2 * (s.size : Int)), if (k == 2 || k == 3) = true then p.y else IntKind.i64.wrap (p.y + 3)⟩⟩
def lbOk (p : TPoint) (s : ByteArray) (k : Int) : Bool := isBoxB (lbx p s k)
def labB (p : TPoint) (s : ByteArray) (k : Int) : TBox := if lbOk p s k = true then lbx p s k else box0
def crTo (p : TPoint) (s : ByteArray) : Nat → List Int
 | 0 => []
 | i + 1 => crTo p s i ++ if lbOk p s (i : Int) = true then [(i : Int)] else []
def cors (p : TPoint) (s : ByteArray) : List Int := crTo p s 4
theorem crTo_y {p : TPoint} {s : ByteArray} {i : Nat} (h : lbOk p s (i : Int) = true) : (crTo p s (i + 1)).map enI = (crTo p s i).map enI ++ [[I (i : Int)]] ∧ (crTo p s (i + 1)).length = (crTo p s i).length + 1 := by
 rw [crTo, if_pos h]
 simp
theorem crTo_n {p : TPoint} {s : ByteArray} {i : Nat} (h : lbOk p s (i : Int) = false) : (crTo p s (i + 1)).map enI = (crTo p s i).map enI ∧ (crTo p s (i + 1)).length = (crTo p s i).length := by
 rw [crTo, if_neg (by rw [h]; decide), List.append_nil]
 exact ⟨rfl, rfl⟩
theorem crTo_len (p : TPoint) (s : ByteArray) : ∀ i, (crTo p s i).length ≤ i
 | 0 => Nat.le_refl _
 | i + 1 => by
  have := crTo_len p s i
  rw [crTo, List.length_append]
  split <;> simp <;> omega
theorem crTo_mem {p : TPoint} {s : ByteArray} {k : Int} : ∀ {i : Nat}, k ∈ crTo p s i → 0 ≤ k ∧ k < (i : Int) ∧ lbOk p s k = true
 | 0, h => by simp [crTo] at h
 | i + 1, h => by
  rw [crTo, List.mem_append] at h
  rcases h with h | h
  · obtain ⟨a, b, c⟩ := crTo_mem h
    exact ⟨a, by omega, c⟩
  · split at h
    · rename_i hk
      obtain rfl := List.mem_singleton.1 h
      exact ⟨by omega, by omega, hk⟩
    · simp at h
theorem cors_mem {p : TPoint} {s : ByteArray} {k : Int} (h : k ∈ cors p s) : inr k 0 3 = true ∧ lbOk p s k = true := by
 obtain ⟨a, b, c⟩ := crTo_mem h
 refine ⟨?_, c⟩
 simp [inr]
 omega
theorem cors_len (p : TPoint) (s : ByteArray) : (cors p s).length ≤ 4 := crTo_len p s 4
theorem in03 {k : Int} (h : inr k 0 3 = true) : k = 0 ∨ k = 1 ∨ k = 2 ∨ k = 3 := by simp [inr] at h; omega
theorem nat03 {i : Nat} (h : i < 4) : inr (i : Int) 0 3 = true := by simp [inr]; omega
def noOv (b t : TBox) : Bool := !ovB b t
def freeB (b : TBox) (tk : List TBox) : Bool := tk.all (noOv b)
def frK (p : TPoint) (s : ByteArray) (tk : List TBox) (k : Int) : Bool := freeB (labB p s k) tk
def frC (p : TPoint) (s : ByteArray) (tk : List TBox) : Int := ((cors p s).find? (frK p s tk)).getD (-1)
theorem find_at {α : Type} {p : α → Bool} : ∀ {l : List α} {i : Nat} {x : α}, l[i]? = some x → p x = true → (l.take i).all (fun y => !p y) = true → l.find? p = some x
 | [], i, x, hx, _, _ => by simp at hx
 | a :: l, 0, x, hx, hp, _ => by
  simp at hx
  subst hx
  rw [List.find?_cons, hp]
 | a :: l, i + 1, x, hx, hp, hn => by
  rw [List.take_succ_cons, List.all_cons, Bool.and_eq_true] at hn
  rw [List.find?_cons, (by simpa using hn.1 : p a = false)]
  exact find_at (by simpa using hx) hp hn.2
theorem find_no {α : Type} {p : α → Bool} {l : List α} (h : (l.take l.length).all (fun y => !p y) = true) : l.find? p = none := by
 rw [List.take_length, List.all_eq_true] at h
 exact List.find?_eq_none.2 fun x hx hp => by
  have := h x hx
  rw [hp] at this
  cases this
theorem frC_at {p : TPoint} {s : ByteArray} {tk : List TBox} {i : Nat} {k : Int} (hx : (cors p s)[i]? = some k) (hp : frK p s tk k = true) (hn : ((cors p s).take i).all (fun y => !frK p s tk y) = true) : frC p s tk = k := by rw [frC, find_at hx hp hn]; rfl
theorem frC_no {p : TPoint} {s : ByteArray} {tk : List TBox} (hn : ((cors p s).take (cors p s).length).all (fun y => !frK p s tk y) = true) : frC p s tk = -1 := by rw [frC, find_no hn]; rfl
theorem frC_ge {p : TPoint} {s : ByteArray} {tk : List TBox} : frC p s tk = -1 ∨ (inr (frC p s tk) 0 3 = true ∧ lbOk p s (frC p s tk) = true) := by
 unfold frC
 cases h : (cors p s).find? (frK p s tk) with
 | none => exact .inl rfl
 | some k => exact .inr (cors_mem (List.mem_of_find?_eq_some h))
theorem all_take_y' {α : Type} {l : List α} {p : α → Bool} {k : Nat} {y : α} (hy : l[k]? = some y) (ha : (l.take k).all p = true) (hp : p y = true) : (l.take (k + 1)).all p = true := (all_take_y hy ha).trans hp
theorem free_no {b t : TBox} {tk : List TBox} {i : Nat} (ht : tk[i]? = some t) (h : noOv b t = false) : freeB b tk = false := List.all_eq_false.2 ⟨t, List.mem_of_getElem? ht, by rw [h]; decide⟩

def nmOf (l : List TFeature) (k : Int) : ByteArray := match l[(fnd l k).toNat]? with
 | some f => f.name
 | none => ⟨#[]⟩
theorem anc_feat {l : List TFeature} (hS : isSource l = true) (hg : ∀ x ∈ l, x.gd) {x : TPlace} (h : x ∈ srtA (ancs l)) : ∃ (j : Nat) (f : TFeature), l[j]? = some f ∧ fnd l x.id = (j : Int) ∧ nmOf l x.id = f.name ∧ isName f.name = true ∧ isp x.at_.x x.at_.y = true := by
 have h1 := (srtA_perm _).mem_iff.1 h
 have hok := (ancs_ok hS hg).ok x h1
 obtain ⟨f, hf, rfl⟩ := List.mem_map.1 h1
 obtain ⟨hm, hn⟩ := List.mem_filter.1 hf
 obtain ⟨j, hj⟩ := List.getElem?_of_mem hm
 have e := fnd_src hS hj
 refine ⟨j, f, hj, e, ?_, ?_, hok.2.1⟩
 · show nmOf l f.id = _
   unfold nmOf
   rw [e, Int.toNat_natCast, hj]
 · have h2 := (feat_bd (src_feat hS hj)).2.2.1
   unfold named at hn
   simp only [Bool.or_eq_true] at h2
   rcases h2 with h2 | h2
   · rw [h2] at hn; cases hn
   · exact h2
def pnL (l : List TFeature) (out : List TLabel) (x : TPlace) : TLabel := ⟨x.id, nmOf l x.id, labB x.at_ (nmOf l x.id) (frC x.at_ (nmOf l x.id) (out.map (·.box)))⟩
def pnC (l : List TFeature) (out : List TLabel) (x : TPlace) : Bool := decide (frC x.at_ (nmOf l x.id) (out.map (·.box)) < 0)
def pnS (l : List TFeature) (out : List TLabel) (x : TPlace) : List TLabel := if pnC l out x = true then out else out ++ [pnL l out x]
def pnTo (l : List TFeature) (s : List TPlace) (i : Nat) : List TLabel := (s.take i).foldl (pnS l) []
def pnA (l : List TFeature) : List TLabel := (srtA (ancs l)).foldl (pnS l) []
theorem pnTo_all (l : List TFeature) : pnTo l (srtA (ancs l)) (srtA (ancs l)).length = pnA l := by rw [pnTo, List.take_length]; rfl
theorem pnTo_succ {l : List TFeature} {s : List TPlace} {i : Nat} {x : TPlace} (h : s[i]? = some x) : pnTo l s (i + 1) = pnS l (pnTo l s i) x := by
 unfold pnTo
 rw [take_succ_of h, List.foldl_append]
 rfl
theorem pnTo_y {l : List TFeature} {s : List TPlace} {i : Nat} {x : TPlace} (h : s[i]? = some x) (hc : pnC l (pnTo l s i) x = false) : pnTo l s (i + 1) = pnTo l s i ++ [pnL l (pnTo l s i) x] := by rw [pnTo_succ h, pnS, if_neg (by rw [hc]; decide)]
theorem pnTo_n {l : List TFeature} {s : List TPlace} {i : Nat} {x : TPlace} (h : s[i]? = some x) (hc : pnC l (pnTo l s i) x = true) : pnTo l s (i + 1) = pnTo l s i := by rw [pnTo_succ h, pnS, if_pos hc]
theorem pn_fold_sub (l : List TFeature) : ∀ (s : List TPlace) (p : List Int) (out : List TLabel), (out.map (·.id)).Sublist p → ((s.foldl (pnS l) out).map (·.id)).Sublist (p ++ s.map (·.id))
 | [], p, out, h => by simpa using h
 | x :: s, p, out, h => by
  rw [List.foldl_cons]
  have e : p ++ (x :: s).map (·.id) = (p ++ [x.id]) ++ s.map (·.id) := by simp
  rw [e]
  refine pn_fold_sub l s (p ++ [x.id]) _ ?_
  unfold pnS
  split
  · exact h.trans (List.sublist_append_left _ _)
  · rw [List.map_append]
    exact h.append (List.Sublist.refl _)
theorem pnTo_sub (l : List TFeature) (s : List TPlace) (i : Nat) : ((pnTo l s i).map (·.id)).Sublist ((s.take i).map (·.id)) := pn_fold_sub l (s.take i) [] [] (List.Sublist.refl _)
theorem pnTo_len (l : List TFeature) (s : List TPlace) (i : Nat) : (pnTo l s i).length ≤ i := by
 have := (pnTo_sub l s i).length_le
 rw [List.length_map, List.length_map, List.length_take] at this
 omega
theorem pnA_nodup {l : List TFeature} (hS : isSource l = true) (hg : ∀ x ∈ l, x.gd) : ((pnA l).map (·.id)).Pairwise (· ≠ ·) := by
 rw [← pnTo_all]
 have h1 : (srtA (ancs l)).Pairwise fun x y => x.id ≠ y.id := ((srtA_perm _).pairwise_iff fun h e => h e.symm).2 (ancs_ok hS hg).ne
 have h2 := pnTo_sub l (srtA (ancs l)) (srtA (ancs l)).length
 rw [List.take_length] at h2
 exact (List.pairwise_map.2 h1).sublist h2
theorem pnA_len {l : List TFeature} (hS : isSource l = true) (hg : ∀ x ∈ l, x.gd) : (pnA l).length ≤ 16 := by
 rw [← pnTo_all]
 have := pnTo_len l (srtA (ancs l)) (srtA (ancs l)).length
 rw [srtA_len] at *
 have h2 := (ancs_ok hS hg).len
 omega
def lbGt (x y : TLabel) : Bool := decide (y.id > x.id)
def insL (s : List TLabel) (x : TLabel) : List TLabel := insR (lbGt x) s x
def srtL (l : List TLabel) : List TLabel := l.foldl insL []
def slTo (l : List TFeature) (s : List TPlace) (i : Nat) : List TLabel := srtL (pnTo l s i)
def plN (l : List TFeature) : List TLabel := srtL (pnA l)
theorem insR_perm {α : Type} (p : α → Bool) (l : List α) (x : α) : (insR p l x).Perm (x :: l) := by
 unfold insR
 have h := List.perm_middle (a := x) (l₁ := l.take (posR p l)) (l₂ := l.drop (posR p l))
 rw [List.take_append_drop] at h
 simpa using h
theorem srtL_fold_perm : ∀ (l s : List TLabel), (l.foldl insL s).Perm (l ++ s)
 | [], s => List.Perm.refl _
 | x :: l, s => by
  rw [List.foldl_cons]
  exact (srtL_fold_perm l (insL s x)).trans (((insR_perm _ s x).append_left l).trans (List.perm_middle.trans (List.Perm.refl _)))
theorem srtL_perm (l : List TLabel) : (srtL l).Perm l := by
 have := srtL_fold_perm l []
 rwa [List.append_nil] at this
theorem srtL_len (l : List TLabel) : (srtL l).length = l.length := (srtL_perm l).length_eq
theorem srtL_app (l : List TLabel) (x : TLabel) : srtL (l ++ [x]) = insL (srtL l) x := by unfold srtL; rw [List.foldl_append]; rfl
theorem takeWhile_map' {α β : Type} (f : α → β) (p : β → Bool) : ∀ l : List α, (l.map f).takeWhile p = (l.takeWhile fun x => p (f x)).map f
 | [] => rfl
 | x :: l => by
  rw [List.map_cons, List.takeWhile_cons, List.takeWhile_cons, takeWhile_map' f p l]
  split <;> rfl
theorem posR_map {α β : Type} (f : α → β) (p : β → Bool) (l : List α) : posR p (l.map f) = posR (fun x => p (f x)) l := by
 unfold posR
 rw [← List.map_reverse, takeWhile_map', List.length_map, List.length_map]
theorem insR_map {α β : Type} (f : α → β) (p : β → Bool) (l : List α) (x : α) : (insR (fun y => p (f y)) l x).map f = insR p (l.map f) (f x) := by
 unfold insR
 rw [posR_map, List.map_append, List.map_append, List.map_take, List.map_drop]
 rfl
theorem insL_map (s : List TLabel) (x : TLabel) : (insL s x).map TLabel.en = (s.take (posR (lbGt x) s)).map TLabel.en ++ [x.en] ++ (s.drop (posR (lbGt x) s)).map TLabel.en := by
 unfold insL insR
 rw [List.map_append, List.map_append]
 rfl
theorem srtL_asc : ∀ (l s : List TLabel), (s.map (·.id)).Pairwise (· < ·) → ((l ++ s).map (·.id)).Pairwise (· ≠ ·) → ((l.foldl insL s).map (·.id)).Pairwise (· < ·)
 | [], s, hs, _ => hs
 | x :: l, s, hs, hd => by
  rw [List.foldl_cons]
  have e := insR_map (fun y : TLabel => y.id) (fun k => decide (k > x.id)) s x
  have hd2 : (x.id :: ((l ++ s).map (·.id))).Pairwise (· ≠ ·) := hd
  obtain ⟨h1, h2⟩ := List.pairwise_cons.1 hd2
  have hx : x.id ∉ s.map (·.id) := fun h => h1 x.id (by rw [List.map_append]; exact List.mem_append_right _ h) rfl
  refine srtL_asc l (insL s x) ?_ ?_
  · show ((insR _ s x).map _).Pairwise _
    have h3 := (insR_asc sto_int (p := fun k => decide (k > x.id)) (x := x.id) (fun y => by simp) hs).2.2 (fun h0 hh => hx (List.mem_of_getElem? hh))
    exact e ▸ h3.2
  · have hp : ((l ++ insL s x).map (·.id)).Perm (x.id :: ((l ++ s).map (·.id))) := (((insR_perm _ s x).append_left l).trans List.perm_middle).map (·.id)
    exact (hp.pairwise_iff fun h e => h e.symm).2 hd2
def lookL (l : List TLabel) (k : Int) : TLabel := (l.find? fun y => y.id == k).getD ⟨k, ⟨#[]⟩, box0⟩
theorem lookL_id (l : List TLabel) (k : Int) : (lookL l k).id = k := by
 unfold lookL
 cases h : l.find? fun y => y.id == k with
 | none => rfl
 | some y =>
  have h2 : (y.id == k) = true := List.find?_some (p := fun y : TLabel => y.id == k) h
  exact beq_iff_eq.1 h2
theorem lookL_mem {l : List TLabel} (hd : (l.map (·.id)).Pairwise (· ≠ ·)) {x : TLabel} (hx : x ∈ l) : lookL l x.id = x := by
 unfold lookL
 cases h : l.find? fun y => y.id == x.id with
 | none =>
  have := List.find?_eq_none.1 h x hx
  simp at this
 | some y =>
  have hy := List.mem_of_find?_eq_some h
  have h2 : (y.id == x.id) = true := List.find?_some (p := fun y : TLabel => y.id == x.id) h
  have e := beq_iff_eq.1 h2
  show y = x
  obtain ⟨i, hi⟩ := List.getElem?_of_mem hx
  obtain ⟨j, hj⟩ := List.getElem?_of_mem hy
  have hil := (List.getElem?_eq_some_iff.1 hi).1
  have hjl := (List.getElem?_eq_some_iff.1 hj).1
  have key : ∀ a b, a < b → b < l.length → (l[a]?).map (·.id) ≠ (l[b]?).map (·.id) := fun a b hab hb hh => by
   have := List.pairwise_iff_getElem.1 hd a b (by rw [List.length_map]; omega) (by rw [List.length_map]; exact hb) hab
   rw [List.getElem?_eq_getElem (by omega), List.getElem?_eq_getElem hb] at hh
   simp only [List.getElem_map] at this
   exact this (Option.some.inj hh)
  rcases Nat.lt_trichotomy i j with h1 | h1 | h1
  · exact absurd (by rw [hi, hj]; show some x.id = some y.id; rw [e]) (key i j h1 hjl)
  · subst h1; rw [hi] at hj; exact (Option.some.inj hj).symm
  · exact absurd (by rw [hi, hj]; show some y.id = some x.id; rw [e]) (key j i h1 hil)
theorem srtL_merge {l : List TLabel} (hd : (l.map (·.id)).Pairwise (· ≠ ·)) : ((l.map (·.id)).mergeSort fun x y => decide (x ≤ y)).map (lookL l) = srtL l := by
 have h1 := srtL_asc l [] List.Pairwise.nil (by rwa [List.append_nil])
 have e : ((l.map (·.id)).mergeSort fun x y => decide (x ≤ y)) = (srtL l).map (·.id) := asc_ext sto_int (merge_asc hd) h1 fun y => by
  rw [(List.mergeSort_perm _ _).mem_iff]
  exact ((srtL_perm l).map (·.id)).mem_iff.symm
 rw [e, List.map_map]
 have : ∀ x ∈ srtL l, (lookL l ∘ fun y : TLabel => y.id) x = x := fun x hx => lookL_mem hd ((srtL_perm l).mem_iff.1 hx)
 rw [List.map_congr_left this, List.map_id']
theorem look_all {l : List TLabel} (hd : (l.map (·.id)).Pairwise (· ≠ ·)) : (l.map (·.id)).map (fun k => (lookL l k).en) = l.map TLabel.en := by
 rw [List.map_map]
 exact List.map_congr_left fun x hx => by show (lookL l x.id).en = _; rw [lookL_mem hd hx]
theorem far2_ge (p q : TPoint) : 0 ≤ far2 p q := by
 unfold far2
 have e : ∀ d : Int, 0 ≤ d * d := fun d => by
  have e : d * d = (d.natAbs : Int) * (d.natAbs : Int) := Int.natAbs_mul_self.symm.trans (by rw [Int.natCast_mul])
  rw [e, ← Int.natCast_mul]
  exact Int.natCast_nonneg _
 have h1 := e (p.x - q.x)
 have h2 := e (p.y - q.y)
 omega
theorem kept0_fold : ∀ (s out : List TPlace), s.foldl (keptS 0) out = out ++ s
 | [], out => (List.append_nil _).symm
 | x :: s, out => by
  have h : out.all (farOk 0 x) = true := List.all_eq_true.2 fun y _ => by
   unfold farOk
   have := far2_ge y.at_ x.at_
   simp
   omega
  rw [List.foldl_cons, keptS, if_pos h, kept0_fold s, List.append_assoc]
  rfl
theorem kept0 (s : List TPlace) : kept s 0 = s := by
 unfold kept
 rw [kept0_fold]
 rfl
theorem slTo_len (l : List TFeature) (s : List TPlace) (i : Nat) : (slTo l s i).length ≤ i := by
 unfold slTo
 rw [srtL_len]
 exact pnTo_len l s i
theorem slTo_y {l : List TFeature} {s : List TPlace} {i : Nat} {x : TPlace} (h : s[i]? = some x) (hc : pnC l (pnTo l s i) x = false) : slTo l s (i + 1) = insL (slTo l s i) (pnL l (pnTo l s i) x) := by
 unfold slTo
 rw [pnTo_y h hc, srtL_app]
theorem slTo_n {l : List TFeature} {s : List TPlace} {i : Nat} {x : TPlace} (h : s[i]? = some x) (hc : pnC l (pnTo l s i) x = true) : slTo l s (i + 1) = slTo l s i := by
 unfold slTo
 rw [pnTo_n h hc]
theorem slTo_all (l : List TFeature) : slTo l (srtA (ancs l)) (srtA (ancs l)).length = plN l := by unfold slTo; rw [pnTo_all]; rfl

def chAt {α : Type} (ok : α → Bool) (lt : α → α → Bool) (d : α) (l : List α) (i : Nat) : Bool := match l[i]? with
 | none => false
 | some x => ok x && (i == 0 || lt (l.getD (i - 1) d) x)
def chOk {α : Type} (ok : α → Bool) (lt : α → α → Bool) (d : α) (l : List α) (n : Nat) : Bool := (List.range n).all (chAt ok lt d l)
theorem chOk_succ {α : Type} (ok : α → Bool) (lt : α → α → Bool) (d : α) (l : List α) (i : Nat) : chOk ok lt d l (i + 1) = (chOk ok lt d l i && chAt ok lt d l i) := by simp [chOk, List.range_succ]
theorem chOk_not {α : Type} {ok : α → Bool} {lt : α → α → Bool} {d : α} {l : List α} {i n : Nat} (h : chAt ok lt d l i = false) (hi : i < n) : chOk ok lt d l n = false := by
 simp only [chOk, List.all_eq_false, List.mem_range]
 exact ⟨i, hi, by simp [h]⟩
theorem ch_cases {α : Type} (ok : α → Bool) (lt : α → α → Bool) (d : α) (en : α → List AV) {l : List α} {i : Nat} {x : α} (hx : l[i]? = some x) (hl : l.length ≤ 1048576) :
 (ok x = false ∧ chAt ok lt d l i = false) ∨ (ok x = true ∧ decide ((i : Int) > 0) = false ∧ chAt ok lt d l i = true) ∨
 (ok x = true ∧ decide ((i : Int) > 0) = true ∧ 0 ≤ IntKind.i64.wrap ((i : Int) - 1) ∧ (l.map en)[(IntKind.i64.wrap ((i : Int) - 1)).toNat]? = some (en (l.getD (i - 1) d)) ∧ chAt ok lt d l i = lt (l.getD (i - 1) d) x) := by
 have hi := (List.getElem?_eq_some_iff.1 hx).1
 cases hI : ok x
 · exact .inl ⟨rfl, by simp [chAt, hx, hI]⟩
 · rcases Nat.eq_zero_or_pos i with h0 | h0
   · subst h0
     exact .inr (.inl ⟨rfl, by simp, by simp [chAt, hx, hI]⟩)
   · have e : IntKind.i64.wrap ((i : Int) - 1) = ((i - 1 : Nat) : Int) := by rw [w64 (by omega) (by omega)]; omega
     refine .inr (.inr ⟨rfl, decide_eq_true (by omega), by omega, ?_, ?_⟩)
     · rw [e, Int.toNat_natCast, List.getElem?_map, List.getElem?_eq_getElem (show i - 1 < l.length by omega)]
       simp [List.getD_eq_getElem?_getD, List.getElem?_eq_getElem (show i - 1 < l.length by omega)]
     · have : (i == 0) = false := by simp; omega
       simp [chAt, hx, hI, this]
def isLevel (v : TLevel) : Bool := inr v.rank 0 9 && inr v.far 0 200 && inr v.least 0 100000
def entOk (e : TEntry) : Bool := isFeat e.feature && inr e.tick 0 100000 && inr e.who 1 99
abbrev entLt (u e : TEntry) : Bool := decide (u.feature.id < e.feature.id)
def entD : TEntry := ⟨featD, 0, 0, false⟩
def isLog (l : List TEntry) : Bool := chOk entOk entLt entD l l.length && decide ((l.length : Int) ≤ 16)
theorem entOk_f {e : TEntry} (h : entOk e = false) : isFeat e.feature = false ∨ (isFeat e.feature = true ∧ inr e.tick 0 100000 = false) ∨ (isFeat e.feature = true ∧ inr e.tick 0 100000 = true ∧ inr e.who 1 99 = false) := by
 revert h
 unfold entOk
 cases isFeat e.feature <;> cases inr e.tick 0 100000 <;> cases inr e.who 1 99 <;> simp
theorem entOk_t {e : TEntry} (h : entOk e = true) : isFeat e.feature = true ∧ inr e.tick 0 100000 = true ∧ inr e.who 1 99 = true := by
 revert h
 unfold entOk
 cases isFeat e.feature <;> cases inr e.tick 0 100000 <;> cases inr e.who 1 99 <;> simp
def TAtlas.gd (a : TAtlas) : Prop := (a.log.length ≤ 1048576 ∧ ∀ e ∈ a.log, e.feature.gd) ∧ a.levels.length ≤ 1048576 ∧ (a.editions.length ≤ 1048576 ∧ ∀ e ∈ a.editions, e.source.length ≤ 1048576 ∧ ∀ x ∈ e.source, x.gd) ∧ a.cover.cells.size ≤ maxLen
theorem gdA_of {a : TAtlas} (h1 : a.sm) (h2 : a.ok) : a.gd := by
 obtain ⟨⟨s1, s2⟩, s3, s4, s5⟩ := h1
 obtain ⟨⟨_, k2⟩, _, ⟨_, k4⟩, ⟨_, _, k5⟩, _⟩ := h2
 exact ⟨⟨s1, fun e he => ⟨s2 e he, (k2 e he).1.2.2.2.1⟩⟩, s3, ⟨s4, fun e he => ⟨(s5 e he).1, fun x hx => ⟨(s5 e he).2 x hx, ((k4 e he).2.1.2 x hx).2.2.2.1⟩⟩⟩, k5⟩

theorem isLevel_s (v : TLevel) : VCalls Tryz.prog 133 [.agg v.en] (fun r M => r = B (isLevel v) ∧ M = []) := by
 refine VB Tryz.func133 15 (fun E hE => ?_)
 dsimp only [TLevel.en]
 repeat' ((first
  | (refine iAL ?_; first | refine AL.any ?_ | refine AL.any (h := POp.k Tryz.func96 (hc := inr_s _ _ _)) ?_ | refine AL.W ?_ | refine AL.W (h := fun h => by (try rw [h]); exact POp.k Tryz.func96 (hc := inr_s _ _ _)) ?_ | refine AL.nil ?_)
  | (refine iAW ?_; (refine AW.c0 ?_; constructor))) <;> (try dsimp only))
 all_goals exact Fin.one rfl (RV.tmp (by rfl)) (clo_c _) ⟨by first | rfl | (simp only [isLevel, Bool.and_assoc]; done), rfl⟩

theorem isLevel_i (v : TLevel) : VCalls Tryz.prog 139 [.agg v.en] (fun r M => r = B (isLevel v) ∧ M = []) := by
 refine VB Tryz.func139 15 (fun E hE => ?_)
 dsimp only [TLevel.en]
 repeat' ((first
  | (refine iAL ?_; first | refine AL.any ?_ | refine AL.any (h := POp.k Tryz.func145 (hc := inr_v _ _ _)) ?_ | refine AL.W ?_ | refine AL.W (h := fun h => by (try rw [h]); exact POp.k Tryz.func145 (hc := inr_v _ _ _)) ?_ | refine AL.nil ?_)
  | (refine iAW ?_; (refine AW.c0 ?_; constructor))) <;> (try dsimp only))
 all_goals exact Fin.one rfl (RV.tmp (by rfl)) (clo_c _) ⟨by first | rfl | (simp only [isLevel, Bool.and_assoc]; done), rfl⟩

theorem isLog_s (l : List TEntry) (hl : l.length ≤ 1048576) (hp : ∀ e ∈ l, e.feature.gd) : VCalls Tryz.prog 107 [.ro 8 (l.map TEntry.en)] (fun r M => r = B (isLog l) ∧ M = []) := by
 refine VB Tryz.func107 57 (fun E hE => ?_)
 have hclo : Clo (.ro 8 (l.map TEntry.en)) := clo_list TEntry.clo_en
 repeat' ((first
  | (refine iAL ?_; first | refine AL.any ?_ | refine AL.U ?_ | refine AL.F ?_ | refine AL.T ?_ | refine AL.nil ?_)
  | ((with_reducible show DL ..); first | refine DL.any ?_ | refine DL.any (h := POp.k Tryz.func109 (hc := isFeat_s x.feature (by assumption))) ?_ | refine DL.U ?_ | refine DL.F ?_ | refine DL.T ?_ | refine DL.T (h := POp.k Tryz.func96 (hc := inr_s _ _ _)) ?_ | refine DL.nil ?_)
  | (refine iAW ?_; first | (refine AW.c0 ?_; constructor) | refine AW.dr (id := 4) 42 ?_ | refine AW.cT ?_ | refine AW.cF ?_ | (refine AW.c2 ?_ ?_ <;> (intro h; try simp only [bT, bF] at h)))
  | (
 refine AW.loopD hE (fun i : Nat => [.ro 8 (l.map TEntry.en), .any, .any, I (i : Int), .any, .any, .any, .any, .any, .any, .any, .any, .any, .any, .any, .any, .any, .any, .any, .any, .any, .any, .any, .any, .any, .any, .any, .any, .any, .any, .any, .any, .any, .any, .any, .any, .any, .any, .any, .any, .any, .any, .any, .any, .any, .any, .any, .any, .any, .any, .any, .any, .any, .any, .any, .any, .any, .any]) (fun i => []) (fun i => l.length - i) (fun i => i ≤ l.length ∧ chOk entOk entLt entD l i = true) 0 (by simp [chOk]) ?_ (by first | rfl | (simp [fil_zero]; done)) ?_
 (focus (exact wkI))
 intro i hi
 by_cases hlt : i < l.length
 case' pos =>
  have hP := True.intro
  obtain ⟨x, hx⟩ : ∃ x, l[i]? = some x := ⟨_, List.getElem?_eq_getElem hlt⟩
  have hg := map_get (f := TEntry.en) hx
  have ht := lt_true (f := TEntry.en) hlt
  have hn := next_ix hlt (by omega)
  have hgx := hp x (List.mem_of_getElem? hx)
  have hsu := chOk_succ entOk entLt entD l i
  have hclP : Clo (.ro 2 (x.feature.points.map TPoint.en)) := clo_list TPoint.clo_en
  have hcle : Clo (.agg x.en) := Clo.agg x.clo_en
  have hclf : Clo (.agg x.feature.en) := Clo.agg x.feature.clo_en
  rcases ch_cases entOk entLt entD TEntry.en hx hl with ⟨hI, hk⟩ | ⟨hI, hz, hk⟩ | ⟨hI, hz, h0, hp0, hk⟩
  rotate_left 1
  all_goals first | obtain ⟨q1, q2, q3⟩ := entOk_t hI | rcases entOk_f hI with q1 | ⟨q1, q2⟩ | ⟨q1, q2, q3⟩
 case' neg =>
  have hQ := True.intro
  have ht := lt_false (f := TEntry.en) hlt
  have e : i = l.length := by omega
  subst e
  try rw [List.take_length])) <;> (try dsimp only))
 all_goals first
  | (have _ := hP; (refine ⟨i + 1, _, ⟨hlt, by simp_all <;> omega⟩, by omega, ?_, rfl, ?_, ?_⟩; (focus (exact wkN)); (focus (exact fitsA)); (focus (exact FitsM.nil _))))
  | (have _ := hP; exact Fin.one rfl (RV.tmp (by rfl)) (clo_c _) ⟨by have hn := chOk_not (ok := entOk) (lt := entLt) (d := entD) (n := l.length) (by simp_all <;> omega : chAt entOk entLt entD l i = false) hlt; simp_all [isLog], rfl⟩)
  | (have _ := hQ; exact Fin.one rfl (RV.tmp (by rfl)) (clo_c _) ⟨by first | (simp_all [isLog]; done) | (simp_all [isLog] <;> omega), rfl⟩)

theorem isLog_i (l : List TEntry) (hl : l.length ≤ 1048576) (hp : ∀ e ∈ l, e.feature.gd) : VCalls Tryz.prog 117 [.ro 8 (l.map TEntry.en)] (fun r M => r = B (isLog l) ∧ M = []) := by
 refine VB Tryz.func117 48 (fun E hE => ?_)
 have hclo : Clo (.ro 8 (l.map TEntry.en)) := clo_list TEntry.clo_en
 repeat' ((first
  | (refine iAL ?_; first | refine AL.any ?_ | refine AL.U ?_ | refine AL.F ?_ | refine AL.T ?_ | refine AL.nil ?_)
  | ((with_reducible show DL ..); first | refine DL.any ?_ | refine DL.any (h := POp.k Tryz.func119 (hc := isFeat_i x.feature (by assumption))) ?_ | refine DL.U ?_ | refine DL.F ?_ | refine DL.T ?_ | refine DL.T (h := POp.k Tryz.func145 (hc := inr_v _ _ _)) ?_ | refine DL.nil ?_)
  | (refine iAW ?_; first | (refine AW.c0 ?_; constructor) | refine AW.dr (id := 6) 30 ?_ | refine AW.cT ?_ | refine AW.cF ?_ | (refine AW.c2 ?_ ?_ <;> (intro h; try simp only [bT, bF] at h)))
  | (
 refine AW.loopD hE (fun i : Nat => [.ro 8 (l.map TEntry.en), .any, .any, .any, .any, .any, .any, .any, .ro 8 (l.map TEntry.en), I ((l.map TEntry.en).length : Int), I (i : Int), .any, .any, .any, .any, .any, .any, .any, .any, .any, .any, .any, .any, .any, .any, .any, .any, .any, .any, .any, .any, .any, .any, .any, .any, .any, .any, .any, .any, .any, .any, .any, .any, .any, .any, .any, .any, .any, .any]) (fun i => []) (fun i => l.length - i) (fun i => i ≤ l.length ∧ chOk entOk entLt entD l i = true) 0 (by simp [chOk]) ?_ (by first | rfl | (simp [fil_zero]; done)) ?_
 (focus (exact wkI))
 intro i hi
 by_cases hlt : i < l.length
 case' pos =>
  have hP := True.intro
  obtain ⟨x, hx⟩ : ∃ x, l[i]? = some x := ⟨_, List.getElem?_eq_getElem hlt⟩
  have hg := map_get (f := TEntry.en) hx
  have ht := lt_true (f := TEntry.en) hlt
  have hn := next_ix hlt (by omega)
  have hgx := hp x (List.mem_of_getElem? hx)
  have hsu := chOk_succ entOk entLt entD l i
  have hclP : Clo (.ro 2 (x.feature.points.map TPoint.en)) := clo_list TPoint.clo_en
  have hcle : Clo (.agg x.en) := Clo.agg x.clo_en
  have hclf : Clo (.agg x.feature.en) := Clo.agg x.feature.clo_en
  rcases ch_cases entOk entLt entD TEntry.en hx hl with ⟨hI, hk⟩ | ⟨hI, hz, hk⟩ | ⟨hI, hz, h0, hp0, hk⟩
  rotate_left 1
  all_goals first | obtain ⟨q1, q2, q3⟩ := entOk_t hI | rcases entOk_f hI with q1 | ⟨q1, q2⟩ | ⟨q1, q2, q3⟩
 case' neg =>
  have hQ := True.intro
  have ht := lt_false (f := TEntry.en) hlt
  have e : i = l.length := by omega
  subst e
  try rw [List.take_length])) <;> (try dsimp only))
 all_goals first
  | (have _ := hP; (refine ⟨i + 1, _, ⟨hlt, by simp_all <;> omega⟩, by omega, ?_, rfl, ?_, ?_⟩; (focus (exact wkN)); (focus (exact fitsA)); (focus (exact FitsM.nil _))))
  | (have _ := hP; exact Fin.one rfl (RV.tmp (by rfl)) (clo_c _) ⟨by have hn := chOk_not (ok := entOk) (lt := entLt) (d := entD) (n := l.length) (by simp_all <;> omega : chAt entOk entLt entD l i = false) hlt; simp_all [isLog], rfl⟩)
  | (have _ := hQ; exact Fin.one rfl (RV.tmp (by rfl)) (clo_c _) ⟨by first | (simp_all [isLog]; done) | (simp_all [isLog] <;> omega), rfl⟩)
  | (exact Fin.one rfl (RV.tmp (by rfl)) (clo_c _) ⟨by simp_all [isLog] <;> omega, rfl⟩)


theorem isLevT_s (v : TLevel) (h : isLevel v = true) : VCalls Tryz.prog 133 [.agg v.en] (fun r M => r = B true ∧ M = []) := h ▸ isLevel_s v
theorem isLevT_i (v : TLevel) (h : isLevel v = true) : VCalls Tryz.prog 139 [.agg v.en] (fun r M => r = B true ∧ M = []) := h ▸ isLevel_i v

theorem shown_s (l : List TFeature) (v : TLevel) (hS : isSource l = true) (hg0 : ∀ x ∈ l, x.gd) (hV : isLevel v = true) : VCalls Tryz.prog 134 [.ro 5 (l.map TFeature.en), .agg v.en] (fun r M => r = .ro 1 ((shown l v).map enI) ∧ M = []) := by
 refine VB Tryz.func134 56 (fun E hE => ?_)
 have hclo : Clo (.ro 5 (l.map TFeature.en)) := clo_list TFeature.clo_en
 have hsl := src_len hS
 have hS2 := rkd_src hS v.rank
 have hg2 := rkd_gd hg0 v.rank
 have hsl2 := src_len hS2
 have hp := plsOf_ok hS2
 have hpl := hp.len
 have hfar : inr v.far 0 200 = true := by have := hV; unfold isLevel at this; simp only [Bool.and_eq_true] at this; exact this.1.2
 have htl := thn_len hS v
 have hclR : Clo (.ro 5 ((rkd l v.rank).map TFeature.en)) := clo_list TFeature.clo_en
 have hclT : Clo (.ro 1 ((thn l v).map enI)) := clo_list clo_enI
 have hclL : Clo (.agg v.en) := Clo.agg v.clo_en
 have hclp : Clo (.ro 4 ((plsOf (rkd l v.rank)).map TPlace.en)) := clo_list TPlace.clo_en
 dsimp only [TLevel.en]
 repeat' ((first
  | (refine iAL ?_; first | refine AL.any ?_ | refine AL.any (h := POp.k Tryz.func78 (hc := isSrcT_s l (by omega) hg0 hS)) ?_ | refine AL.any (h := POp.k Tryz.func199 (hc := rkd_s l v.rank hS hg0)) ?_ | refine AL.any (h := POp.k Tryz.func200 (hc := thin_s (plsOf (rkd l v.rank)) v.far hp hfar)) ?_ | refine AL.F ?_ | refine AL.T ?_ | refine AL.T (h := POp.k Tryz.func133 (hc := isLevT_s v hV)) ?_ | refine AL.T (h := POp.k Tryz.func135 (hc := has_s (thn l v) x.id (by omega))) ?_ | refine AL.nil ?_)
  | ((with_reducible show DL ..); first | refine DL.any ?_ | refine DL.any (h := POp.k Tryz.func201 (hc := pls_s (rkd l v.rank) hS2 hg2)) ?_ | refine DL.nil ?_)
  | (refine iAW ?_; first | (refine AW.freezeRet (t := 4) (id := 1) rfl rfl rfl rfl (clo_rows clo_enI) ?_; (try simp only [List.take_length]); try dsimp only [dput, List.set, cond_true, cond_false, Nat.zero_add, Nat.add_zero, Nat.reduceAdd, splice, List.take, List.drop, List.length, List.nil_append, List.cons_append, List.append, TPoint.en, TSegment.en, TBox.en, TFeature.en, TMeet.en, TPlace.en, TCover.en, TLabel.en, TPiece.en, TLevel.en, TChart.en, TReason.en, TEdit.en, TEntry.en, TEdition.en, TListing.en, TAtlas.en, TEvent.en, TWindow.en]) | (refine AW.c0 ?_; constructor) | refine AW.dr (id := 5) 4 ?_ | refine AW.cT ?_ | refine AW.cF ?_)
  | (
 refine AW.loopD hE (fun i : Nat => [.any, .any, .any, .ref 0 0 3 0 0, .any, .own 1 (shTo l v i).length, .ro 5 ((rkd l v.rank).map TFeature.en), .ro 1 ((thn l v).map enI), I (i : Int), .any, .any, .any, .any, .any, .any, .any, .any, .any, .any, .any, .any, .any, .any, .any, .any, .any, .any, .any, .any, .any, .any, .any, .any, .any, .any, .any, .any, .any, .any, .any, .any, .any, .any, .any, .any, .any, .any, .any, .any, .any, .any, .any, .any, .any, .any, .any, .any, .any]) (fun i => [some ⟨47, 3, 0, true, [v.en]⟩, some ⟨3, 1, (shTo l v i).length, false, (shTo l v i).map enI⟩]) (fun i => (rkd l v.rank).length - i) (fun i => i ≤ (rkd l v.rank).length) 0 (by simp) ?_ (by first | rfl | (simp [fil_zero]; done)) ?_
 (focus (exact wkI))
 intro i hi
 by_cases hlt : i < (rkd l v.rank).length
 case' pos =>
  have hP := True.intro
  obtain ⟨x, hx⟩ : ∃ x, (rkd l v.rank)[i]? = some x := ⟨_, List.getElem?_eq_getElem hlt⟩
  have hg := map_get (f := TFeature.en) hx
  have ht := lt_true (f := TFeature.en) hlt
  have hn := next_ix hlt (by omega)
  have hgx := hg2 x (List.mem_of_getElem? hx)
  have hcle : Clo (.agg x.en) := Clo.agg x.clo_en
  have hclP : Clo (.ro 2 (x.points.map TPoint.en)) := clo_list TPoint.clo_en
  have hln := shTo_len l v i
  rcases Bool.eq_false_or_eq_true (x.kind != 1) with hk | hk
  case' inl => obtain ⟨hm, hm2⟩ := shTo_y hx (by rw [shP, hk]; rfl)
  case' inr => rcases Bool.eq_false_or_eq_true (has (thn l v) x.id) with hh | hh
  case' inr.inl => obtain ⟨hm, hm2⟩ := shTo_y hx (by rw [shP, hk, hh]; rfl)
  case' inr.inr => obtain ⟨hm, hm2⟩ := shTo_n hx (by rw [shP, hk, hh]; rfl)
 case' neg =>
  have hQ := True.intro
  have ht := lt_false (f := TFeature.en) hlt
  have e : i = (rkd l v.rank).length := by omega
  subst e
  try rw [List.take_length]
  rw [shTo_all])) <;> (try dsimp only))
 all_goals first
  | (have _ := hP; (refine ⟨i + 1, _, hlt, by omega, ?_, by rw [hm, hm2] <;> rfl, ?_, ?_⟩; (focus (exact wkH)); (focus (exact fitsA)); (focus (exact fitsM_cons (clo_one v.clo_en) (fitsM_cons (clo_rows clo_enI) (FitsM.nil _))))))
  | (have _ := hQ; exact Fin.one rfl (RV.tmp (by rfl)) (clo_list clo_enI) ⟨rfl, rfl⟩)

theorem shown_i (l : List TFeature) (v : TLevel) (hS : isSource l = true) (hg0 : ∀ x ∈ l, x.gd) (hV : isLevel v = true) : VCalls Tryz.prog 140 [.ro 5 (l.map TFeature.en), .agg v.en] (fun r M => r = .own 0 0 ∧ M = [some ⟨3, 1, 0, false, (shown l v).map enI⟩]) := by
 refine VB Tryz.func140 44 (fun E hE => ?_)
 have hclo : Clo (.ro 5 (l.map TFeature.en)) := clo_list TFeature.clo_en
 have hsl := src_len hS
 have hS2 := rkd_src hS v.rank
 have hg2 := rkd_gd hg0 v.rank
 have hsl2 := src_len hS2
 have hp := plsOf_ok hS2
 have hpl := hp.len
 have hfar : inr v.far 0 200 = true := by have := hV; unfold isLevel at this; simp only [Bool.and_eq_true] at this; exact this.1.2
 have htl := thn_len hS v
 have hclR : Clo (.ro 5 ((rkd l v.rank).map TFeature.en)) := clo_list TFeature.clo_en
 have hclT : Clo (.ro 1 ((thn l v).map enI)) := clo_list clo_enI
 have hclL : Clo (.agg v.en) := Clo.agg v.clo_en
 have hclp : Clo (.ro 4 ((plsOf (rkd l v.rank)).map TPlace.en)) := clo_list TPlace.clo_en
 dsimp only [TLevel.en]
 repeat' ((first
  | (refine iAL ?_; first | refine AL.any ?_ | refine AL.any (h := POp.H [2] Tryz.func62 (hc := sortI (npTo l v (rkd l v.rank).length) (by have := npTo_len hS v (rkd l v.rank).length; omega))) ?_ | refine AL.any (h := POp.k Tryz.func80 (hc := isSrcT_i l (by omega) hg0 hS)) ?_ | refine AL.any (h := POp.k Tryz.func159 (hc := rkd_i l v.rank hS hg0)) ?_ | refine AL.any (h := POp.O Tryz.func208 (hc := thin_i (plsOf (rkd l v.rank)) v.far hp hfar)) ?_ | refine AL.T ?_ | refine AL.T (h := POp.k Tryz.func139 (hc := isLevT_i v hV)) ?_ | refine AL.nil ?_)
  | ((with_reducible show DL ..); first | refine DL.any ?_ | refine DL.any (h := POp.k Tryz.func158 (hc := pls_i (rkd l v.rank) hS2 hg2)) ?_ | refine DL.nil ?_)
  | (refine iAW ?_; first | (refine AW.c0 ?_; constructor) | refine AW.dr (id := 5) 4 ?_ | refine AW.cT ?_ | refine AW.cF ?_)
  | (
 refine AW.loopD hE (fun i : Nat => [.any, .any, .any, .any, .any, .own 2 ((((rkd l v.rank).take i).filter fun x => x.kind != 1).length), .any, .any, .any, .any, .any, .any, .any, .any, .any, .any, .any, .any, .any, .any, .any, .any, .any, .any, .any, .any, .any, .any, .ro 5 ((rkd l v.rank).map TFeature.en), I (((rkd l v.rank).map TFeature.en).length : Int), I (i : Int), .any, .any, .any, .any, .any, .any, .any, .any, .any, .any, .any, .any, .any, .any, .any]) (fun i => [some ⟨47, 3, 0, true, [v.en]⟩, some ⟨3, 1, 0, false, ([]).map enI⟩, some ⟨3, 1, ((((rkd l v.rank).take i).filter fun x => x.kind != 1).length), false, (npTo l v i).map enI⟩]) (fun i => (rkd l v.rank).length - i) (fun i => i ≤ (rkd l v.rank).length) 0 (by simp) ?_ (by first | rfl | ((simp [npTo, thn, TLevel.en]))) ?_
 (focus ((refine wkj ?_; repeat' with_reducible constructor) <;> first | rfl | (first | rfl | (simp [npTo, thn]))))
 intro i hi
 by_cases hlt : i < (rkd l v.rank).length
 case' pos =>
  have hP := True.intro
  obtain ⟨x, hx⟩ : ∃ x, (rkd l v.rank)[i]? = some x := ⟨_, List.getElem?_eq_getElem hlt⟩
  have hg := map_get (f := TFeature.en) hx
  have ht := lt_true (f := TFeature.en) hlt
  have hn := next_ix hlt (by omega)
  have hgx := hg2 x (List.mem_of_getElem? hx)
  have hcle : Clo (.agg x.en) := Clo.agg x.clo_en
  have hclP : Clo (.ro 2 (x.points.map TPoint.en)) := clo_list TPoint.clo_en
  rcases Bool.eq_false_or_eq_true (x.kind != 1) with hk | hk
  case' inl =>
   have hc0 : ((((rkd l v.rank).take (i + 1)).filter fun x => x.kind != 1).length) = ((((rkd l v.rank).take i).filter fun x => x.kind != 1).length) + 1 := by rw [filt_y hx hk]; simp
   have hm := npTo_y hx hk
  case' inr =>
   have hc0 : ((((rkd l v.rank).take (i + 1)).filter fun x => x.kind != 1).length) = ((((rkd l v.rank).take i).filter fun x => x.kind != 1).length) := by rw [filt_n hx hk]
   have hm0 := npTo_n hx hk
  all_goals have hnl := npTo_len hS v i
 case' neg =>
  have hQ := True.intro
  have ht := lt_false (f := TFeature.en) hlt
  have e : i = (rkd l v.rank).length := by omega
  subst e
  try rw [List.take_length])) <;> (try dsimp only))
 all_goals first
  | (have _ := hP; (refine ⟨i + 1, _, hlt, by omega, ?_, by first | (rw [hm, hc0] <;> rfl) | (rw [hm0, hc0] <;> rfl), ?_, ?_⟩; (focus ((refine wkj ?_; repeat' with_reducible constructor) <;> (first | rfl | (rw [hn]; done) | (rw [hc0]; done)))); (focus (exact fitsA)); (focus (exact fitsM_cons (clo_one v.clo_en) (fitsM_cons clo_rows_nil (fitsM_cons (clo_rows clo_enI) (FitsM.nil _)))))))
  | (have _ := hQ; exact Fin.r1 [2] rfl (RV.tmp (by rfl)) ⟨rfl, by rw [← shown_merge hS v] <;> rfl⟩)

theorem shown_i' (l : List TFeature) (v : TLevel) (hS : isSource l = true) (hg0 : ∀ x ∈ l, x.gd) (hV : isLevel v = true) : VCalls Tryz.prog 140 [.ro 5 (l.map TFeature.en), .agg v.en] (fun r M => r = .ro 1 ((shown l v).map enI) ∧ M = []) := VCalls.frz (shown_i l v hS hg0 hV) vwlT
def chIn (l : List TFeature) (v : TLevel) (x : TFeature) : Bool := has (shown l v) x.id
def chsTo (l : List TFeature) (v : TLevel) (i : Nat) : List TFeature := (l.take i).filter (chIn l v)
def chs (l : List TFeature) (v : TLevel) : List TFeature := l.filter (chIn l v)
theorem chsTo_all (l : List TFeature) (v : TLevel) : chsTo l v l.length = chs l v := by rw [chsTo, List.take_length]; rfl
theorem chsTo_y {l : List TFeature} {v : TLevel} {i : Nat} {x : TFeature} (hx : l[i]? = some x) (h : has (shown l v) x.id = true) : (chsTo l v (i + 1)).map TFeature.en = (chsTo l v i).map TFeature.en ++ [x.en] ∧ (chsTo l v (i + 1)).length = (chsTo l v i).length + 1 := by
 unfold chsTo
 rw [filt_y hx h]
 simp
theorem chsTo_n {l : List TFeature} {v : TLevel} {i : Nat} {x : TFeature} (hx : l[i]? = some x) (h : has (shown l v) x.id = false) : (chsTo l v (i + 1)).map TFeature.en = (chsTo l v i).map TFeature.en ∧ (chsTo l v (i + 1)).length = (chsTo l v i).length := by
 unfold chsTo
 rw [filt_n hx h]
 exact ⟨rfl, rfl⟩
theorem chsTo_len (l : List TFeature) (v : TLevel) (i : Nat) : (chsTo l v i).length ≤ i := filt_len l (chIn l v) i
def chF (l : List TFeature) (v : TLevel) : List TFeature := shAll (chs l v) v.least
def chart (l : List TFeature) (v : TLevel) : TChart := ⟨chF l v, plN (chF l v)⟩
def chtOk (l : List TFeature) (v : TLevel) : Bool := isSource l && isLevel v
theorem chs_src {l : List TFeature} (hS : isSource l = true) (v : TLevel) : isSource (chs l v) = true := src_filter hS _
theorem chs_gd {l : List TFeature} (hg : ∀ x ∈ l, x.gd) (v : TLevel) : ∀ x ∈ chs l v, x.gd := fun x hx => hg x (List.mem_filter.1 hx).1
theorem chF_src {l : List TFeature} (hS : isSource l = true) (v : TLevel) : isSource (chF l v) = true := shAll_src _ (chs_src hS v)
theorem chF_gd {l : List TFeature} (hg : ∀ x ∈ l, x.gd) (v : TLevel) : ∀ x ∈ chF l v, x.gd := shAll_gd _ (chs_gd hg v)
theorem shown_le {l : List TFeature} (hS : isSource l = true) (v : TLevel) : (shown l v).length ≤ 16 := by
 unfold shown
 rw [List.length_map]
 exact Nat.le_trans (List.length_filter_le _ _) (src_len (rkd_src hS v.rank))

theorem map_take_cpy {α β : Type} {f : α → β} {l : List α} {i : Nat} {x : α} (h : l[i]? = some x) : (l.take (i + 1)).map f = (l.take i).map f ++ [f x] := by rw [take_succ_of h, List.map_append]; rfl
theorem take_len {α : Type} (l : List α) (i : Nat) : (l.take i).length ≤ i := by rw [List.length_take]; omega
theorem cpS_i (l : List TFeature) (hl : l.length ≤ 1048576) (hp : ∀ x ∈ l, x.sm) : VCalls Tryz.prog 168 [.ro 5 (l.map TFeature.en)] (fun r M => r = .own 0 0 ∧ M = [some ⟨81, 5, 0, false, l.map TFeature.ed⟩]) := by
 refine VB Tryz.func168 19 (fun E hE => ?_)
 have hclo : Clo (.ro 5 (l.map TFeature.en)) := clo_list TFeature.clo_en
 repeat' ((first
  | (refine iAL ?_; first | refine AL.any (h := POp.gh POp.mk (Gh.absorbA (q := 0) (id := 2) (j := 4) rfl rfl rfl rfl rfl rfl (DCl.map (fun _ => rfl)) TPoint.und)) ?_ | refine AL.any ?_ | refine AL.any (h := POp.O Tryz.func118 (hc := cloneF x (by assumption))) ?_ | refine AL.nil ?_)
  | (refine iAW ?_; first | (refine AW.c0 ?_; constructor) | refine AW.cT ?_ | refine AW.cF ?_)
  | (
 refine AW.loopD hE (fun i : Nat => [.any, .any, .any, .own 0 i, .any, .any, .any, .ro 5 (l.map TFeature.en), I ((l.map TFeature.en).length : Int), I (i : Int), .any, .any, .any, .any, .any, .any, .any, .any, .any, .any]) (fun i => [some ⟨81, 5, i, false, (l.take i).map TFeature.ed⟩]) (fun i => l.length - i) (fun i => i ≤ l.length) 0 (by simp) ?_ (by first | rfl | (simp [fil_zero]; done)) ?_
 (focus (exact wkI))
 intro i hi
 by_cases hlt : i < l.length
 case' pos =>
  have hP := True.intro
  obtain ⟨x, hx⟩ : ∃ x, l[i]? = some x := ⟨_, List.getElem?_eq_getElem hlt⟩
  have hg := map_get (f := TFeature.en) hx
  have ht := lt_true (f := TFeature.en) hlt
  have hn := next_ix hlt (by omega)
  have hm := map_take_cpy (f := TFeature.ed) hx
  have hln := take_len l i
  have hcle : Clo (.agg x.en) := Clo.agg x.clo_en
  have hpx := hp x (List.mem_of_getElem? hx)
  have hclP : Clo (.ro 2 (x.points.map TPoint.en)) := clo_list TPoint.clo_en
 case' neg =>
  have hQ := True.intro
  have ht := lt_false (f := TFeature.en) hlt
  have e : i = l.length := by omega
  subst e
  try rw [List.take_length])) <;> (try dsimp only))
 all_goals first
  | (have _ := hP; (refine ⟨i + 1, _, hlt, by omega, ?_, by rw [hm] <;> rfl, ?_, ?_⟩; (focus (exact wkN)); (focus (exact fitsA)); (focus (exact fits_dcl (DCl.map (fun _ => rfl))))))
  | (have _ := hQ; (try simp only [List.take_length]); exact Fin.r1 [0] rfl (RV.tmp (by rfl)) ⟨rfl, rfl⟩)

theorem cpS_s (l : List TFeature) (hl : l.length ≤ 1048576) (hp : ∀ x ∈ l, x.sm) : VCalls Tryz.prog 166 [.ro 5 (l.map TFeature.en)] (fun r M => r = .own 0 0 ∧ M = [some ⟨81, 5, 0, false, l.map TFeature.ed⟩]) := by
 refine VB Tryz.func166 20 (fun E hE => ?_)
 have hclo : Clo (.ro 5 (l.map TFeature.en)) := clo_list TFeature.clo_en
 repeat' ((first
  | (refine iAL ?_; first | refine AL.any (h := POp.gh POp.mk (Gh.absorbA (q := 0) (id := 1) (j := 4) rfl rfl rfl rfl rfl rfl (DCl.map (fun _ => rfl)) TPoint.und)) ?_ | refine AL.any ?_ | refine AL.any (h := POp.O Tryz.func108 (hc := cloneF_s x (by assumption))) ?_ | refine AL.nil ?_)
  | (refine iAW ?_; first | (refine AW.c0 ?_; constructor) | refine AW.cT ?_ | refine AW.cF ?_)
  | (
 refine AW.loopD hE (fun i : Nat => [.ro 5 (l.map TFeature.en), .any, .any, .own 0 i, I (i : Int), .any, .any, .any, .any, .any, .any, .any, .any, .any, .any, .any, .any, .any, .any, .any, .any]) (fun i => [some ⟨81, 5, i, false, (l.take i).map TFeature.ed⟩]) (fun i => l.length - i) (fun i => i ≤ l.length) 0 (by simp) ?_ (by first | rfl | (simp [fil_zero]; done)) ?_
 (focus (exact wkI))
 intro i hi
 by_cases hlt : i < l.length
 case' pos =>
  have hP := True.intro
  obtain ⟨x, hx⟩ : ∃ x, l[i]? = some x := ⟨_, List.getElem?_eq_getElem hlt⟩
  have hg := map_get (f := TFeature.en) hx
  have ht := lt_true (f := TFeature.en) hlt
  have hn := next_ix hlt (by omega)
  have hm := map_take_cpy (f := TFeature.ed) hx
  have hln := take_len l i
  have hcle : Clo (.agg x.en) := Clo.agg x.clo_en
  have hpx := hp x (List.mem_of_getElem? hx)
  have hclP : Clo (.ro 2 (x.points.map TPoint.en)) := clo_list TPoint.clo_en
 case' neg =>
  have hQ := True.intro
  have ht := lt_false (f := TFeature.en) hlt
  have e : i = l.length := by omega
  subst e
  try rw [List.take_length])) <;> (try dsimp only))
 all_goals first
  | (have _ := hP; (refine ⟨i + 1, _, hlt, by omega, ?_, by rw [hm] <;> rfl, ?_, ?_⟩; (focus (exact wkN)); (focus (exact fitsA)); (focus (exact fits_dcl (DCl.map (fun _ => rfl))))))
  | (have _ := hQ; (try simp only [List.take_length]); exact Fin.r1 [0] rfl (RV.tmp (by rfl)) ⟨rfl, rfl⟩)

def srcTo (l : List TEntry) (i : Nat) : List TFeature := ((l.take i).filter fun e => !e.gone).map TEntry.feature
def srcOf (l : List TEntry) : List TFeature := if isLog l = true then srcTo l l.length else []
theorem srcOf_t {l : List TEntry} (h : isLog l = true) : srcOf l = srcTo l l.length := if_pos h
theorem srcOf_f {l : List TEntry} (h : isLog l = false) : srcOf l = [] := if_neg (by rw [h]; decide)
theorem srcOf_cases {l : List TEntry} {i : Nat} {x : TEntry} (h : l[i]? = some x) : (x.gone = true ∧ srcTo l (i + 1) = srcTo l i) ∨ (x.gone = false ∧ srcTo l (i + 1) = srcTo l i ++ [x.feature]) := by
 unfold srcTo
 rw [take_succ_of h, List.filter_append, List.map_append]
 cases hgo : x.gone <;> simp [hgo]
theorem srcTo_len (l : List TEntry) (i : Nat) : (srcTo l i).length ≤ i := by
 unfold srcTo
 rw [List.length_map]
 exact Nat.le_trans (List.length_filter_le _ _) (by rw [List.length_take]; omega)
theorem srcTo_mem {l : List TEntry} {i : Nat} {p : TFeature → Prop} (hp : ∀ e ∈ l, p e.feature) : ∀ y ∈ srcTo l i, p y := fun y hy => by
 unfold srcTo at hy
 obtain ⟨e, he, rfl⟩ := List.mem_map.1 hy
 exact hp e (List.mem_of_mem_take (List.mem_filter.1 he).1)
theorem srcOf_len {l : List TEntry} (hl : l.length ≤ 1048576) : (srcOf l).length ≤ 1048576 := by
 unfold srcOf
 split
 · exact Nat.le_trans (srcTo_len l _) hl
 · exact Nat.zero_le _
theorem srcOf_mem {l : List TEntry} {p : TFeature → Prop} (hp : ∀ e ∈ l, p e.feature) : ∀ y ∈ srcOf l, p y := by
 unfold srcOf
 split
 · exact srcTo_mem hp
 · intro y hy; simp at hy
def nLog (l : List TEntry) : Nat := if isLog l = true then l.length else 0
theorem nLog_t {l : List TEntry} {i : Nat} (h : i < nLog l) : isLog l = true ∧ i < l.length := by
 unfold nLog at h
 split at h
 · exact ⟨by assumption, h⟩
 · omega
theorem srcOf_n (l : List TEntry) : srcTo l (nLog l) = srcOf l := by
 unfold nLog srcOf
 split
 · rfl
 · simp [srcTo]

theorem src_i (l : List TEntry) (hl : l.length ≤ 1048576) (hp : ∀ e ∈ l, e.feature.gd) : VCalls Tryz.prog 60 [.ro 8 (l.map TEntry.en)] (fun r M => r = .own 0 0 ∧ M = [some ⟨81, 5, 0, false, (srcOf l).map TFeature.ed⟩]) := by
 refine VB Tryz.func60 27 (fun E hE => ?_)
 have hclo : Clo (.ro 8 (l.map TEntry.en)) := clo_list TEntry.clo_en
 repeat' ((first
  | (refine iAL ?_; first | refine AL.any (h := POp.gh POp.mk (Gh.absorbA (q := 0) (id := 2) (j := 4) rfl rfl rfl rfl rfl rfl (DCl.map (fun _ => rfl)) TPoint.und)) ?_ | refine AL.any ?_ | refine AL.any (h := POp.k Tryz.func117 (hc := isLog_i _ (by assumption) (by assumption))) ?_ | refine AL.any (h := POp.O Tryz.func118 (hc := cloneF x.feature (by assumption))) ?_ | refine AL.nil ?_)
  | (refine iAW ?_; first | (refine AW.c0 ?_; constructor) | refine AW.cT ?_ | refine AW.cF ?_ | (refine AW.c2 ?_ ?_ <;> (intro h; try simp only [bT, bF] at h)))
  | (
 refine AW.loopD hE (fun i : Nat => [.any, .any, .any, .own 0 (srcTo l i).length, .any, .any, .any, .any, .any, .any, .any, .ro 8 (l.map TEntry.en), I ((l.map TEntry.en).length : Int), I (i : Int), .any, .any, .any, .any, .any, .any, .any, .any, .any, .any, .any, .any, .any, .any]) (fun i => [some ⟨81, 5, (srcTo l i).length, false, (srcTo l i).map TFeature.ed⟩]) (fun i => l.length - i) (fun i => i ≤ l.length) 0 (by simp) ?_ (by first | rfl | (simp [fil_zero]; done)) ?_
 (focus (exact wkI))
 intro i hi
 by_cases hlt : i < l.length
 case' pos =>
  have hP := True.intro
  obtain ⟨x, hx⟩ : ∃ x, l[i]? = some x := ⟨_, List.getElem?_eq_getElem hlt⟩
  have hg := map_get (f := TEntry.en) hx
  have ht := lt_true (f := TEntry.en) hlt
  have hn := next_ix hlt (by omega)
  have hgx := hp x (List.mem_of_getElem? hx)
  have hgs := hgx.1
  have hln := srcTo_len l i
  have hclP : Clo (.ro 2 (x.feature.points.map TPoint.en)) := clo_list TPoint.clo_en
  have hclF : Clo (.agg x.feature.en) := Clo.agg x.feature.clo_en
  have hcle : Clo (.agg x.en) := Clo.agg x.clo_en
  rcases srcOf_cases hx with ⟨hgo, hsr⟩ | ⟨hgo, hsr⟩
  rotate_left 1
  have hm : (srcTo l (i + 1)).map TFeature.ed = (srcTo l i).map TFeature.ed ++ [x.feature.ed] := by rw [hsr, List.map_append]; rfl
  have hlen : (srcTo l (i + 1)).length = (srcTo l i).length + 1 := by rw [hsr, List.length_append]; rfl
  rotate_left 1
 case' neg =>
  have hQ := True.intro
  have ht := lt_false (f := TEntry.en) hlt
  have e : i = l.length := by omega
  subst e
  try rw [List.take_length])) <;> (try dsimp only))
 all_goals first
  | (have _ := hP; (refine ⟨i + 1, _, hlt, by omega, ?_, by first | (rw [hm, hlen] <;> rfl) | (rw [hsr] <;> rfl), ?_, ?_⟩; (focus ((refine wkj ?_; repeat' with_reducible constructor) <;> (first | rfl | (rw [hlen]; done) | (rw [hsr]; done) | simp_all))); (focus (exact fitsA)); (focus (exact fits_dcl (DCl.map (fun _ => rfl))))))
  | (have _ := hQ; (rw [srcOf_t (by assumption)]); exact Fin.r1 [0] rfl (RV.tmp (by rfl)) ⟨rfl, rfl⟩)
  | (rw [srcOf_f (by assumption)]); exact Fin.r1 [0] rfl (RV.tmp (by rfl)) ⟨rfl, rfl⟩

theorem src_s (l : List TEntry) (hl : l.length ≤ 1048576) (hp : ∀ e ∈ l, e.feature.gd) : VCalls Tryz.prog 52 [.ro 8 (l.map TEntry.en)] (fun r M => r = .own 0 0 ∧ M = [some ⟨81, 5, 0, false, (srcOf l).map TFeature.ed⟩]) := by
 refine VB Tryz.func52 31 (fun E hE => ?_)
 have hclo : Clo (.ro 8 (l.map TEntry.en)) := clo_list TEntry.clo_en
 repeat' ((first
  | (refine iAL ?_; first | refine AL.any (h := POp.gh POp.mk (Gh.absorbA (q := 0) (id := 1) (j := 4) rfl rfl rfl rfl rfl rfl (DCl.map (fun _ => rfl)) TPoint.und)) ?_ | refine AL.any ?_ | refine AL.any (h := POp.O Tryz.func108 (hc := cloneF_s x.feature (by assumption))) ?_ | refine AL.W ?_ | refine AL.W (h := fun h => by (try rw [h]); exact POp.k Tryz.func107 (hc := isLog_s _ (by assumption) (by assumption))) ?_ | refine AL.nil ?_)
  | (refine iAW ?_; first | (refine AW.c0 ?_; constructor) | refine AW.cT ?_ | refine AW.cF ?_)
  | (
 refine AW.loopD hE (fun i : Nat => [.ro 8 (l.map TEntry.en), .any, .any, .own 0 (srcTo l i).length, I (i : Int), .any, .any, .any, .any, .any, .any, .any, .any, .any, .any, .any, .any, .any, .any, .any, .any, .any, .any, .any, .any, .any, .any, .any, .any, .any, .any, .any]) (fun i => [some ⟨81, 5, (srcTo l i).length, false, (srcTo l i).map TFeature.ed⟩]) (fun i => nLog l - i) (fun i => i ≤ nLog l) 0 (by simp) ?_ (by first | rfl | (simp [fil_zero]; done)) ?_
 (focus (exact wkI))
 intro i hi
 by_cases hlt : i < nLog l
 case' pos =>
  have hP := True.intro
  obtain ⟨hIL, hN⟩ := nLog_t hlt
  obtain ⟨x, hx⟩ : ∃ x, l[i]? = some x := ⟨_, List.getElem?_eq_getElem hN⟩
  have hg := map_get (f := TEntry.en) hx
  have ht : (decide ((i : Int) < ((l.map TEntry.en).length : Int)) && isLog l) = true := by rw [hIL]; simp; omega
  have hn := next_ix hN (by omega)
  have hgx := hp x (List.mem_of_getElem? hx)
  have hgs := hgx.1
  have hln := srcTo_len l i
  have hclP : Clo (.ro 2 (x.feature.points.map TPoint.en)) := clo_list TPoint.clo_en
  have hclF : Clo (.agg x.feature.en) := Clo.agg x.feature.clo_en
  have hcle : Clo (.agg x.en) := Clo.agg x.clo_en
  rcases srcOf_cases hx with ⟨hgo, hsr⟩ | ⟨hgo, hsr⟩
  rotate_left 1
  have hm : (srcTo l (i + 1)).map TFeature.ed = (srcTo l i).map TFeature.ed ++ [x.feature.ed] := by rw [hsr, List.map_append]; rfl
  have hlen : (srcTo l (i + 1)).length = (srcTo l i).length + 1 := by rw [hsr, List.length_append]; rfl
  rotate_left 1
 case' neg =>
  have hQ := True.intro
  have e : i = nLog l := by omega
  have ht : (decide ((i : Int) < ((l.map TEntry.en).length : Int)) && isLog l) = false := by
   rw [e]
   unfold nLog
   split
   · simp
   · simp_all
  subst e)) <;> (try dsimp only))
 all_goals first
  | (have _ := hP; (refine ⟨i + 1, _, hlt, by omega, ?_, by first | (rw [hm, hlen] <;> rfl) | (rw [hsr] <;> rfl), ?_, ?_⟩; (focus ((refine wkj ?_; repeat' with_reducible constructor) <;> (first | rfl | (rw [hlen]; done) | (rw [hsr]; done) | simp_all))); (focus (exact fitsA)); (focus (exact fits_dcl (DCl.map (fun _ => rfl))))))
  | (have _ := hQ; (simp only [srcOf_n]); exact Fin.r1 [0] rfl (RV.tmp (by rfl)) ⟨rfl, rfl⟩)

theorem src_i' (l : List TEntry) (hl : l.length ≤ 1048576) (hp : ∀ e ∈ l, e.feature.gd) : VCalls Tryz.prog 60 [.ro 8 (l.map TEntry.en)] (fun r M => r = .ro 5 ((srcOf l).map TFeature.en) ∧ M = []) := VCalls.frz (src_i l hl hp) (by repeat' (first | exact VwL.nil | refine VwL.cons ?_ ?_ | (refine View.own (by rfl) (by rfl) (by rfl) (by rfl) ?_ ?_ <;> first | exact DCl.b rfl | exact DCl.map (fun _ => rfl) | assumption | rfl | exact TPoint.und | exact TSegment.und | exact TBox.und | exact TFeature.und | exact TMeet.und | exact TPlace.und | exact TCover.und | exact TLabel.und | exact TPiece.und | exact TLevel.und | exact TChart.und | exact TReason.und | exact TEdit.und | exact TEntry.und | exact TEdition.und | exact TListing.und | exact TAtlas.und | exact TEvent.und | exact TWindow.und | exact und_nil | exact und_I | assumption) | refine View.agg' ?_ | exact View.same (by first | exact clo_of (by rfl) | assumption | exact clo_fn _) | exact View.nil))
theorem src_s' (l : List TEntry) (hl : l.length ≤ 1048576) (hp : ∀ e ∈ l, e.feature.gd) : VCalls Tryz.prog 52 [.ro 8 (l.map TEntry.en)] (fun r M => r = .ro 5 ((srcOf l).map TFeature.en) ∧ M = []) := VCalls.frz (src_s l hl hp) (by repeat' (first | exact VwL.nil | refine VwL.cons ?_ ?_ | (refine View.own (by rfl) (by rfl) (by rfl) (by rfl) ?_ ?_ <;> first | exact DCl.b rfl | exact DCl.map (fun _ => rfl) | assumption | rfl | exact TPoint.und | exact TSegment.und | exact TBox.und | exact TFeature.und | exact TMeet.und | exact TPlace.und | exact TCover.und | exact TLabel.und | exact TPiece.und | exact TLevel.und | exact TChart.und | exact TReason.und | exact TEdit.und | exact TEntry.und | exact TEdition.und | exact TListing.und | exact TAtlas.und | exact TEvent.und | exact TWindow.und | exact und_nil | exact und_I | assumption) | refine View.agg' ?_ | exact View.same (by first | exact clo_of (by rfl) | assumption | exact clo_fn _) | exact View.nil))
def aptR (x y : TLabel) : Prop := ovB x.box y.box = false
structure ChOk (c : TChart) : Prop where
 src : isSource c.features = true
 gd : ∀ x ∈ c.features, x.gd
 len : c.labels.length ≤ 1048576
 apt : c.labels.Pairwise aptR
 nm : ∀ y ∈ c.labels, ∃ (j : Nat) (f : TFeature), c.features[j]? = some f ∧ fnd c.features y.id = (j : Int) ∧ f.name = y.name
theorem plN_len {l : List TFeature} (hS : isSource l = true) (hg : ∀ x ∈ l, x.gd) : (plN l).length ≤ 16 := by
 unfold plN
 rw [srtL_len]
 exact pnA_len hS hg
def chart0 : TChart := ⟨[], []⟩
theorem shAll_s (l : List TFeature) (least : Int) (hl : l.length ≤ 1048576) (hg0 : ∀ x ∈ l, x.gd) : VCalls Tryz.prog 136 [.ro 5 (l.map TFeature.en), I least] (fun r M => r = .ro 5 ((shAll l least).map TFeature.en) ∧ M = []) := by
 refine VB Tryz.func136 39 (fun E hE => ?_)
 have a1 := True.intro
 have hclo : Clo (.ro 5 (l.map TFeature.en)) := clo_list TFeature.clo_en
 have hsm : ∀ x ∈ l, x.sm := fun x hx => (hg0 x hx).1
 repeat' ((first
  | (refine iAL ?_; first | refine AL.ice (id := 1) (es2 := ((skA l least i).take i).map TFeature.en) rfl rfl (DCl.map (fun _ => rfl)) TFeature.und ?_ | refine AL.ice (id := 2) (es2 := ((skA l least i).drop (i + 1)).map TFeature.en) rfl rfl (DCl.map (fun _ => rfl)) TFeature.und ?_ | refine AL.any ?_ | refine AL.any (h := POp.k Tryz.func202 (hc := shrF_s x (oth (skA l least i) i) least hgx hfx hol hog)) ?_ | refine AL.F ?_ | refine AL.T ?_ | refine AL.T (h := POp.k Tryz.func78 (hc := isSource_s l hl hg0)) ?_ | refine AL.nil ?_)
  | ((with_reducible show DLR ..); first | refine DLR.any ?_ | refine DLR.nil ?_)
  | (refine iAW ?_; first | (rw [hoth]) | (refine AW.ice /-Ret-/ (id := 0) (es2 := l.map TFeature.en) rfl rfl (DCl.map (fun _ => rfl)) TFeature.und ?_) | (refine AW.freeze /-Ret-/ (t := 7) (id := 1) rfl rfl rfl rfl (clo_rows TFeature.clo_en) ?_; try dsimp only [dput, List.set, cond_true, cond_false, Nat.zero_add, Nat.add_zero, Nat.reduceAdd, splice, List.take, List.drop, List.length, List.nil_append, List.cons_append, List.append, TPoint.en, TSegment.en, TBox.en, TFeature.en, TMeet.en, TPlace.en, TCover.en, TLabel.en, TPiece.en, TLevel.en, TChart.en, TReason.en, TEdit.en, TEntry.en, TEdition.en, TListing.en, TAtlas.en, TEvent.en, TWindow.en]) | (refine AW.freeze /-Ret-/ (t := 4) (id := 0) rfl rfl rfl rfl (clo_rows TFeature.clo_en) ?_; try dsimp only [dput, List.set, cond_true, cond_false, Nat.zero_add, Nat.add_zero, Nat.reduceAdd, splice, List.take, List.drop, List.length, List.nil_append, List.cons_append, List.append, TPoint.en, TSegment.en, TBox.en, TFeature.en, TMeet.en, TPlace.en, TCover.en, TLabel.en, TPiece.en, TLevel.en, TChart.en, TReason.en, TEdit.en, TEntry.en, TEdition.en, TListing.en, TAtlas.en, TEvent.en, TWindow.en]) | (refine AW.c0 ?_; constructor) | refine AW.drawnR (id := 5) 8 1 [none, none, none, some 0, none, none, none, none] [some Rsv] rfl (by kernel_rfl) (by kernel_rfl) (by kernel_rfl) (by rfl) ?_ | refine AW.cT ?_ | refine AW.cF ?_)
  | (refine ?_; first | (refine AL.any (h := POp.O Tryz.func166 (hc := cpS_s ((skA l least i).drop (i + 1)) hlt2 hsm2) (hvw := VwL.cons (View.subC (by rfl) (by rfl) (by rfl) (by rfl) (by exact clo_rows TFeature.clo_en) (by exact hb2) (by exact sub_enE _ _)) VwL.nil)) ?_) | (refine AL.any (h := POp.O Tryz.func166 (hc := cpS_s l (by assumption) (by assumption))) ?_))
  | ((with_reducible show DLR ..); first | refine DLR.any (h := fun Y => POp.quiet (QOp.upto_own (m := i) (by rfl) slk45 (by rfl) (by rfl) (by rfl) (by rfl) (by rfl) (by rfl) (by omega) (by rw [hlm]; omega) (Int.toNat_natCast _))) ?_ | refine DLR.any (h := fun Y => POp.quiet (QOp.from_own (i := i + 1) (m := ((skA l least i).map TFeature.en).length - (i + 1)) (by rfl) slk45 (by rfl) (by rfl) (by rfl) (by rfl) (by rfl) (by rfl) (by rw [w1]; omega) (by rw [w1, hlm]; omega) (by rw [w1]; exact Int.toNat_natCast _) rfl)) ?_ | refine DLR.call rfl (by rfl) Tryz.func166 (by rfl) (by rfl) (by rfl) (fun Y => VwL.cons (View.subC (by rfl) (by rfl) (by rfl) (by rfl) (by exact clo_rows TFeature.clo_en) (by first | exact hb1 | exact hb2) (by exact (sub_en0 _ _))) VwL.nil) (cpS_s ((skA l least i).take i) hlt1 hsm1) rfl (DCl.map (fun _ => rfl)) rfl rfl ?_)
  | (
 have _ := a1
 clear a1
 refine AW.loopD hE (fun s_ : Nat => [.ro 5 (l.map TFeature.en), I least, .any, .any, .any, .own 0 0, I (s_ : Int), .any, .any, .any, .any, .any, .any, .any, .any, .any, .any, .any, .any, .any, .any, .any, .any, .any, .any, .any, .any, .any, .any, .any, .any, .any, .any, .any, .any, .any, .any, .any, .any, .any, .any]) (fun s_ => [some ⟨81, 5, 0, false, (skA l least s_).map TFeature.en⟩]) (fun s_ => l.length - s_) (fun s_ => s_ ≤ l.length ∧ (isSource l = true ∨ s_ = 0)) 0 ⟨Nat.zero_le _, .inr rfl⟩ ?_ (by first | rfl | (rfl)) ?_
 (focus (exact wkI))
 rintro i hJ
 try dsimp only at hJ
 try dsimp only
 by_cases hlt : i < l.length ∧ isSource l = true
 case' pos =>
  have p1 := True.intro
  obtain ⟨hlt, hS⟩ := hlt
  have hls : (skA l least i).length = l.length := skA_len l least i
  obtain ⟨x, hx⟩ := getD_some (l := (skA l least i)) (i := i) (by omega)
  have hg := map_get (f := TFeature.en) hx
  have hgs := skA_gd least hg0 i
  have hfs := skA_feat least ((src_iff l).1 hS).2.1 i
  have hgx := hgs x (List.mem_of_getElem? hx)
  have hfx := hfs x (List.mem_of_getElem? hx)
  have hset := skA_set (least := least) hx
  have hoth := oth_map (skA l least i) i
  have hol : (oth (skA l least i) i).length ≤ 1048576 := Nat.le_trans (oth_len _ _) (by omega)
  have hog : ∀ o ∈ oth (skA l least i) i, o.gd := fun o ho => hgs o (oth_mem ho)
  have hlm : ((skA l least i).map TFeature.en).length = l.length := by rw [List.length_map, hls]
  have hb1 : 0 + i ≤ ((skA l least i).map TFeature.en).length := by omega
  have hb2 : (i + 1) + (((skA l least i).map TFeature.en).length - (i + 1)) ≤ ((skA l least i).map TFeature.en).length := by omega
  have w1 : IntKind.i64.wrap ((i : Int) + 1) = ((i + 1 : Nat) : Int) := by rw [w64 (by omega) (by omega)]; rfl
  have hcle : Clo (.agg x.en) := Clo.agg x.clo_en
  have hclr : Clo (.agg (shr (oth (skA l least i) i) least x).en) := Clo.agg (TFeature.clo_en _)
  have hclo2 : Clo (.ro 5 ((oth (skA l least i) i).map TFeature.en)) := clo_list TFeature.clo_en
  have hlt1 : ((skA l least i).take i).length ≤ 1048576 := by rw [List.length_take]; omega
  have hlt2 : ((skA l least i).drop (i + 1)).length ≤ 1048576 := by rw [List.length_drop]; omega
  have hsm1 : ∀ x ∈ (skA l least i).take i, x.sm := fun x hx => (hgs x (List.mem_of_mem_take hx)).1
  have hsm2 : ∀ x ∈ (skA l least i).drop (i + 1), x.sm := fun x hx => (hgs x (List.mem_of_mem_drop hx)).1
  have ht : decide ((i : Int) < (((skA l least i).map TFeature.en).length : Int)) = true := by rw [hlm]; simp; omega
  have hn := w1
 case' neg =>
  have q1 := True.intro
  have hls : (skA l least i).length = l.length := skA_len l least i
  have hlm : ((skA l least i).map TFeature.en).length = l.length := by rw [List.length_map, hls]
  rcases Bool.eq_false_or_eq_true (isSource l) with hS | hS
  case' inl =>
   have ei : i = l.length := by have : ¬ i < l.length := fun hh => hlt ⟨hh, hS⟩; omega
   have ht : decide ((i : Int) < (((skA l least i).map TFeature.en).length : Int)) = false := by rw [hlm]; simp; omega
   have hres : shAll l least = (skA l least i) := by rw [shAll_t hS, ei]
  case' inr =>
   have ei : i = 0 := by rcases hJ.2 with hh | hh; (rw [hh] at hS; cases hS); exact hh
   have hres : shAll l least = (skA l least i) := by rw [shAll_f hS, ei]; rfl
   rcases Bool.eq_false_or_eq_true (decide ((i : Int) < (((skA l least i).map TFeature.en).length : Int))) with ht | ht)) <;> (try dsimp only))
 all_goals first
  | (have _ := p1; refine ⟨i + 1, _, ⟨hlt, .inl hS⟩, by omega, ?_, by rw [hset] <;> rfl, ?_, ?_⟩; (focus (exact wkH)); (focus (exact fitsA)); (focus (exact fits_row (clo_rows TFeature.clo_en))))
  | (have _ := q1; exact Fin.one rfl (RV.tmp (by rfl)) (clo_list TFeature.clo_en) ⟨by rw [hres], rfl⟩)

end Go.Proofs.YtpffahmmklpifaaGreat.Abs

/- Labels sorted by the library's sort. -/
namespace Go.Proofs.YtpffahmmklpifaaGreat.Abs
open Go.Proofs Go.RowKit
set_option linter.unusedVariables false
set_option linter.unusedSimpArgs false
set_option maxRecDepth 100000
set_option maxHeartbeats 2000000
attribute [local irreducible] OpA AL AW DL DLM DLR DLS QOp POp VCalls VCallsI
open Go.Shelf Go.Lib Go.Sort
set_option maxHeartbeats 2000000 in
set_option maxRecDepth 100000 in
theorem cmpL_calls (x y : TLabel) (W : World) : Calls Tryz.prog 216 #[.agg #[.int .i64 x.id, .string x.name, .int .i64 x.box.low.x, .int .i64 x.box.low.y, .int .i64 x.box.high.x, .int .i64 x.box.high.y], .agg #[.int .i64 y.id, .string y.name, .int .i64 y.box.low.x, .int .i64 y.box.low.y, .int .i64 y.box.high.x, .int .i64 y.box.high.y]] W fun e w' => e = .returned (.int .i64 (cmpZ x.id y.id)) ∧ ∃ q os', w' = grow (W.drewN q) os' := by
 have mixed : Tryz.prog.follows .mixedOrders = true := by kernel_rfl
 have hc : ∀ w, Calls Tryz.prog 128 #[.int .i64 x.id, .int .i64 y.id] w fun e w' => e = .returned (.int .i64 (cmpZ x.id y.id)) ∧ w' = w := fun w => Tryz.cmp_Compare_int x.id y.id w
 generalize cmpZ x.id y.id = z at hc
 have eC : ∀ args w, (callFunc 128 args).run Tryz.prog w = .ok (.enter 128 args) w := enters_of Tryz.func128 (by kernel_rfl) rfl
 go_enter Tryz.func216, Tryz.ntmps216
 go_wp2_with (go_at_fn 128; (with_reducible refine (hc _).mono ?_); rintro e w' ⟨rfl, rfl⟩)
 go_ret
 exact ⟨rfl, 0, _, by simp only [alloc_eq_grow, grow_grow, World.drewN_zero]; rfl⟩
theorem cmpL_calls' (x y : TLabel) (a b : Int) (ha : x.id = a) (hb : y.id = b) (W : World) : Calls Tryz.prog 216 #[.agg #[.int .i64 x.id, .string x.name, .int .i64 x.box.low.x, .int .i64 x.box.low.y, .int .i64 x.box.high.x, .int .i64 x.box.high.y], .agg #[.int .i64 y.id, .string y.name, .int .i64 y.box.low.x, .int .i64 y.box.low.y, .int .i64 y.box.high.x, .int .i64 y.box.high.y]] W fun e w' => e = .returned (.int .i64 (cmpZ a b)) ∧ ∃ q os', w' = grow (W.drewN q) os' := by
 subst ha hb
 exact cmpL_calls x y W
abbrev vLb (x : TLabel) : List Value := [.int .i64 x.id, .string x.name, .int .i64 x.box.low.x, .int .i64 x.box.low.y, .int .i64 x.box.high.x, .int .i64 x.box.high.y]
theorem vLb_one (x : TLabel) : ∀ v ∈ vLb x, v.oneCell' = true := fun v hv => by
 simp [vLb] at hv
 rcases hv with rfl | rfl | rfl | rfl | rfl | rfl <;> rfl
theorem ltI_iff (x y : Int) : ltOf cmpZ x y = decide (x < y) := by
 unfold ltOf cmpZ
 repeat' split
 all_goals simp <;> omega
theorem swoI : SWO (ltOf cmpZ) where
 irrefl x := by rw [ltI_iff]; simp
 trans x y z h1 h2 := by rw [ltI_iff] at *; simp at *; omega
 ntrans x y z h1 h2 := by rw [ltI_iff] at *; simp at *; omega
theorem mrg_eq (l : List Int) : (l.mergeSort fun x y => !decide (cmpZ y x < 0)) = l.mergeSort fun x y => decide (x ≤ y) := by
 have e : (fun x y : Int => !decide (cmpZ y x < 0)) = fun x y => decide (x ≤ y) := by
  funext x y
  have := ltI_iff y x
  unfold ltOf at this
  rw [this]
  by_cases h : x ≤ y <;> simp [h] <;> omega
 rw [e]
theorem sort_look (look : Int → TLabel) (hlk : ∀ k, (look k).id = k) (ids : List Int) (hl : ids.length ≤ 1048576) : ACalls Tryz.prog 215 [.own 0 0, .fn 216 []] [some ⟨174, 6, 0, false, ids.map fun k => (look k).en⟩] (fun r M' => r = .c (.tuple #[]) ∧ ∃ Mx, M' = [⟨174, 6, 0, false, (ids.mergeSort fun x y => decide (x ≤ y)).map fun k => (look k).en⟩].map some ++ Mx) :=
 sort_k (fun k => (look k).en) (fun k => vLb (look k)) (fun _ => rfl) (fun _ => rfl) (fun x => vLb_one _) ids (ids.mergeSort fun x y => decide (x ≤ y)) (List.length_mergeSort _) (by omega)
  (fun blk cap w hH hb => by
   have h := AnyQ.slices_SortFunc_total Tryz.laysSortL 6 Tryz.isAgg174 Tryz.sizeOf174 (fun k => vLb (look k)) (fun _ => rfl) (fun x => vLb_one _) cmpZ swoI 216 #[] blk 0 cap ids.toArray w (enters_of Tryz.func216 (by kernel_rfl) rfl) (fun _ _ _ _ x y => cmpL_calls' (look x) (look y) x y (hlk x) (hlk y) _) hH hb (by simp; omega) (fun x y h1 h2 => by
    rw [ltI_iff] at h1 h2
    simp at h1 h2
    omega)
   rw [← mrg_eq]
   exact h)
  (fun p cap fv w => AnyF.slices_SortFunc_none Tryz.laysSortL p cap fv w)
theorem sortL (L : List TLabel) (hd : (L.map (·.id)).Pairwise (· ≠ ·)) (hl : L.length ≤ 1048576) : ACalls Tryz.prog 215 [.own 0 0, .fn 216 []] [some ⟨174, 6, 0, false, L.map TLabel.en⟩] (fun r M' => r = .c (.tuple #[]) ∧ ∃ Mx, M' = [⟨174, 6, 0, false, (srtL L).map TLabel.en⟩].map some ++ Mx) := by
 have h := sort_look (lookL L) (lookL_id L) (L.map (·.id)) (by rw [List.length_map]; exact hl)
 have e1 : ((L.map (·.id)).mergeSort fun x y => decide (x ≤ y)).map (fun k => (lookL L k).en) = (srtL L).map TLabel.en := by
  rw [← srtL_merge hd, List.map_map]; rfl
 rw [look_all hd, e1] at h
 exact h

end Go.Proofs.YtpffahmmklpifaaGreat.Abs

/- The walks of labels and their boxes. -/
namespace Go.Proofs.YtpffahmmklpifaaGreat.Abs
open Go.Proofs Go.RowKit
set_option linter.unusedVariables false
set_option linter.unusedSimpArgs false
set_option maxRecDepth 100000
set_option maxHeartbeats 2000000
attribute [local irreducible] OpA AL AW DL DLM DLR DLS QOp POp VCalls VCallsI
theorem ov_s (a b : TBox) : VCalls Tryz.prog 218 [.agg a.en, .agg b.en] (fun r M => r = B (ovB a b) ∧ M = []) := by
 refine VB Tryz.func218 43 (fun E hE => ?_)
 dsimp only [TPoint.en, TBox.en]
 repeat' ((first
  | (refine iAL ?_; first | refine AL.any ?_ | refine AL.W ?_ | refine AL.W (h := fun h => by (try rw [h]); exact POp.k Tryz.func175 (hc := min_s _ _)) ?_ | refine AL.nil ?_)
  | ((with_reducible show DL ..); first | refine DL.any ?_ | refine DL.any (h := POp.k Tryz.func241 (hc := by first | exact isBox_s b | exact isBox_s a)) ?_ | refine DL.W ?_ | refine DL.W (h := fun h => by (try rw [h]); exact POp.k Tryz.func175 (hc := min_s _ _)) ?_ | refine DL.W (h := fun h => by (try rw [h]); exact POp.k Tryz.func222 (hc := max_s _ _)) ?_ | refine DL.W (h := fun h => by (try rw [h]); exact POp.k Tryz.func241 (hc := by first | exact isBox_s b | exact isBox_s a)) ?_ | refine DL.nil ?_)
  | (refine iAW ?_; first | (refine AW.c0 ?_; constructor) | refine AW.dr (id := 1) 37 ?_)) <;> (try dsimp only))
 all_goals exact Fin.one rfl (RV.tmp (by rfl)) (clo_c _) ⟨by first | rfl | (simp only [ovB, Bool.and_assoc]; done), rfl⟩

theorem ov_i0 (a b : TBox) : VCalls Tryz.prog 219 [.agg a.en, .agg b.en] (fun r M => r = B (ovI a b) ∧ M = []) := by
 refine VB Tryz.func219 25 (fun E hE => ?_)
 dsimp only [TPoint.en, TBox.en]
 repeat' ((first
  | (refine iAL ?_; first | refine AL.any ?_ | refine AL.any (h := POp.k Tryz.func250 (hc := by first | exact isBox_i b | exact isBox_i a)) ?_ | refine AL.any (h := POp.k Tryz.func286 (hc := com_i a b)) ?_ | refine AL.W ?_ | refine AL.W (h := fun h => by (try rw [h]); exact POp.k Tryz.func250 (hc := by first | exact isBox_i b | exact isBox_i a)) ?_ | refine AL.nil ?_)
  | (refine iAW ?_; (refine AW.c0 ?_; constructor))) <;> (try dsimp only))
 all_goals exact Fin.one rfl (RV.tmp (by rfl)) (clo_c _) ⟨by first | rfl | (simp only [ovI, Bool.and_assoc]; done), rfl⟩

theorem ov_i (a b : TBox) : VCalls Tryz.prog 219 [.agg a.en, .agg b.en] (fun r M => r = B (ovB a b) ∧ M = []) := ovI_eq a b ▸ ov_i0 a b
theorem nw_s (s : ByteArray) (hs : isName s = true) : VCalls Tryz.prog 274 [S s] (fun r M => r = I (2 * (s.size : Int)) ∧ M = []) := by
 refine VB Tryz.func274 8 (fun E hE => ?_)
 have hm := name_max hs
 have hb := name_len hs
 repeat' ((first
  | (refine iAL ?_; first | refine AL.any ?_ | refine AL.any (h := POp.k Tryz.func169 (hc := isName_s s hm)) ?_ | refine AL.nil ?_)
  | (refine iAW ?_; first | (refine AW.c0 ?_; constructor) | refine AW.cF ?_)) <;> (try dsimp only))
 all_goals exact Fin.one rfl (RV.tmp (by rfl)) (clo_c _) ⟨by rw [w64 (by omega) (by omega)], rfl⟩

theorem lab_s0 (p : TPoint) (s : ByteArray) (hp : isp p.x p.y = true) (hs : isName s = true) : VCalls Tryz.prog 206 [.agg p.en, S s, I 0] (fun r M => r = .tup [.agg (labB p s 0).en, B (lbOk p s 0)] ∧ M = []) := by
 refine VB Tryz.func206 61 (fun E hE => ?_)
 dsimp only [TPoint.en, TBox.en]
 have hm := name_max hs
 have hb := name_len hs
 have h03 : inr 0 0 3 = true := rfl
 rcases Bool.eq_false_or_eq_true (isBoxB (lbx p s 0)) with hbx | hbx
 repeat' ((first
  | (refine iAL ?_; first | refine AL.any ?_ | refine AL.any (h := POp.k Tryz.func170 (hc := by first | exact isp_s_t _ _ (by assumption) | exact isp_s_f _ _ (by assumption) | exact isp_s _ _)) ?_ | refine AL.any (h := POp.k Tryz.func241 (hc := isBox_s (lbx p s 0))) ?_ | refine AL.T ?_ | refine AL.T (h := POp.k Tryz.func96 (hc := inr_s _ _ _)) ?_ | refine AL.T (h := POp.k Tryz.func169 (hc := isName_s s hm)) ?_ | refine AL.nil ?_)
  | ((with_reducible show DLM ..); first | refine DLM.any ?_ | refine DLM.mk ?_ | refine DLM.any (h := fun Y => POp.k Tryz.func274 (hc := nw_s s (by assumption))) ?_ | refine DLM.nil ?_)
  | (refine iAW ?_; first | (refine AW.c0 ?_; constructor) | refine AW.drM (id := 3) 12 11 ?_ | refine AW.cT ?_ | refine AW.cF ?_)) <;> (try dsimp only))
 all_goals exact Fin.two rfl (RV.cell (QOp.quietA TT_ok (by rfl))) (RV.tmp (by rfl)) (clo_of (by rfl)) ⟨by first | (rw [labB, lbOk, if_pos hbx, hbx] <;> rfl) | (rw [labB, lbOk, if_neg (by rw [hbx]; decide), hbx] <;> rfl), rfl⟩

theorem lab_s1 (p : TPoint) (s : ByteArray) (hp : isp p.x p.y = true) (hs : isName s = true) : VCalls Tryz.prog 206 [.agg p.en, S s, I 1] (fun r M => r = .tup [.agg (labB p s 1).en, B (lbOk p s 1)] ∧ M = []) := by
 refine VB Tryz.func206 61 (fun E hE => ?_)
 dsimp only [TPoint.en, TBox.en]
 have hm := name_max hs
 have hb := name_len hs
 have h03 : inr 1 0 3 = true := rfl
 rcases Bool.eq_false_or_eq_true (isBoxB (lbx p s 1)) with hbx | hbx
 repeat' ((first
  | (refine iAL ?_; first | refine AL.any ?_ | refine AL.any (h := POp.k Tryz.func170 (hc := by first | exact isp_s_t _ _ (by assumption) | exact isp_s_f _ _ (by assumption) | exact isp_s _ _)) ?_ | refine AL.any (h := POp.k Tryz.func241 (hc := isBox_s (lbx p s 1))) ?_ | refine AL.T ?_ | refine AL.T (h := POp.k Tryz.func96 (hc := inr_s _ _ _)) ?_ | refine AL.T (h := POp.k Tryz.func169 (hc := isName_s s hm)) ?_ | refine AL.nil ?_)
  | ((with_reducible show DL ..); first | refine DL.any ?_ | refine DL.any (h := POp.k Tryz.func274 (hc := nw_s s (by assumption))) ?_ | refine DL.nil ?_)
  | ((with_reducible show DLM ..); first | refine DLM.any ?_ | refine DLM.mk ?_ | refine DLM.any (h := fun Y => POp.k Tryz.func274 (hc := nw_s s (by assumption))) ?_ | refine DLM.nil ?_)
  | (refine iAW ?_; first | (refine AW.c0 ?_; constructor) | refine AW.drM (id := 3) 12 11 ?_ | refine AW.dr (id := 5) 4 ?_ | refine AW.cT ?_ | refine AW.cF ?_)) <;> (try dsimp only))
 all_goals exact Fin.two rfl (RV.cell (QOp.quietA TT_ok (by rfl))) (RV.tmp (by rfl)) (clo_of (by rfl)) ⟨by first | (rw [labB, lbOk, if_pos hbx, hbx] <;> rfl) | (rw [labB, lbOk, if_neg (by rw [hbx]; decide), hbx] <;> rfl), rfl⟩

theorem lab_s2 (p : TPoint) (s : ByteArray) (hp : isp p.x p.y = true) (hs : isName s = true) : VCalls Tryz.prog 206 [.agg p.en, S s, I 2] (fun r M => r = .tup [.agg (labB p s 2).en, B (lbOk p s 2)] ∧ M = []) := by
 refine VB Tryz.func206 61 (fun E hE => ?_)
 dsimp only [TPoint.en, TBox.en]
 have hm := name_max hs
 have hb := name_len hs
 have h03 : inr 2 0 3 = true := rfl
 rcases Bool.eq_false_or_eq_true (isBoxB (lbx p s 2)) with hbx | hbx
 repeat' ((first
  | (refine iAL ?_; first | refine AL.any ?_ | refine AL.any (h := POp.k Tryz.func170 (hc := by first | exact isp_s_t _ _ (by assumption) | exact isp_s_f _ _ (by assumption) | exact isp_s _ _)) ?_ | refine AL.any (h := POp.k Tryz.func241 (hc := isBox_s (lbx p s 2))) ?_ | refine AL.T ?_ | refine AL.T (h := POp.k Tryz.func96 (hc := inr_s _ _ _)) ?_ | refine AL.T (h := POp.k Tryz.func169 (hc := isName_s s hm)) ?_ | refine AL.nil ?_)
  | ((with_reducible show DLM ..); first | refine DLM.any ?_ | refine DLM.mk ?_ | refine DLM.any (h := fun Y => POp.k Tryz.func274 (hc := nw_s s (by assumption))) ?_ | refine DLM.nil ?_)
  | (refine iAW ?_; first | (refine AW.c0 ?_; constructor) | refine AW.drM (id := 3) 12 11 ?_ | refine AW.cT ?_ | refine AW.cF ?_)) <;> (try dsimp only))
 all_goals exact Fin.two rfl (RV.cell (QOp.quietA TT_ok (by rfl))) (RV.tmp (by rfl)) (clo_of (by rfl)) ⟨by first | (rw [labB, lbOk, if_pos hbx, hbx] <;> rfl) | (rw [labB, lbOk, if_neg (by rw [hbx]; decide), hbx] <;> rfl), rfl⟩

theorem lab_s3 (p : TPoint) (s : ByteArray) (hp : isp p.x p.y = true) (hs : isName s = true) : VCalls Tryz.prog 206 [.agg p.en, S s, I 3] (fun r M => r = .tup [.agg (labB p s 3).en, B (lbOk p s 3)] ∧ M = []) := by
 refine VB Tryz.func206 61 (fun E hE => ?_)
 dsimp only [TPoint.en, TBox.en]
 have hm := name_max hs
 have hb := name_len hs
 have h03 : inr 3 0 3 = true := rfl
 rcases Bool.eq_false_or_eq_true (isBoxB (lbx p s 3)) with hbx | hbx
 repeat' ((first
  | (refine iAL ?_; first | refine AL.any ?_ | refine AL.any (h := POp.k Tryz.func170 (hc := by first | exact isp_s_t _ _ (by assumption) | exact isp_s_f _ _ (by assumption) | exact isp_s _ _)) ?_ | refine AL.any (h := POp.k Tryz.func241 (hc := isBox_s (lbx p s 3))) ?_ | refine AL.T ?_ | refine AL.T (h := POp.k Tryz.func96 (hc := inr_s _ _ _)) ?_ | refine AL.T (h := POp.k Tryz.func169 (hc := isName_s s hm)) ?_ | refine AL.nil ?_)
  | ((with_reducible show DL ..); first | refine DL.any ?_ | refine DL.any (h := POp.k Tryz.func274 (hc := nw_s s (by assumption))) ?_ | refine DL.nil ?_)
  | ((with_reducible show DLM ..); first | refine DLM.any ?_ | refine DLM.mk ?_ | refine DLM.any (h := fun Y => POp.k Tryz.func274 (hc := nw_s s (by assumption))) ?_ | refine DLM.nil ?_)
  | (refine iAW ?_; first | (refine AW.c0 ?_; constructor) | refine AW.drM (id := 3) 12 11 ?_ | refine AW.dr (id := 5) 4 ?_ | refine AW.cT ?_ | refine AW.cF ?_)) <;> (try dsimp only))
 all_goals exact Fin.two rfl (RV.cell (QOp.quietA TT_ok (by rfl))) (RV.tmp (by rfl)) (clo_of (by rfl)) ⟨by first | (rw [labB, lbOk, if_pos hbx, hbx] <;> rfl) | (rw [labB, lbOk, if_neg (by rw [hbx]; decide), hbx] <;> rfl), rfl⟩

theorem lab_s (p : TPoint) (s : ByteArray) (k : Int) (hp : isp p.x p.y = true) (hs : isName s = true) (hk : inr k 0 3 = true) : VCalls Tryz.prog 206 [.agg p.en, S s, I k] (fun r M => r = .tup [.agg (labB p s k).en, B (lbOk p s k)] ∧ M = []) := by
 rcases in03 hk with rfl | rfl | rfl | rfl
 · exact lab_s0 p s hp hs
 · exact lab_s1 p s hp hs
 · exact lab_s2 p s hp hs
 · exact lab_s3 p s hp hs
theorem nw_i (s : ByteArray) (hs : isName s = true) : VCalls Tryz.prog 284 [S s] (fun r M => r = I (2 * (s.size : Int)) ∧ M = []) := by
 refine VB Tryz.func284 8 (fun E hE => ?_)
 have hm := name_max hs
 have hb := name_len hs
 repeat' ((first
  | (refine iAL ?_; first | refine AL.any ?_ | refine AL.any (h := POp.k Tryz.func179 (hc := isName_i s hm)) ?_ | refine AL.nil ?_)
  | (refine iAW ?_; first | (refine AW.c0 ?_; constructor) | refine AW.cF ?_)) <;> (try dsimp only))
 all_goals exact Fin.one rfl (RV.tmp (by rfl)) (clo_c _) ⟨by rw [w64 (by omega) (by omega)], rfl⟩

theorem lab_i0 (p : TPoint) (s : ByteArray) (hp : isp p.x p.y = true) (hs : isName s = true) : VCalls Tryz.prog 214 [.agg p.en, S s, I 0] (fun r M => r = .tup [.agg (labB p s 0).en, B (lbOk p s 0)] ∧ M = []) := by
 refine VB Tryz.func214 61 (fun E hE => ?_)
 dsimp only [TPoint.en, TBox.en]
 have hm := name_max hs
 have hb := name_len hs
 have h03 : inr 0 0 3 = true := rfl
 rcases Bool.eq_false_or_eq_true (isBoxB (lbx p s 0)) with hbx | hbx
 repeat' ((first
  | (refine iAL ?_; first | refine AL.any ?_ | refine AL.any (h := POp.k Tryz.func180 (hc := by first | exact isp_v_t _ _ (by assumption) | exact isp_v_f _ _ (by assumption) | exact isp_v _ _)) ?_ | refine AL.any (h := POp.k Tryz.func250 (hc := isBox_i (lbx p s 0))) ?_ | refine AL.T ?_ | refine AL.T (h := POp.k Tryz.func145 (hc := inr_v _ _ _)) ?_ | refine AL.T (h := POp.k Tryz.func179 (hc := isName_i s hm)) ?_ | refine AL.nil ?_)
  | ((with_reducible show DL ..); first | refine DL.any ?_ | refine DL.any (h := POp.k Tryz.func284 (hc := nw_i s (by assumption))) ?_ | refine DL.nil ?_)
  | (refine iAW ?_; first | (refine AW.c0 ?_; constructor) | refine AW.dr (id := 5) 5 ?_ | refine AW.cT ?_ | refine AW.cF ?_)) <;> (try dsimp only))
 all_goals exact Fin.two rfl (RV.cell (QOp.quietA TT_ok (by rfl))) (RV.tmp (by rfl)) (clo_of (by rfl)) ⟨by first | (rw [labB, lbOk, if_pos hbx, hbx] <;> rfl) | (rw [labB, lbOk, if_neg (by rw [hbx]; decide), hbx] <;> rfl), rfl⟩

theorem lab_i1 (p : TPoint) (s : ByteArray) (hp : isp p.x p.y = true) (hs : isName s = true) : VCalls Tryz.prog 214 [.agg p.en, S s, I 1] (fun r M => r = .tup [.agg (labB p s 1).en, B (lbOk p s 1)] ∧ M = []) := by
 refine VB Tryz.func214 61 (fun E hE => ?_)
 dsimp only [TPoint.en, TBox.en]
 have hm := name_max hs
 have hb := name_len hs
 have h03 : inr 1 0 3 = true := rfl
 rcases Bool.eq_false_or_eq_true (isBoxB (lbx p s 1)) with hbx | hbx
 repeat' ((first
  | (refine iAL ?_; first | refine AL.any ?_ | refine AL.any (h := POp.k Tryz.func180 (hc := by first | exact isp_v_t _ _ (by assumption) | exact isp_v_f _ _ (by assumption) | exact isp_v _ _)) ?_ | refine AL.any (h := POp.k Tryz.func250 (hc := isBox_i (lbx p s 1))) ?_ | refine AL.T ?_ | refine AL.T (h := POp.k Tryz.func145 (hc := inr_v _ _ _)) ?_ | refine AL.T (h := POp.k Tryz.func179 (hc := isName_i s hm)) ?_ | refine AL.nil ?_)
  | ((with_reducible show DL ..); first | refine DL.any ?_ | refine DL.any (h := POp.k Tryz.func284 (hc := nw_i s (by assumption))) ?_ | refine DL.nil ?_)
  | (refine iAW ?_; first | (refine AW.c0 ?_; constructor) | refine AW.dr (id := 6) 5 ?_ | refine AW.cT ?_ | refine AW.cF ?_)) <;> (try dsimp only))
 all_goals exact Fin.two rfl (RV.cell (QOp.quietA TT_ok (by rfl))) (RV.tmp (by rfl)) (clo_of (by rfl)) ⟨by first | (rw [labB, lbOk, if_pos hbx, hbx] <;> rfl) | (rw [labB, lbOk, if_neg (by rw [hbx]; decide), hbx] <;> rfl), rfl⟩

theorem lab_i2 (p : TPoint) (s : ByteArray) (hp : isp p.x p.y = true) (hs : isName s = true) : VCalls Tryz.prog 214 [.agg p.en, S s, I 2] (fun r M => r = .tup [.agg (labB p s 2).en, B (lbOk p s 2)] ∧ M = []) := by
 refine VB Tryz.func214 61 (fun E hE => ?_)
 dsimp only [TPoint.en, TBox.en]
 have hm := name_max hs
 have hb := name_len hs
 have h03 : inr 2 0 3 = true := rfl
 rcases Bool.eq_false_or_eq_true (isBoxB (lbx p s 2)) with hbx | hbx
 repeat' ((first
  | (refine iAL ?_; first | refine AL.any ?_ | refine AL.any (h := POp.k Tryz.func180 (hc := by first | exact isp_v_t _ _ (by assumption) | exact isp_v_f _ _ (by assumption) | exact isp_v _ _)) ?_ | refine AL.any (h := POp.k Tryz.func250 (hc := isBox_i (lbx p s 2))) ?_ | refine AL.T ?_ | refine AL.T (h := POp.k Tryz.func145 (hc := inr_v _ _ _)) ?_ | refine AL.T (h := POp.k Tryz.func179 (hc := isName_i s hm)) ?_ | refine AL.nil ?_)
  | ((with_reducible show DL ..); first | refine DL.any ?_ | refine DL.any (h := POp.k Tryz.func284 (hc := nw_i s (by assumption))) ?_ | refine DL.nil ?_)
  | (refine iAW ?_; first | (refine AW.c0 ?_; constructor) | refine AW.dr (id := 5) 5 ?_ | refine AW.cT ?_ | refine AW.cF ?_)) <;> (try dsimp only))
 all_goals exact Fin.two rfl (RV.cell (QOp.quietA TT_ok (by rfl))) (RV.tmp (by rfl)) (clo_of (by rfl)) ⟨by first | (rw [labB, lbOk, if_pos hbx, hbx] <;> rfl) | (rw [labB, lbOk, if_neg (by rw [hbx]; decide), hbx] <;> rfl), rfl⟩

theorem lab_i3 (p : TPoint) (s : ByteArray) (hp : isp p.x p.y = true) (hs : isName s = true) : VCalls Tryz.prog 214 [.agg p.en, S s, I 3] (fun r M => r = .tup [.agg (labB p s 3).en, B (lbOk p s 3)] ∧ M = []) := by
 refine VB Tryz.func214 61 (fun E hE => ?_)
 dsimp only [TPoint.en, TBox.en]
 have hm := name_max hs
 have hb := name_len hs
 have h03 : inr 3 0 3 = true := rfl
 rcases Bool.eq_false_or_eq_true (isBoxB (lbx p s 3)) with hbx | hbx
 repeat' ((first
  | (refine iAL ?_; first | refine AL.any ?_ | refine AL.any (h := POp.k Tryz.func180 (hc := by first | exact isp_v_t _ _ (by assumption) | exact isp_v_f _ _ (by assumption) | exact isp_v _ _)) ?_ | refine AL.any (h := POp.k Tryz.func250 (hc := isBox_i (lbx p s 3))) ?_ | refine AL.T ?_ | refine AL.T (h := POp.k Tryz.func145 (hc := inr_v _ _ _)) ?_ | refine AL.T (h := POp.k Tryz.func179 (hc := isName_i s hm)) ?_ | refine AL.nil ?_)
  | ((with_reducible show DL ..); first | refine DL.any ?_ | refine DL.any (h := POp.k Tryz.func284 (hc := nw_i s (by assumption))) ?_ | refine DL.nil ?_)
  | (refine iAW ?_; first | (refine AW.c0 ?_; constructor) | refine AW.dr (id := 6) 5 ?_ | refine AW.cT ?_ | refine AW.cF ?_)) <;> (try dsimp only))
 all_goals exact Fin.two rfl (RV.cell (QOp.quietA TT_ok (by rfl))) (RV.tmp (by rfl)) (clo_of (by rfl)) ⟨by first | (rw [labB, lbOk, if_pos hbx, hbx] <;> rfl) | (rw [labB, lbOk, if_neg (by rw [hbx]; decide), hbx] <;> rfl), rfl⟩

theorem lab_i (p : TPoint) (s : ByteArray) (k : Int) (hp : isp p.x p.y = true) (hs : isName s = true) (hk : inr k 0 3 = true) : VCalls Tryz.prog 214 [.agg p.en, S s, I k] (fun r M => r = .tup [.agg (labB p s k).en, B (lbOk p s k)] ∧ M = []) := by
 rcases in03 hk with rfl | rfl | rfl | rfl
 · exact lab_i0 p s hp hs
 · exact lab_i1 p s hp hs
 · exact lab_i2 p s hp hs
 · exact lab_i3 p s hp hs
end Go.Proofs.YtpffahmmklpifaaGreat.Abs
