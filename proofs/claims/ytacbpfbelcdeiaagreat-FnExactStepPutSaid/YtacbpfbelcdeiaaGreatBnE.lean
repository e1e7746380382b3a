/- Part E of the walk over abstract states and of the functions' walks. -/
import Derived.Test.YtacbpfbelcdeiaaGreatWkStep
import Derived.Test.YtacbpfbelcdeiaaGreatBnD
/- The walks of levels, logs, covers. -/
namespace Go.Proofs.YtacbpfbelcdeiaaGreat.Abs
open Go.Proofs Go.RowKit
set_option linter.unusedVariables false
set_option linter.unusedSimpArgs false
set_option maxRecDepth 100000
set_option maxHeartbeats 2000000
attribute [local irreducible] OpA AL AW DL DLM DLR DLS QOp POp VCalls VCallsI
def covAt (s : ByteArray) (i : Nat) : Bool := match s[i]? with
  | none => false
  | some b => !(decide (((b.toNat : Nat) : Int) < 97) || decide (((b.toNat : Nat) : Int) > 122))
def covTo (s : ByteArray) (n : Nat) : Bool := (List.range n).all (covAt s)
theorem covTo_succ (s : ByteArray) (i : Nat) : covTo s (i + 1) = (covTo s i && covAt s i) := by simp [covTo, List.range_succ]
theorem covTo_not {s : ByteArray} {i n : Nat} (h : covAt s i = false) (hi : i < n) : covTo s n = false := by
  simp only [covTo, List.all_eq_false, List.mem_range]
  exact ⟨i, hi, by simp [h]⟩
def isCover (w g : Int) (s : ByteArray) : Bool := inr w 1 6 && inr g 1 6 && ((s.size : Int) == IntKind.i64.wrap (w * g)) && covTo s s.size
theorem str_get {s : ByteArray} {i : Nat} (h : i < s.size) : ∃ b : UInt8, s[i]? = some b ∧ s[((i : Nat) : Int).toNat]? = some b := ⟨s[i], by simp [h], by rw [Int.toNat_natCast]; simp [h]⟩
theorem covAt_some {s : ByteArray} {i : Nat} {b : UInt8} (h : s[i]? = some b) : covAt s i = !(decide (((b.toNat : Nat) : Int) < 97) || decide (((b.toNat : Nat) : Int) > 122)) := by simp [covAt, h]
theorem str_lt {s : ByteArray} {i : Nat} (h : i < s.size) : decide ((i : Int) < (s.size : Int)) = true := by simp; omega
theorem str_ge {s : ByteArray} {i : Nat} (h : ¬ i < s.size) : decide ((i : Int) < (s.size : Int)) = false := by simp; omega

/-! ### Lists each of whose elements is in order with the one before -/
def chAt {α : Type} (ok : α → Bool) (lt : α → α → Bool) (d : α) (l : List α) (i : Nat) : Bool := match l[i]? with
  | none => false
  | some x => ok x && (i == 0 || lt (l.getD (i - 1) d) x)
def chOk {α : Type} (ok : α → Bool) (lt : α → α → Bool) (d : α) (l : List α) (n : Nat) : Bool := (List.range n).all (chAt ok lt d l)
theorem chOk_succ {α : Type} (ok : α → Bool) (lt : α → α → Bool) (d : α) (l : List α) (i : Nat) : chOk ok lt d l (i + 1) = (chOk ok lt d l i && chAt ok lt d l i) := by simp [chOk, List.range_succ]
theorem chOk_not {α : Type} {ok : α → Bool} {lt : α → α → Bool} {d : α} {l : List α} {i n : Nat} (h : chAt ok lt d l i = false) (hi : i < n) : chOk ok lt d l n = false := by
  simp only [chOk, List.all_eq_false, List.mem_range]
  exact ⟨i, hi, by simp [h]⟩
theorem ch_cases {α : Type} (ok : α → Bool) (lt : α → α → Bool) (d : α) (en : α → List AV) {l : List α} {i : Nat} {x : α} (hx : l[i]? = some x) (hl : l.length ≤ 1048576) :
    (ok x = false ∧ chAt ok lt d l i = false) ∨ (ok x = true ∧ decide ((i : Int) > 0) = false ∧ chAt ok lt d l i = true) ∨
    (ok x = true ∧ decide ((i : Int) > 0) = true ∧ 0 ≤ IntKind.i64.wrap ((i : Int) - 1) ∧ (l.map en)[(IntKind.i64.wrap ((i : Int) - 1)).toNat]? = some (en (l.getD (i - 1) d)) ∧ chAt ok lt d l i = lt (l.getD (i - 1) d) x) := by
  have hi := (List.getElem?_eq_some_iff.1 hx).1
  cases hI : ok x
  · exact .inl ⟨rfl, by simp [chAt, hx, hI]⟩
  · rcases Nat.eq_zero_or_pos i with h0 | h0
    · subst h0
      exact .inr (.inl ⟨rfl, by simp, by simp [chAt, hx, hI]⟩)
    · have e : IntKind.i64.wrap ((i : Int) - 1) = ((i - 1 : Nat) : Int) := by rw [w64 (by omega) (by omega)]; omega
      refine .inr (.inr ⟨rfl, decide_eq_true (by omega), by omega, ?_, ?_⟩)
      · rw [e, Int.toNat_natCast, List.getElem?_map, List.getElem?_eq_getElem (show i - 1 < l.length by omega)]
        simp [List.getD_eq_getElem?_getD, List.getElem?_eq_getElem (show i - 1 < l.length by omega)]
      · have : (i == 0) = false := by simp; omega
        simp [chAt, hx, hI, this]
/-! ### Levels, logs -/
def isLevel (v : TLevel) : Bool := inr v.rank 0 9 && inr v.far 0 200 && inr v.least 0 100000
abbrev levLe (u v : TLevel) : Bool := !(decide (v.rank < u.rank) || decide (v.far < u.far) || decide (v.least < u.least))
def levD : TLevel := ⟨0, 0, 0⟩
def isLadder (l : List TLevel) : Bool := chOk isLevel levLe levD l l.length && inr l.length 1 5
def entOk (e : TEntry) : Bool := isFeat e.feature && inr e.tick 0 100000 && inr e.who 1 99
abbrev entLt (u e : TEntry) : Bool := decide (u.feature.id < e.feature.id)
def entD : TEntry := ⟨featD, 0, 0, false⟩
def isLog (l : List TEntry) : Bool := chOk entOk entLt entD l l.length && decide ((l.length : Int) ≤ 16)
theorem entOk_f {e : TEntry} (h : entOk e = false) : isFeat e.feature = false ∨ (isFeat e.feature = true ∧ inr e.tick 0 100000 = false) ∨ (isFeat e.feature = true ∧ inr e.tick 0 100000 = true ∧ inr e.who 1 99 = false) := by
  revert h
  unfold entOk
  cases isFeat e.feature <;> cases inr e.tick 0 100000 <;> cases inr e.who 1 99 <;> simp
theorem entOk_t {e : TEntry} (h : entOk e = true) : isFeat e.feature = true ∧ inr e.tick 0 100000 = true ∧ inr e.who 1 99 = true := by
  revert h
  unfold entOk
  cases isFeat e.feature <;> cases inr e.tick 0 100000 <;> cases inr e.who 1 99 <;> simp
theorem levLe_cases (u v : TLevel) : (decide (v.rank < u.rank) = true ∧ levLe u v = false) ∨ (decide (v.rank < u.rank) = false ∧ decide (v.far < u.far) = true ∧ levLe u v = false) ∨ (decide (v.rank < u.rank) = false ∧ decide (v.far < u.far) = false ∧ levLe u v = !decide (v.least < u.least)) := by
  unfold levLe
  cases decide (v.rank < u.rank) <;> cases decide (v.far < u.far) <;> simp
/-! ### Editions -/
def edD : TEdition := ⟨0, [], 0⟩
def edOk (b : Int) (e : TEdition) : Bool := inr e.tick 0 100000 && isSource e.source && (e.seal_ == sealOf b e.tick e.source)
def prevSeal (l : List TEdition) (i : Nat) : Int := if i = 0 then 0 else (l.getD (i - 1) edD).seal_
theorem prevSeal_succ {l : List TEdition} {i : Nat} {x : TEdition} (h : l[i]? = some x) : prevSeal l (i + 1) = x.seal_ := by simp [prevSeal, List.getD_eq_getElem?_getD, h]
def edAt (l : List TEdition) (i : Nat) : Bool := match l[i]? with
  | none => false
  | some x => edOk (prevSeal l i) x && (i == 0 || !decide (x.tick ≤ (l.getD (i - 1) edD).tick))
def edTo (l : List TEdition) (n : Nat) : Bool := (List.range n).all (edAt l)
theorem edTo_succ (l : List TEdition) (i : Nat) : edTo l (i + 1) = (edTo l i && edAt l i) := by simp [edTo, List.range_succ]
theorem edTo_not {l : List TEdition} {i n : Nat} (h : edAt l i = false) (hi : i < n) : edTo l n = false := by
  simp only [edTo, List.all_eq_false, List.mem_range]
  exact ⟨i, hi, by simp [h]⟩
def areEd (l : List TEdition) : Bool := edTo l l.length && decide ((l.length : Int) ≤ 6)
def nEd (l : List TEdition) : Nat := if l.length ≤ 6 then l.length else 0
theorem nEd_t {l : List TEdition} {i : Nat} (h : i < nEd l) : l.length ≤ 6 ∧ nEd l = l.length := by
  unfold nEd at h ⊢
  split at h
  · rename_i hS; exact ⟨hS, by rw [if_pos hS]⟩
  · omega
theorem ed_cases {l : List TEdition} {i : Nat} {x : TEdition} (hx : l[i]? = some x) (hl : l.length ≤ 1048576) :
    (inr x.tick 0 100000 = false ∧ edAt l i = false) ∨
    (inr x.tick 0 100000 = true ∧ decide ((i : Int) > 0) = false ∧ ((isSource x.source = false ∧ edAt l i = false) ∨ (isSource x.source = true ∧ (x.seal_ == sealOf (prevSeal l i) x.tick x.source) = false ∧ edAt l i = false) ∨ (isSource x.source = true ∧ (x.seal_ == sealOf (prevSeal l i) x.tick x.source) = true ∧ edAt l i = true))) ∨
    (∃ p : TEdition, inr x.tick 0 100000 = true ∧ decide ((i : Int) > 0) = true ∧ 0 ≤ IntKind.i64.wrap ((i : Int) - 1) ∧ (l.map TEdition.en)[(IntKind.i64.wrap ((i : Int) - 1)).toNat]? = some p.en ∧
      ((decide (x.tick ≤ p.tick) = true ∧ edAt l i = false ∧ (isSource x.source = false ∨ (isSource x.source = true ∧ (x.seal_ == sealOf (prevSeal l i) x.tick x.source) = false) ∨ (isSource x.source = true ∧ (x.seal_ == sealOf (prevSeal l i) x.tick x.source) = true))) ∨
       (decide (x.tick ≤ p.tick) = false ∧ ((isSource x.source = false ∧ edAt l i = false) ∨ (isSource x.source = true ∧ (x.seal_ == sealOf (prevSeal l i) x.tick x.source) = false ∧ edAt l i = false) ∨ (isSource x.source = true ∧ (x.seal_ == sealOf (prevSeal l i) x.tick x.source) = true ∧ edAt l i = true))))) := by
  have hi := (List.getElem?_eq_some_iff.1 hx).1
  have ea : edAt l i = (edOk (prevSeal l i) x && (i == 0 || !decide (x.tick ≤ (l.getD (i - 1) edD).tick))) := by simp [edAt, hx]
  rw [ea]
  unfold edOk
  cases hA : inr x.tick 0 100000
  · exact .inl ⟨rfl, by simp⟩
  · right
    rcases Nat.eq_zero_or_pos i with h0 | h0
    · left
      have e0 : (i == 0) = true := by simp [h0]
      rw [e0]
      refine ⟨rfl, by simp; omega, ?_⟩
      cases isSource x.source <;> cases (x.seal_ == sealOf (prevSeal l i) x.tick x.source) <;> simp
    · right
      have e0 : (i == 0) = false := by simp; omega
      have e : IntKind.i64.wrap ((i : Int) - 1) = ((i - 1 : Nat) : Int) := by rw [w64 (by omega) (by omega)]; omega
      rw [e0]
      refine ⟨l.getD (i - 1) edD, rfl, decide_eq_true (by omega), by omega, ?_, ?_⟩
      · rw [e, Int.toNat_natCast, List.getElem?_map, List.getElem?_eq_getElem (show i - 1 < l.length by omega)]
        simp [List.getD_eq_getElem?_getD, List.getElem?_eq_getElem (show i - 1 < l.length by omega)]
      · cases decide (x.tick ≤ (l.getD (i - 1) edD).tick) <;> cases isSource x.source <;> cases (x.seal_ == sealOf (prevSeal l i) x.tick x.source) <;> simp
/-! ### Atlases -/
def ticks {α : Type} (tk : α → Int) (now : Int) (l : List α) (i : Nat) : Bool := (l.take i).all fun e => !decide (tk e > now)
theorem ticks_succ {α : Type} {tk : α → Int} {now : Int} {l : List α} {i : Nat} {x : α} (h : l[i]? = some x) : ticks tk now l (i + 1) = (ticks tk now l i && !decide (tk x > now)) := by simp [ticks, take_succ_of h]
theorem ticks_not {α : Type} {tk : α → Int} {now : Int} {l : List α} {i : Nat} {x : α} (h : l[i]? = some x) (hx : decide (tk x > now) = true) : ticks tk now l l.length = false := by
  rw [ticks, List.take_length, List.all_eq_false]
  exact ⟨x, List.mem_of_getElem? h, by rw [hx]; simp⟩
def atlIn (a : TAtlas) : Bool := isLog a.log && isLadder a.levels && areEd a.editions && isCover a.cover.w a.cover.h a.cover.cells && inr a.now 0 100000
def isAtl (a : TAtlas) : Bool := ticks TEntry.tick a.now a.log a.log.length && ticks TEdition.tick a.now a.editions a.editions.length && atlIn a
def TAtlas.gd (a : TAtlas) : Prop := (a.log.length ≤ 1048576 ∧ ∀ e ∈ a.log, e.feature.gd) ∧ a.levels.length ≤ 1048576 ∧ (a.editions.length ≤ 1048576 ∧ ∀ e ∈ a.editions, e.source.length ≤ 1048576 ∧ ∀ x ∈ e.source, x.gd) ∧ a.cover.cells.size ≤ maxLen
theorem atl_f {a : TAtlas} (h : (!isLog a.log || !isLadder a.levels || !areEd a.editions || !isCover a.cover.w a.cover.h a.cover.cells || !inr a.now 0 100000) = true) : isAtl a = false := by
  unfold isAtl atlIn
  revert h
  cases isLog a.log <;> cases isLadder a.levels <;> cases areEd a.editions <;> cases isCover a.cover.w a.cover.h a.cover.cells <;> cases inr a.now 0 100000 <;> simp
theorem gdA_of {a : TAtlas} (h1 : a.sm) (h2 : a.ok) : a.gd := by
  obtain ⟨⟨s1, s2⟩, s3, s4, s5⟩ := h1
  obtain ⟨⟨_, k2⟩, _, ⟨_, k4⟩, ⟨_, _, k5⟩, _⟩ := h2
  exact ⟨⟨s1, fun e he => ⟨s2 e he, (k2 e he).1.2.2.2.1⟩⟩, s3, ⟨s4, fun e he => ⟨(s5 e he).1, fun x hx => ⟨(s5 e he).2 x hx, ((k4 e he).2.1.2 x hx).2.2.2.1⟩⟩⟩, k5⟩

theorem isLevel_s (v : TLevel) : VCalls Tryz.prog 132 [.agg v.en] (fun r M => r = B (isLevel v) ∧ M = []) := by
  refine VCalls.body Tryz.func132 rfl 15 rfl (fun E => ?_)
  simp only [List.reduceReplicate, List.cons_append, List.nil_append]
  dsimp only [TLevel.en]
  repeat' ((first
    | ((with_reducible show AL ..); first | refine AL.any ?_ | refine AL.any (h := POp.k Tryz.func77 (hc := inr_s _ _ _)) ?_ | refine AL.U ?_ | refine AL.F ?_ | refine AL.T ?_ | refine AL.T (h := POp.k Tryz.func77 (hc := inr_s _ _ _)) ?_ | refine AL.W ?_ | refine AL.W (h := fun h => by (try rw [h]); exact POp.k Tryz.func77 (hc := inr_s _ _ _)) ?_ | refine AL.nil ?_)
    | ((with_reducible show AW ..); first | refine AW.seq ?_ | refine AW.region ?_ | refine AW.skip ?_ | refine AW.block ?_ | refine AW.exit ?_ | refine AW.ret ?_)) <;> (try dsimp only))
  all_goals exact Fin.one rfl (RV.tmp (by rfl)) (clo_c _) ⟨by first | rfl | (simp only [isLevel, Bool.and_assoc]; done), rfl⟩

theorem isLevel_i (v : TLevel) : VCalls Tryz.prog 134 [.agg v.en] (fun r M => r = B (isLevel v) ∧ M = []) := by
  refine VCalls.body Tryz.func134 rfl 15 rfl (fun E => ?_)
  simp only [List.reduceReplicate, List.cons_append, List.nil_append]
  dsimp only [TLevel.en]
  repeat' ((first
    | ((with_reducible show AL ..); first | refine AL.any ?_ | refine AL.any (h := POp.k Tryz.func78 (hc := inr_v _ _ _)) ?_ | refine AL.U ?_ | refine AL.F ?_ | refine AL.T ?_ | refine AL.T (h := POp.k Tryz.func78 (hc := inr_v _ _ _)) ?_ | refine AL.W ?_ | refine AL.W (h := fun h => by (try rw [h]); exact POp.k Tryz.func78 (hc := inr_v _ _ _)) ?_ | refine AL.nil ?_)
    | ((with_reducible show AW ..); first | refine AW.seq ?_ | refine AW.region ?_ | refine AW.skip ?_ | refine AW.block ?_ | refine AW.exit ?_ | refine AW.ret ?_)) <;> (try dsimp only))
  all_goals exact Fin.one rfl (RV.tmp (by rfl)) (clo_c _) ⟨by first | rfl | (simp only [isLevel, Bool.and_assoc]; done), rfl⟩

theorem isLadder_s (l : List TLevel) (hl : l.length ≤ 1048576) : VCalls Tryz.prog 103 [.ro 3 (l.map TLevel.en)] (fun r M => r = B (isLadder l) ∧ M = []) := by
  refine VCalls.bodyE Tryz.func103 rfl 64 rfl (fun E hE => ?_)
  simp only [List.reduceReplicate, List.cons_append, List.nil_append]
  have hclo : Clo (.ro 3 (l.map TLevel.en)) := clo_list TLevel.clo_en
  repeat' ((first
    | ((with_reducible show AL ..); first | refine AL.any ?_ | refine AL.any (h := POp.k Tryz.func77 (hc := inr_s _ _ _)) ?_ | refine AL.U ?_ | refine AL.F ?_ | refine AL.T ?_ | refine AL.W ?_ | refine AL.nil ?_)
    | ((with_reducible show DL ..); first | refine DL.any ?_ | refine DL.any (h := POp.k Tryz.func132 (hc := isLevel_s x)) ?_ | refine DL.U ?_ | refine DL.F ?_ | refine DL.T ?_ | refine DL.W ?_ | refine DL.nil ?_)
    | ((with_reducible show AW ..); first | refine AW.seq ?_ | refine AW.region ?_ | refine AW.skip ?_ | (refine AW.loopD hE (fun i : Nat => (.ro 3 (l.map TLevel.en) :: .any :: .any :: I (i : Int) :: .any :: .any :: .any :: .any :: .any :: .any :: .any :: .any :: .any :: .any :: .any :: .any :: .any :: .any :: .any :: .any :: .any :: .any :: .any :: .any :: .any :: .any :: .any :: .any :: .any :: .any :: .any :: .any :: .any :: .any :: .any :: .any :: .any :: .any :: .any :: .any :: .any :: .any :: .any :: .any :: .any :: .any :: .any :: .any :: .any :: .any :: .any :: .any :: .any :: .any :: .any :: .any :: .any :: .any :: .any :: .any :: .any :: .any :: .any :: .any :: .any :: [])) (fun i => []) (fun i => l.length - i) (fun i => i ≤ l.length ∧ chOk isLevel levLe levD l i = true) 0 (by simp [chOk]) ?_ (by first | rfl | (simp [fil_zero]; done)) ?_) | refine AW.dr (id := 4) 48 ?_ | refine AW.cT ?_ | refine AW.cF ?_ | (refine AW.c2 ?_ ?_ <;> (intro h; try simp only [bT, bF] at h)) | refine AW.block ?_ | refine AW.exit ?_ | refine AW.ret ?_)
    | with_reducible refine ifP ?_
    | with_reducible refine ifN ?_) <;> (try dsimp only))
  · (repeat' (first | exact Wk.nil | refine Wk.any ?_ | (with_reducible refine Wk.same ?_) | refine Wk.of ?_ ?_)) <;> first | rfl | (simp)
  · intro i hi
    have hclo : Clo (.ro 3 (l.map TLevel.en)) := clo_list TLevel.clo_en
    by_cases hlt : i < l.length
    · obtain ⟨x, hx⟩ : ∃ x, l[i]? = some x := ⟨_, List.getElem?_eq_getElem hlt⟩
      have hg := map_get (f := TLevel.en) hx
      have ht := lt_true (f := TLevel.en) hlt
      have hn := next_ix hlt (by omega)
      have hsu := chOk_succ isLevel levLe levD l i
      rcases ch_cases isLevel levLe levD TLevel.en hx hl with ⟨hI, hk⟩ | ⟨hI, hz, hk⟩ | ⟨hI, hz, h0, hp0, hk⟩
      rotate_left 2
      generalize l.getD (i - 1) levD = p at hp0 hk
      rcases levLe_cases p x with ⟨q1, q4⟩ | ⟨q1, q2, q4⟩ | ⟨q1, q2, q4⟩
      all_goals try rw [q4] at hk
      repeat' ((first
        | ((with_reducible show AL ..); first | refine AL.any ?_ | refine AL.any (h := POp.k Tryz.func77 (hc := inr_s _ _ _)) ?_ | refine AL.U ?_ | refine AL.F ?_ | refine AL.T ?_ | refine AL.W ?_ | refine AL.nil ?_)
        | ((with_reducible show DL ..); first | refine DL.any ?_ | refine DL.any (h := POp.k Tryz.func132 (hc := isLevel_s x)) ?_ | refine DL.U ?_ | refine DL.F ?_ | refine DL.T ?_ | refine DL.W ?_ | refine DL.nil ?_)
        | ((with_reducible show AW ..); first | refine AW.seq ?_ | refine AW.region ?_ | refine AW.skip ?_ | refine AW.dr (id := 4) 48 ?_ | refine AW.cT ?_ | refine AW.cF ?_ | (refine AW.c2 ?_ ?_ <;> (intro h; try simp only [bT, bF] at h)) | refine AW.block ?_ | refine AW.exit ?_ | refine AW.ret ?_)
        | with_reducible refine ifP ?_
        | with_reducible refine ifN ?_) <;> (try dsimp only))
      all_goals first
        | (refine ⟨i + 1, _, ⟨hlt, by simp_all⟩, by omega, ?_, rfl, ?_, ?_⟩; (focus ((repeat' (first | exact Wk.nil | refine Wk.any ?_ | (with_reducible refine Wk.same ?_) | refine Wk.of ?_ ?_)) <;> (simp_all))); (focus ((repeat' (first | exact Fits.nil _ | refine Fits.cons ?_ ?_ | exact Fits.any _ | exact Fits.c _ _ | exact Fits.own (by rfl) | exact Fits.ref (by rfl) | exact Fits.clo (by assumption) | exact Fits.clo (clo_of (by rfl)) | exact Fits.clo (clo_fn _))))); (focus (exact FitsM.nil _)))
        | exact Fin.one rfl (RV.tmp (by rfl)) (clo_c _) ⟨by have hn := chOk_not (ok := isLevel) (lt := levLe) (d := levD) (n := l.length) (by simp_all : chAt isLevel levLe levD l i = false) hlt; simp_all [isLadder], rfl⟩
    · have ht := lt_false (f := TLevel.en) hlt
      have e : i = l.length := by omega
      subst e
      try rw [List.take_length]
      repeat' ((first
        | ((with_reducible show AL ..); first | refine AL.any ?_ | refine AL.any (h := POp.k Tryz.func77 (hc := inr_s _ _ _)) ?_ | refine AL.U ?_ | refine AL.F ?_ | refine AL.T ?_ | refine AL.W ?_ | refine AL.nil ?_)
        | ((with_reducible show DL ..); first | refine DL.any ?_ | refine DL.any (h := POp.k Tryz.func132 (hc := isLevel_s x)) ?_ | refine DL.U ?_ | refine DL.F ?_ | refine DL.T ?_ | refine DL.W ?_ | refine DL.nil ?_)
        | ((with_reducible show AW ..); first | refine AW.seq ?_ | refine AW.region ?_ | refine AW.skip ?_ | refine AW.dr (id := 4) 48 ?_ | refine AW.cT ?_ | refine AW.cF ?_ | (refine AW.c2 ?_ ?_ <;> (intro h; try simp only [bT, bF] at h)) | refine AW.block ?_ | refine AW.exit ?_ | refine AW.ret ?_)
        | with_reducible refine ifP ?_
        | with_reducible refine ifN ?_) <;> (try dsimp only))
      all_goals exact Fin.one rfl (RV.tmp (by rfl)) (clo_c _) ⟨by simp_all [isLadder], rfl⟩

theorem isLadder_i (l : List TLevel) (hl : l.length ≤ 1048576) : VCalls Tryz.prog 106 [.ro 3 (l.map TLevel.en)] (fun r M => r = B (isLadder l) ∧ M = []) := by
  refine VCalls.bodyE Tryz.func106 rfl 56 rfl (fun E hE => ?_)
  simp only [List.reduceReplicate, List.cons_append, List.nil_append]
  have hclo : Clo (.ro 3 (l.map TLevel.en)) := clo_list TLevel.clo_en
  repeat' ((first
    | ((with_reducible show AL ..); first | refine AL.any ?_ | refine AL.any (h := POp.k Tryz.func78 (hc := inr_v _ _ _)) ?_ | refine AL.U ?_ | refine AL.F ?_ | refine AL.T ?_ | refine AL.W ?_ | refine AL.nil ?_)
    | ((with_reducible show DL ..); first | refine DL.any ?_ | refine DL.any (h := POp.k Tryz.func134 (hc := isLevel_i x)) ?_ | refine DL.U ?_ | refine DL.F ?_ | refine DL.T ?_ | refine DL.W ?_ | refine DL.nil ?_)
    | ((with_reducible show AW ..); first | refine AW.seq ?_ | refine AW.region ?_ | refine AW.skip ?_ | (refine AW.loopD hE (fun i : Nat => [.ro 3 (l.map TLevel.en), .any, .any, .any, .any, .any, .any, .any, .any, .ro 3 (l.map TLevel.en), I ((l.map TLevel.en).length : Int), I (i : Int), .any, .any, .any, .any, .any, .any, .any, .any, .any, .any, .any, .any, .any, .any, .any, .any, .any, .any, .any, .any, .any, .any, .any, .any, .any, .any, .any, .any, .any, .any, .any, .any, .any, .any, .any, .any, .any, .any, .any, .any, .any, .any, .any, .any, .any]) (fun i => []) (fun i => l.length - i) (fun i => i ≤ l.length ∧ chOk isLevel levLe levD l i = true) 0 (by simp [chOk]) ?_ (by first | rfl | (simp [fil_zero]; done)) ?_) | refine AW.dr (id := 6) 36 ?_ | refine AW.cT ?_ | refine AW.cF ?_ | (refine AW.c2 ?_ ?_ <;> (intro h; try simp only [bT, bF] at h)) | refine AW.block ?_ | refine AW.exit ?_ | refine AW.ret ?_)
    | with_reducible refine ifP ?_
    | with_reducible refine ifN ?_) <;> (try dsimp only))
  · exact Fin.one rfl (RV.tmp (by rfl)) (clo_c _) ⟨by simp_all [isLadder], rfl⟩
  · (repeat' (first | exact Wk.nil | refine Wk.any ?_ | (with_reducible refine Wk.same ?_) | refine Wk.of ?_ ?_)) <;> first | rfl | (simp)
  · intro i hi
    have hclo : Clo (.ro 3 (l.map TLevel.en)) := clo_list TLevel.clo_en
    by_cases hlt : i < l.length
    · obtain ⟨x, hx⟩ : ∃ x, l[i]? = some x := ⟨_, List.getElem?_eq_getElem hlt⟩
      have hg := map_get (f := TLevel.en) hx
      have ht := lt_true (f := TLevel.en) hlt
      have hn := next_ix hlt (by omega)
      have hsu := chOk_succ isLevel levLe levD l i
      rcases ch_cases isLevel levLe levD TLevel.en hx hl with ⟨hI, hk⟩ | ⟨hI, hz, hk⟩ | ⟨hI, hz, h0, hp0, hk⟩
      rotate_left 2
      generalize l.getD (i - 1) levD = p at hp0 hk
      rcases levLe_cases p x with ⟨q1, q4⟩ | ⟨q1, q2, q4⟩ | ⟨q1, q2, q4⟩
      all_goals try rw [q4] at hk
      repeat' ((first
        | ((with_reducible show AL ..); first | refine AL.any ?_ | refine AL.any (h := POp.k Tryz.func78 (hc := inr_v _ _ _)) ?_ | refine AL.U ?_ | refine AL.F ?_ | refine AL.T ?_ | refine AL.W ?_ | refine AL.nil ?_)
        | ((with_reducible show DL ..); first | refine DL.any ?_ | refine DL.any (h := POp.k Tryz.func134 (hc := isLevel_i x)) ?_ | refine DL.U ?_ | refine DL.F ?_ | refine DL.T ?_ | refine DL.W ?_ | refine DL.nil ?_)
        | ((with_reducible show AW ..); first | refine AW.seq ?_ | refine AW.region ?_ | refine AW.skip ?_ | refine AW.dr (id := 6) 36 ?_ | refine AW.cT ?_ | refine AW.cF ?_ | (refine AW.c2 ?_ ?_ <;> (intro h; try simp only [bT, bF] at h)) | refine AW.block ?_ | refine AW.exit ?_ | refine AW.ret ?_)
        | with_reducible refine ifP ?_
        | with_reducible refine ifN ?_) <;> (try dsimp only))
      all_goals first
        | (refine ⟨i + 1, _, ⟨hlt, by simp_all⟩, by omega, ?_, rfl, ?_, ?_⟩; (focus ((repeat' (first | exact Wk.nil | refine Wk.any ?_ | (with_reducible refine Wk.same ?_) | refine Wk.of ?_ ?_)) <;> (simp_all))); (focus ((repeat' (first | exact Fits.nil _ | refine Fits.cons ?_ ?_ | exact Fits.any _ | exact Fits.c _ _ | exact Fits.own (by rfl) | exact Fits.ref (by rfl) | exact Fits.clo (by assumption) | exact Fits.clo (clo_of (by rfl)) | exact Fits.clo (clo_fn _))))); (focus (exact FitsM.nil _)))
        | exact Fin.one rfl (RV.tmp (by rfl)) (clo_c _) ⟨by have hn := chOk_not (ok := isLevel) (lt := levLe) (d := levD) (n := l.length) (by simp_all : chAt isLevel levLe levD l i = false) hlt; simp_all [isLadder], rfl⟩
    · have ht := lt_false (f := TLevel.en) hlt
      have e : i = l.length := by omega
      subst e
      try rw [List.take_length]
      repeat' ((first
        | ((with_reducible show AL ..); first | refine AL.any ?_ | refine AL.any (h := POp.k Tryz.func78 (hc := inr_v _ _ _)) ?_ | refine AL.U ?_ | refine AL.F ?_ | refine AL.T ?_ | refine AL.W ?_ | refine AL.nil ?_)
        | ((with_reducible show DL ..); first | refine DL.any ?_ | refine DL.any (h := POp.k Tryz.func134 (hc := isLevel_i x)) ?_ | refine DL.U ?_ | refine DL.F ?_ | refine DL.T ?_ | refine DL.W ?_ | refine DL.nil ?_)
        | ((with_reducible show AW ..); first | refine AW.seq ?_ | refine AW.region ?_ | refine AW.skip ?_ | refine AW.dr (id := 6) 36 ?_ | refine AW.cT ?_ | refine AW.cF ?_ | (refine AW.c2 ?_ ?_ <;> (intro h; try simp only [bT, bF] at h)) | refine AW.block ?_ | refine AW.exit ?_ | refine AW.ret ?_)
        | with_reducible refine ifP ?_
        | with_reducible refine ifN ?_) <;> (try dsimp only))
      all_goals exact Fin.one rfl (RV.tmp (by rfl)) (clo_c _) ⟨by simp_all [isLadder], rfl⟩

theorem isLog_s (l : List TEntry) (hl : l.length ≤ 1048576) (hp : ∀ e ∈ l, e.feature.gd) : VCalls Tryz.prog 86 [.ro 8 (l.map TEntry.en)] (fun r M => r = B (isLog l) ∧ M = []) := by
  refine VCalls.bodyE Tryz.func86 rfl 57 rfl (fun E hE => ?_)
  simp only [List.reduceReplicate, List.cons_append, List.nil_append]
  have hclo : Clo (.ro 8 (l.map TEntry.en)) := clo_list TEntry.clo_en
  repeat' ((first
    | ((with_reducible show AL ..); first | refine AL.any ?_ | refine AL.U ?_ | refine AL.F ?_ | refine AL.T ?_ | refine AL.W ?_ | refine AL.nil ?_)
    | ((with_reducible show DL ..); first | refine DL.any ?_ | refine DL.any (h := POp.k Tryz.func123 (hc := isFeat_s x.feature (by assumption))) ?_ | refine DL.U ?_ | refine DL.F ?_ | refine DL.T ?_ | refine DL.T (h := POp.k Tryz.func77 (hc := inr_s _ _ _)) ?_ | refine DL.W ?_ | refine DL.W (h := fun h => by (try rw [h]); exact POp.k Tryz.func77 (hc := inr_s _ _ _)) ?_ | refine DL.nil ?_)
    | ((with_reducible show AW ..); first | refine AW.seq ?_ | refine AW.region ?_ | refine AW.skip ?_ | (refine AW.loopD hE (fun i : Nat => [.ro 8 (l.map TEntry.en), .any, .any, I (i : Int), .any, .any, .any, .any, .any, .any, .any, .any, .any, .any, .any, .any, .any, .any, .any, .any, .any, .any, .any, .any, .any, .any, .any, .any, .any, .any, .any, .any, .any, .any, .any, .any, .any, .any, .any, .any, .any, .any, .any, .any, .any, .any, .any, .any, .any, .any, .any, .any, .any, .any, .any, .any, .any, .any]) (fun i => []) (fun i => l.length - i) (fun i => i ≤ l.length ∧ chOk entOk entLt entD l i = true) 0 (by simp [chOk]) ?_ (by first | rfl | (simp [fil_zero]; done)) ?_) | refine AW.dr (id := 4) 42 ?_ | refine AW.cT ?_ | refine AW.cF ?_ | (refine AW.c2 ?_ ?_ <;> (intro h; try simp only [bT, bF] at h)) | refine AW.block ?_ | refine AW.exit ?_ | refine AW.ret ?_)
    | with_reducible refine ifP ?_
    | with_reducible refine ifN ?_) <;> (try dsimp only))
  · (repeat' (first | exact Wk.nil | refine Wk.any ?_ | (with_reducible refine Wk.same ?_) | refine Wk.of ?_ ?_)) <;> first | rfl | (simp)
  · intro i hi
    have hclo : Clo (.ro 8 (l.map TEntry.en)) := clo_list TEntry.clo_en
    by_cases hlt : i < l.length
    · obtain ⟨x, hx⟩ : ∃ x, l[i]? = some x := ⟨_, List.getElem?_eq_getElem hlt⟩
      have hg := map_get (f := TEntry.en) hx
      have ht := lt_true (f := TEntry.en) hlt
      have hn := next_ix hlt (by omega)
      have hgx := hp x (List.mem_of_getElem? hx)
      have hsu := chOk_succ entOk entLt entD l i
      have hclP : Clo (.ro 2 (x.feature.points.map TPoint.en)) := clo_list TPoint.clo_en
      have hcle : Clo (.agg x.en) := Clo.agg x.clo_en
      have hclf : Clo (.agg x.feature.en) := Clo.agg x.feature.clo_en
      rcases ch_cases entOk entLt entD TEntry.en hx hl with ⟨hI, hk⟩ | ⟨hI, hz, hk⟩ | ⟨hI, hz, h0, hp0, hk⟩
      rotate_left 1
      all_goals first | obtain ⟨q1, q2, q3⟩ := entOk_t hI | rcases entOk_f hI with q1 | ⟨q1, q2⟩ | ⟨q1, q2, q3⟩
      repeat' ((first
        | ((with_reducible show AL ..); first | refine AL.any ?_ | refine AL.U ?_ | refine AL.F ?_ | refine AL.T ?_ | refine AL.W ?_ | refine AL.nil ?_)
        | ((with_reducible show DL ..); first | refine DL.any ?_ | refine DL.any (h := POp.k Tryz.func123 (hc := isFeat_s x.feature (by assumption))) ?_ | refine DL.U ?_ | refine DL.F ?_ | refine DL.T ?_ | refine DL.T (h := POp.k Tryz.func77 (hc := inr_s _ _ _)) ?_ | refine DL.W ?_ | refine DL.W (h := fun h => by (try rw [h]); exact POp.k Tryz.func77 (hc := inr_s _ _ _)) ?_ | refine DL.nil ?_)
        | ((with_reducible show AW ..); first | refine AW.seq ?_ | refine AW.region ?_ | refine AW.skip ?_ | refine AW.dr (id := 4) 42 ?_ | refine AW.cT ?_ | refine AW.cF ?_ | (refine AW.c2 ?_ ?_ <;> (intro h; try simp only [bT, bF] at h)) | refine AW.block ?_ | refine AW.exit ?_ | refine AW.ret ?_)
        | with_reducible refine ifP ?_
        | with_reducible refine ifN ?_) <;> (try dsimp only))
      all_goals first
        | (refine ⟨i + 1, _, ⟨hlt, by simp_all <;> omega⟩, by omega, ?_, rfl, ?_, ?_⟩; (focus ((repeat' (first | exact Wk.nil | refine Wk.any ?_ | (with_reducible refine Wk.same ?_) | refine Wk.of ?_ ?_)) <;> (simp_all))); (focus ((repeat' (first | exact Fits.nil _ | refine Fits.cons ?_ ?_ | exact Fits.any _ | exact Fits.c _ _ | exact Fits.own (by rfl) | exact Fits.ref (by rfl) | exact Fits.clo (by assumption) | exact Fits.clo (clo_of (by rfl)) | exact Fits.clo (clo_fn _))))); (focus (exact FitsM.nil _)))
        | exact Fin.one rfl (RV.tmp (by rfl)) (clo_c _) ⟨by have hn := chOk_not (ok := entOk) (lt := entLt) (d := entD) (n := l.length) (by simp_all <;> omega : chAt entOk entLt entD l i = false) hlt; simp_all [isLog], rfl⟩
    · have ht := lt_false (f := TEntry.en) hlt
      have e : i = l.length := by omega
      subst e
      try rw [List.take_length]
      repeat' ((first
        | ((with_reducible show AL ..); first | refine AL.any ?_ | refine AL.U ?_ | refine AL.F ?_ | refine AL.T ?_ | refine AL.W ?_ | refine AL.nil ?_)
        | ((with_reducible show DL ..); first | refine DL.any ?_ | refine DL.any (h := POp.k Tryz.func123 (hc := isFeat_s x.feature (by assumption))) ?_ | refine DL.U ?_ | refine DL.F ?_ | refine DL.T ?_ | refine DL.T (h := POp.k Tryz.func77 (hc := inr_s _ _ _)) ?_ | refine DL.W ?_ | refine DL.W (h := fun h => by (try rw [h]); exact POp.k Tryz.func77 (hc := inr_s _ _ _)) ?_ | refine DL.nil ?_)
        | ((with_reducible show AW ..); first | refine AW.seq ?_ | refine AW.region ?_ | refine AW.skip ?_ | refine AW.dr (id := 4) 42 ?_ | refine AW.cT ?_ | refine AW.cF ?_ | (refine AW.c2 ?_ ?_ <;> (intro h; try simp only [bT, bF] at h)) | refine AW.block ?_ | refine AW.exit ?_ | refine AW.ret ?_)
        | with_reducible refine ifP ?_
        | with_reducible refine ifN ?_) <;> (try dsimp only))
      all_goals exact Fin.one rfl (RV.tmp (by rfl)) (clo_c _) ⟨by first | (simp_all [isLog]; done) | (simp_all [isLog] <;> omega), rfl⟩

theorem isLog_i (l : List TEntry) (hl : l.length ≤ 1048576) (hp : ∀ e ∈ l, e.feature.gd) : VCalls Tryz.prog 89 [.ro 8 (l.map TEntry.en)] (fun r M => r = B (isLog l) ∧ M = []) := by
  refine VCalls.bodyE Tryz.func89 rfl 48 rfl (fun E hE => ?_)
  simp only [List.reduceReplicate, List.cons_append, List.nil_append]
  have hclo : Clo (.ro 8 (l.map TEntry.en)) := clo_list TEntry.clo_en
  repeat' ((first
    | ((with_reducible show AL ..); first | refine AL.any ?_ | refine AL.U ?_ | refine AL.F ?_ | refine AL.T ?_ | refine AL.W ?_ | refine AL.nil ?_)
    | ((with_reducible show DL ..); first | refine DL.any ?_ | refine DL.any (h := POp.k Tryz.func125 (hc := isFeat_i x.feature (by assumption))) ?_ | refine DL.U ?_ | refine DL.F ?_ | refine DL.T ?_ | refine DL.T (h := POp.k Tryz.func78 (hc := inr_v _ _ _)) ?_ | refine DL.W ?_ | refine DL.W (h := fun h => by (try rw [h]); exact POp.k Tryz.func78 (hc := inr_v _ _ _)) ?_ | refine DL.nil ?_)
    | ((with_reducible show AW ..); first | refine AW.seq ?_ | refine AW.region ?_ | refine AW.skip ?_ | (refine AW.loopD hE (fun i : Nat => [.ro 8 (l.map TEntry.en), .any, .any, .any, .any, .any, .any, .any, .ro 8 (l.map TEntry.en), I ((l.map TEntry.en).length : Int), I (i : Int), .any, .any, .any, .any, .any, .any, .any, .any, .any, .any, .any, .any, .any, .any, .any, .any, .any, .any, .any, .any, .any, .any, .any, .any, .any, .any, .any, .any, .any, .any, .any, .any, .any, .any, .any, .any, .any, .any]) (fun i => []) (fun i => l.length - i) (fun i => i ≤ l.length ∧ chOk entOk entLt entD l i = true) 0 (by simp [chOk]) ?_ (by first | rfl | (simp [fil_zero]; done)) ?_) | refine AW.dr (id := 6) 30 ?_ | refine AW.cT ?_ | refine AW.cF ?_ | (refine AW.c2 ?_ ?_ <;> (intro h; try simp only [bT, bF] at h)) | refine AW.block ?_ | refine AW.exit ?_ | refine AW.ret ?_)
    | with_reducible refine ifP ?_
    | with_reducible refine ifN ?_) <;> (try dsimp only))
  · exact Fin.one rfl (RV.tmp (by rfl)) (clo_c _) ⟨by simp_all [isLog] <;> omega, rfl⟩
  · (repeat' (first | exact Wk.nil | refine Wk.any ?_ | (with_reducible refine Wk.same ?_) | refine Wk.of ?_ ?_)) <;> first | rfl | (simp)
  · intro i hi
    have hclo : Clo (.ro 8 (l.map TEntry.en)) := clo_list TEntry.clo_en
    by_cases hlt : i < l.length
    · obtain ⟨x, hx⟩ : ∃ x, l[i]? = some x := ⟨_, List.getElem?_eq_getElem hlt⟩
      have hg := map_get (f := TEntry.en) hx
      have ht := lt_true (f := TEntry.en) hlt
      have hn := next_ix hlt (by omega)
      have hgx := hp x (List.mem_of_getElem? hx)
      have hsu := chOk_succ entOk entLt entD l i
      have hclP : Clo (.ro 2 (x.feature.points.map TPoint.en)) := clo_list TPoint.clo_en
      have hcle : Clo (.agg x.en) := Clo.agg x.clo_en
      have hclf : Clo (.agg x.feature.en) := Clo.agg x.feature.clo_en
      rcases ch_cases entOk entLt entD TEntry.en hx hl with ⟨hI, hk⟩ | ⟨hI, hz, hk⟩ | ⟨hI, hz, h0, hp0, hk⟩
      rotate_left 1
      all_goals first | obtain ⟨q1, q2, q3⟩ := entOk_t hI | rcases entOk_f hI with q1 | ⟨q1, q2⟩ | ⟨q1, q2, q3⟩
      repeat' ((first
        | ((with_reducible show AL ..); first | refine AL.any ?_ | refine AL.U ?_ | refine AL.F ?_ | refine AL.T ?_ | refine AL.W ?_ | refine AL.nil ?_)
        | ((with_reducible show DL ..); first | refine DL.any ?_ | refine DL.any (h := POp.k Tryz.func125 (hc := isFeat_i x.feature (by assumption))) ?_ | refine DL.U ?_ | refine DL.F ?_ | refine DL.T ?_ | refine DL.T (h := POp.k Tryz.func78 (hc := inr_v _ _ _)) ?_ | refine DL.W ?_ | refine DL.W (h := fun h => by (try rw [h]); exact POp.k Tryz.func78 (hc := inr_v _ _ _)) ?_ | refine DL.nil ?_)
        | ((with_reducible show AW ..); first | refine AW.seq ?_ | refine AW.region ?_ | refine AW.skip ?_ | refine AW.dr (id := 6) 30 ?_ | refine AW.cT ?_ | refine AW.cF ?_ | (refine AW.c2 ?_ ?_ <;> (intro h; try simp only [bT, bF] at h)) | refine AW.block ?_ | refine AW.exit ?_ | refine AW.ret ?_)
        | with_reducible refine ifP ?_
        | with_reducible refine ifN ?_) <;> (try dsimp only))
      all_goals first
        | (refine ⟨i + 1, _, ⟨hlt, by simp_all <;> omega⟩, by omega, ?_, rfl, ?_, ?_⟩; (focus ((repeat' (first | exact Wk.nil | refine Wk.any ?_ | (with_reducible refine Wk.same ?_) | refine Wk.of ?_ ?_)) <;> (simp_all))); (focus ((repeat' (first | exact Fits.nil _ | refine Fits.cons ?_ ?_ | exact Fits.any _ | exact Fits.c _ _ | exact Fits.own (by rfl) | exact Fits.ref (by rfl) | exact Fits.clo (by assumption) | exact Fits.clo (clo_of (by rfl)) | exact Fits.clo (clo_fn _))))); (focus (exact FitsM.nil _)))
        | exact Fin.one rfl (RV.tmp (by rfl)) (clo_c _) ⟨by have hn := chOk_not (ok := entOk) (lt := entLt) (d := entD) (n := l.length) (by simp_all <;> omega : chAt entOk entLt entD l i = false) hlt; simp_all [isLog], rfl⟩
    · have ht := lt_false (f := TEntry.en) hlt
      have e : i = l.length := by omega
      subst e
      try rw [List.take_length]
      repeat' ((first
        | ((with_reducible show AL ..); first | refine AL.any ?_ | refine AL.U ?_ | refine AL.F ?_ | refine AL.T ?_ | refine AL.W ?_ | refine AL.nil ?_)
        | ((with_reducible show DL ..); first | refine DL.any ?_ | refine DL.any (h := POp.k Tryz.func125 (hc := isFeat_i x.feature (by assumption))) ?_ | refine DL.U ?_ | refine DL.F ?_ | refine DL.T ?_ | refine DL.T (h := POp.k Tryz.func78 (hc := inr_v _ _ _)) ?_ | refine DL.W ?_ | refine DL.W (h := fun h => by (try rw [h]); exact POp.k Tryz.func78 (hc := inr_v _ _ _)) ?_ | refine DL.nil ?_)
        | ((with_reducible show AW ..); first | refine AW.seq ?_ | refine AW.region ?_ | refine AW.skip ?_ | refine AW.dr (id := 6) 30 ?_ | refine AW.cT ?_ | refine AW.cF ?_ | (refine AW.c2 ?_ ?_ <;> (intro h; try simp only [bT, bF] at h)) | refine AW.block ?_ | refine AW.exit ?_ | refine AW.ret ?_)
        | with_reducible refine ifP ?_
        | with_reducible refine ifN ?_) <;> (try dsimp only))
      all_goals exact Fin.one rfl (RV.tmp (by rfl)) (clo_c _) ⟨by first | (simp_all [isLog]; done) | (simp_all [isLog] <;> omega), rfl⟩

theorem isCover_s (w g : Int) (s : ByteArray) (hs : s.size ≤ maxLen) : VCalls Tryz.prog 105 [.agg [I w, I g, S s]] (fun r M => r = B (isCover w g s) ∧ M = []) := by
  refine VCalls.bodyE Tryz.func105 rfl 43 rfl (fun E hE => ?_)
  simp only [List.reduceReplicate, List.cons_append, List.nil_append]
  rw [maxLen_eq] at hs
  repeat' ((first
    | ((with_reducible show AL ..); first | refine AL.any ?_ | refine AL.any (h := POp.k Tryz.func77 (hc := inr_s _ _ _)) ?_ | refine AL.U ?_ | refine AL.F ?_ | refine AL.T ?_ | refine AL.T (h := POp.k Tryz.func77 (hc := inr_s _ _ _)) ?_ | refine AL.W ?_ | refine AL.W (h := fun h => by (try rw [h]); exact POp.k Tryz.func77 (hc := inr_s _ _ _)) ?_ | refine AL.nil ?_)
    | ((with_reducible show AW ..); first | refine AW.seq ?_ | refine AW.region ?_ | refine AW.skip ?_ | (refine AW.loopD hE (fun i : Nat => [.agg [I w, I g, S s], .ref 0 0 3 0 0, .any, I (i : Int), .any, .any, .any, .any, .any, .any, .any, .any, .any, .any, .any, .any, .any, .any, .any, .any, .any, .any, .any, .any, .any, .any, .any, .any, .any, .any, .any, .any, .any, .any, .any, .any, .any, .any, .any, .any, .any, .any, .any, .any]) (fun i => [some ⟨30, 3, 0, true, [[I w, I g, S s]]⟩]) (fun i => s.size - i) (fun i => i ≤ s.size ∧ covTo s i = true) 0 ⟨Nat.zero_le _, by simp [covTo]⟩ ?_ (by first | rfl | (simp [fil_zero]; done)) ?_) | refine AW.cT ?_ | refine AW.cF ?_ | (refine AW.c2 ?_ ?_ <;> (intro h; try simp only [bT, bF] at h)) | refine AW.block ?_ | refine AW.exit ?_ | refine AW.ret ?_)
    | with_reducible refine ifP ?_
    | with_reducible refine ifN ?_) <;> (try dsimp only))
  · exact Fin.one rfl (RV.tmp (by rfl)) (clo_c _) ⟨by simp only [isCover]; revert h; cases inr w 1 6 <;> cases inr g 1 6 <;> simp <;> simp_all, rfl⟩
  · (repeat' (first | exact Wk.nil | refine Wk.any ?_ | (with_reducible refine Wk.same ?_) | refine Wk.of ?_ ?_)) <;> first | rfl | (simp)
  · intro i hi
    by_cases hlt : i < s.size
    · skip
      obtain ⟨b, hb, hb'⟩ := str_get hlt
      have ht := str_lt hlt
      have hn := next_ix hlt (by omega)
      have hc := covAt_some hb
      have hsu := covTo_succ s i
      repeat' ((first
        | ((with_reducible show AL ..); first | refine AL.any ?_ | refine AL.any (h := POp.k Tryz.func77 (hc := inr_s _ _ _)) ?_ | refine AL.U ?_ | refine AL.F ?_ | refine AL.T ?_ | refine AL.T (h := POp.k Tryz.func77 (hc := inr_s _ _ _)) ?_ | refine AL.W ?_ | refine AL.W (h := fun h => by (try rw [h]); exact POp.k Tryz.func77 (hc := inr_s _ _ _)) ?_ | refine AL.nil ?_)
        | ((with_reducible show AW ..); first | refine AW.seq ?_ | refine AW.region ?_ | refine AW.skip ?_ | refine AW.cT ?_ | refine AW.cF ?_ | (refine AW.c2 ?_ ?_ <;> (intro h; try simp only [bT, bF] at h)) | refine AW.block ?_ | refine AW.exit ?_ | refine AW.ret ?_)
        | with_reducible refine ifP ?_
        | with_reducible refine ifN ?_) <;> (try dsimp only))
      all_goals first
        | (refine ⟨i + 1, [], ⟨hlt, by simp_all⟩, by omega, ?_, rfl, ?_, ?_⟩; (focus ((repeat' (first | exact Wk.nil | refine Wk.any ?_ | (with_reducible refine Wk.same ?_) | refine Wk.of ?_ ?_)) <;> (simp_all))); (focus ((repeat' (first | exact Fits.nil _ | refine Fits.cons ?_ ?_ | exact Fits.any _ | exact Fits.c _ _ | exact Fits.own (by rfl) | exact Fits.ref (by rfl) | exact Fits.clo (by assumption) | exact Fits.clo (clo_of (by rfl)) | exact Fits.clo (clo_fn _))))); (focus (exact fits_row (clo_rows_b rfl))))
        | exact Fin.one rfl (RV.tmp (by rfl)) (clo_c _) ⟨by have hn := covTo_not (n := s.size) (by simp_all : covAt s i = false) hlt; simp_all [isCover], rfl⟩
    · have e : i = s.size := by omega
      have ht := str_ge hlt
      subst e
      repeat' ((first
        | ((with_reducible show AL ..); first | refine AL.any ?_ | refine AL.any (h := POp.k Tryz.func77 (hc := inr_s _ _ _)) ?_ | refine AL.U ?_ | refine AL.F ?_ | refine AL.T ?_ | refine AL.T (h := POp.k Tryz.func77 (hc := inr_s _ _ _)) ?_ | refine AL.W ?_ | refine AL.W (h := fun h => by (try rw [h]); exact POp.k Tryz.func77 (hc := inr_s _ _ _)) ?_ | refine AL.nil ?_)
        | ((with_reducible show AW ..); first | refine AW.seq ?_ | refine AW.region ?_ | refine AW.skip ?_ | refine AW.cT ?_ | refine AW.cF ?_ | (refine AW.c2 ?_ ?_ <;> (intro h; try simp only [bT, bF] at h)) | refine AW.block ?_ | refine AW.exit ?_ | refine AW.ret ?_)
        | with_reducible refine ifP ?_
        | with_reducible refine ifN ?_) <;> (try dsimp only))
      all_goals exact Fin.one rfl (RV.tmp (by rfl)) (clo_c _) ⟨by simp_all [isCover], rfl⟩

theorem isCover_i (w g : Int) (s : ByteArray) (hs : s.size ≤ maxLen) : VCalls Tryz.prog 108 [.agg [I w, I g, S s]] (fun r M => r = B (isCover w g s) ∧ M = []) := by
  refine VCalls.bodyE Tryz.func108 rfl 43 rfl (fun E hE => ?_)
  simp only [List.reduceReplicate, List.cons_append, List.nil_append]
  rw [maxLen_eq] at hs
  repeat' ((first
    | ((with_reducible show AL ..); first | refine AL.any ?_ | refine AL.any (h := POp.k Tryz.func78 (hc := inr_v _ _ _)) ?_ | refine AL.U ?_ | refine AL.F ?_ | refine AL.T ?_ | refine AL.T (h := POp.k Tryz.func78 (hc := inr_v _ _ _)) ?_ | refine AL.W ?_ | refine AL.W (h := fun h => by (try rw [h]); exact POp.k Tryz.func78 (hc := inr_v _ _ _)) ?_ | refine AL.nil ?_)
    | ((with_reducible show AW ..); first | refine AW.seq ?_ | refine AW.region ?_ | refine AW.skip ?_ | (refine AW.loopD hE (fun i : Nat => [.agg [I w, I g, S s], .ref 0 0 3 0 0, .any, .any, .any, .any, .any, .any, .any, .any, .any, .any, .any, .any, .any, .any, .any, .any, .any, .any, .any, .any, .any, .any, .any, .any, .any, I (s.size : Int), I (i : Int), .any, .any, .any, .any, .any, .any, .any, .any, .any, .any, .any, .any, .any, .any, .any]) (fun i => [some ⟨30, 3, 0, true, [[I w, I g, S s]]⟩]) (fun i => s.size - i) (fun i => i ≤ s.size ∧ covTo s i = true) 0 ⟨Nat.zero_le _, by simp [covTo]⟩ ?_ (by first | rfl | (simp [fil_zero]; done)) ?_) | refine AW.cT ?_ | refine AW.cF ?_ | (refine AW.c2 ?_ ?_ <;> (intro h; try simp only [bT, bF] at h)) | refine AW.block ?_ | refine AW.exit ?_ | refine AW.ret ?_)
    | with_reducible refine ifP ?_
    | with_reducible refine ifN ?_) <;> (try dsimp only))
  · exact Fin.one rfl (RV.tmp (by rfl)) (clo_c _) ⟨by simp only [isCover]; revert h; cases inr w 1 6 <;> cases inr g 1 6 <;> simp <;> simp_all, rfl⟩
  · (repeat' (first | exact Wk.nil | refine Wk.any ?_ | (with_reducible refine Wk.same ?_) | refine Wk.of ?_ ?_)) <;> first | rfl | (simp)
  · intro i hi
    by_cases hlt : i < s.size
    · skip
      obtain ⟨b, hb, hb'⟩ := str_get hlt
      have ht := str_lt hlt
      have hn := next_ix hlt (by omega)
      have hc := covAt_some hb
      have hsu := covTo_succ s i
      repeat' ((first
        | ((with_reducible show AL ..); first | refine AL.any ?_ | refine AL.any (h := POp.k Tryz.func78 (hc := inr_v _ _ _)) ?_ | refine AL.U ?_ | refine AL.F ?_ | refine AL.T ?_ | refine AL.T (h := POp.k Tryz.func78 (hc := inr_v _ _ _)) ?_ | refine AL.W ?_ | refine AL.W (h := fun h => by (try rw [h]); exact POp.k Tryz.func78 (hc := inr_v _ _ _)) ?_ | refine AL.nil ?_)
        | ((with_reducible show AW ..); first | refine AW.seq ?_ | refine AW.region ?_ | refine AW.skip ?_ | refine AW.cT ?_ | refine AW.cF ?_ | (refine AW.c2 ?_ ?_ <;> (intro h; try simp only [bT, bF] at h)) | refine AW.block ?_ | refine AW.exit ?_ | refine AW.ret ?_)
        | with_reducible refine ifP ?_
        | with_reducible refine ifN ?_) <;> (try dsimp only))
      all_goals first
        | (refine ⟨i + 1, [], ⟨hlt, by simp_all⟩, by omega, ?_, rfl, ?_, ?_⟩; (focus ((repeat' (first | exact Wk.nil | refine Wk.any ?_ | (with_reducible refine Wk.same ?_) | refine Wk.of ?_ ?_)) <;> (simp_all))); (focus ((repeat' (first | exact Fits.nil _ | refine Fits.cons ?_ ?_ | exact Fits.any _ | exact Fits.c _ _ | exact Fits.own (by rfl) | exact Fits.ref (by rfl) | exact Fits.clo (by assumption) | exact Fits.clo (clo_of (by rfl)) | exact Fits.clo (clo_fn _))))); (focus (exact fits_row (clo_rows_b rfl))))
        | exact Fin.one rfl (RV.tmp (by rfl)) (clo_c _) ⟨by have hn := covTo_not (n := s.size) (by simp_all : covAt s i = false) hlt; simp_all [isCover], rfl⟩
    · have e : i = s.size := by omega
      have ht := str_ge hlt
      subst e
      repeat' ((first
        | ((with_reducible show AL ..); first | refine AL.any ?_ | refine AL.any (h := POp.k Tryz.func78 (hc := inr_v _ _ _)) ?_ | refine AL.U ?_ | refine AL.F ?_ | refine AL.T ?_ | refine AL.T (h := POp.k Tryz.func78 (hc := inr_v _ _ _)) ?_ | refine AL.W ?_ | refine AL.W (h := fun h => by (try rw [h]); exact POp.k Tryz.func78 (hc := inr_v _ _ _)) ?_ | refine AL.nil ?_)
        | ((with_reducible show AW ..); first | refine AW.seq ?_ | refine AW.region ?_ | refine AW.skip ?_ | refine AW.cT ?_ | refine AW.cF ?_ | (refine AW.c2 ?_ ?_ <;> (intro h; try simp only [bT, bF] at h)) | refine AW.block ?_ | refine AW.exit ?_ | refine AW.ret ?_)
        | with_reducible refine ifP ?_
        | with_reducible refine ifN ?_) <;> (try dsimp only))
      all_goals exact Fin.one rfl (RV.tmp (by rfl)) (clo_c _) ⟨by simp_all [isCover], rfl⟩

theorem areEd_s (l : List TEdition) (hl : l.length ≤ 1048576) (hp : ∀ e ∈ l, e.source.length ≤ 1048576 ∧ ∀ x ∈ e.source, x.gd) : VCalls Tryz.prog 104 [.ro 3 (l.map TEdition.en)] (fun r M => r = B (areEd l) ∧ M = []) := by
  refine VCalls.bodyE Tryz.func104 rfl 73 rfl (fun E hE => ?_)
  simp only [List.reduceReplicate, List.cons_append, List.nil_append]
  have hclo : Clo (.ro 3 (l.map TEdition.en)) := clo_list TEdition.clo_en
  repeat' ((first
    | ((with_reducible show AL ..); first | refine AL.any ?_ | refine AL.any (h := POp.k Tryz.func118 (hc := seal_s (prevSeal l i) x.tick x.source (by assumption) (by assumption))) ?_ | refine AL.U ?_ | refine AL.F ?_ | refine AL.T ?_ | refine AL.W ?_ | refine AL.nil ?_)
    | ((with_reducible show DL ..); first | refine DL.any ?_ | refine DL.any (h := POp.k Tryz.func77 (hc := inr_s _ _ _)) ?_ | refine DL.U ?_ | refine DL.F ?_ | refine DL.T ?_ | refine DL.T (h := POp.k Tryz.func133 (hc := isSource_s x.source (by assumption) (by assumption))) ?_ | refine DL.W ?_ | refine DL.W (h := fun h => by (try rw [h]); exact POp.k Tryz.func133 (hc := isSource_s x.source (by assumption) (by assumption))) ?_ | refine DL.nil ?_)
    | ((with_reducible show AW ..); first | refine AW.seq ?_ | refine AW.region ?_ | refine AW.skip ?_ | (refine AW.loopD hE (fun i : Nat => (.ro 3 (l.map TEdition.en) :: .any :: .any :: I (prevSeal l i) :: I (i : Int) :: .any :: .any :: .any :: .any :: .any :: .any :: .any :: .any :: .any :: .any :: .any :: .any :: .any :: .any :: .any :: .any :: .any :: .any :: .any :: .any :: .any :: .any :: .any :: .any :: .any :: .any :: .any :: .any :: .any :: .any :: .any :: .any :: .any :: .any :: .any :: .any :: .any :: .any :: .any :: .any :: .any :: .any :: .any :: .any :: .any :: .any :: .any :: .any :: .any :: .any :: .any :: .any :: .any :: .any :: .any :: .any :: .any :: .any :: .any :: .any :: .any :: .any :: .any :: .any :: .any :: .any :: .any :: .any :: .any :: [])) (fun i => []) (fun i => nEd l - i) (fun i => i ≤ nEd l ∧ edTo l i = true) 0 ⟨Nat.zero_le _, by simp [edTo]⟩ ?_ (by first | rfl | (simp [fil_zero]; done)) ?_) | refine AW.dr (id := 5) 11 ?_ | refine AW.dr (id := 6) 40 ?_ | refine AW.cT ?_ | refine AW.cF ?_ | (refine AW.c2 ?_ ?_ <;> (intro h; try simp only [bT, bF] at h)) | refine AW.block ?_ | refine AW.exit ?_ | refine AW.ret ?_)
    | with_reducible refine ifP ?_
    | with_reducible refine ifN ?_) <;> (try dsimp only))
  · (repeat' (first | exact Wk.nil | refine Wk.any ?_ | (with_reducible refine Wk.same ?_) | refine Wk.of ?_ ?_)) <;> first | rfl | (simp [prevSeal])
  · intro i hi
    have hclo : Clo (.ro 3 (l.map TEdition.en)) := clo_list TEdition.clo_en
    by_cases hlt : i < nEd l
    · skip
      obtain ⟨hN, hE6⟩ := nEd_t hlt
      obtain ⟨x, hx⟩ : ∃ x, l[i]? = some x := ⟨_, List.getElem?_eq_getElem (by omega)⟩
      have hg := map_get (f := TEdition.en) hx
      have ht : (decide ((i : Int) < ((l.map TEdition.en).length : Int)) && decide (((l.map TEdition.en).length : Int) ≤ 6)) = true := by simp; omega
      have hn := next_ix hlt (by omega)
      obtain ⟨hsl, hsx⟩ := hp x (List.mem_of_getElem? hx)
      have hsu := edTo_succ l i
      have hps := prevSeal_succ hx
      have hclS : Clo (.ro 5 (x.source.map TFeature.en)) := clo_list TFeature.clo_en
      have hcle : Clo (.agg x.en) := Clo.agg x.clo_en
      rcases ed_cases hx hl with ⟨q1, hk⟩ | ⟨q1, hz, ⟨q2, hk⟩ | ⟨q2, q3, hk⟩ | ⟨q2, q3, hk⟩⟩ | ⟨p, q1, hz, h0, hp0, ⟨q4, hk, q2 | ⟨q2, q3⟩ | ⟨q2, q3⟩⟩ | ⟨q4, ⟨q2, hk⟩ | ⟨q2, q3, hk⟩ | ⟨q2, q3, hk⟩⟩⟩
      repeat' ((first
        | ((with_reducible show AL ..); first | refine AL.any ?_ | refine AL.any (h := POp.k Tryz.func118 (hc := seal_s (prevSeal l i) x.tick x.source (by assumption) (by assumption))) ?_ | refine AL.U ?_ | refine AL.F ?_ | refine AL.T ?_ | refine AL.W ?_ | refine AL.nil ?_)
        | ((with_reducible show DL ..); first | refine DL.any ?_ | refine DL.any (h := POp.k Tryz.func77 (hc := inr_s _ _ _)) ?_ | refine DL.U ?_ | refine DL.F ?_ | refine DL.T ?_ | refine DL.T (h := POp.k Tryz.func133 (hc := isSource_s x.source (by assumption) (by assumption))) ?_ | refine DL.W ?_ | refine DL.W (h := fun h => by (try rw [h]); exact POp.k Tryz.func133 (hc := isSource_s x.source (by assumption) (by assumption))) ?_ | refine DL.nil ?_)
        | ((with_reducible show AW ..); first | refine AW.seq ?_ | refine AW.region ?_ | refine AW.skip ?_ | refine AW.dr (id := 5) 11 ?_ | refine AW.dr (id := 6) 40 ?_ | refine AW.cT ?_ | refine AW.cF ?_ | (refine AW.c2 ?_ ?_ <;> (intro h; try simp only [bT, bF] at h)) | refine AW.block ?_ | refine AW.exit ?_ | refine AW.ret ?_)
        | with_reducible refine ifP ?_
        | with_reducible refine ifN ?_) <;> (try dsimp only))
      all_goals first
        | (refine ⟨i + 1, _, ⟨hlt, by simp_all⟩, by omega, ?_, rfl, ?_, ?_⟩; (focus ((repeat' (first | exact Wk.nil | refine Wk.any ?_ | (with_reducible refine Wk.same ?_) | refine Wk.of ?_ ?_)) <;> (first | rfl | (simp_all [hps]; done) | simp_all))); (focus ((repeat' (first | exact Fits.nil _ | refine Fits.cons ?_ ?_ | exact Fits.any _ | exact Fits.c _ _ | exact Fits.own (by rfl) | exact Fits.ref (by rfl) | exact Fits.clo (by assumption) | exact Fits.clo (clo_of (by rfl)) | exact Fits.clo (clo_fn _))))); (focus (exact FitsM.nil _)))
        | exact Fin.one rfl (RV.tmp (by rfl)) (clo_c _) ⟨by have hn := edTo_not (n := l.length) (by simp_all : edAt l i = false) (by omega); simp_all [areEd], rfl⟩
    · have e : i = nEd l := by omega
      have ht : (decide ((i : Int) < ((l.map TEdition.en).length : Int)) && decide (((l.map TEdition.en).length : Int) ≤ 6)) = false := by
        rw [e]
        unfold nEd
        split
        · simp
        · simp; omega
      subst e
      repeat' ((first
        | ((with_reducible show AL ..); first | refine AL.any ?_ | refine AL.any (h := POp.k Tryz.func118 (hc := seal_s (prevSeal l i) x.tick x.source (by assumption) (by assumption))) ?_ | refine AL.U ?_ | refine AL.F ?_ | refine AL.T ?_ | refine AL.W ?_ | refine AL.nil ?_)
        | ((with_reducible show DL ..); first | refine DL.any ?_ | refine DL.any (h := POp.k Tryz.func77 (hc := inr_s _ _ _)) ?_ | refine DL.U ?_ | refine DL.F ?_ | refine DL.T ?_ | refine DL.T (h := POp.k Tryz.func133 (hc := isSource_s x.source (by assumption) (by assumption))) ?_ | refine DL.W ?_ | refine DL.W (h := fun h => by (try rw [h]); exact POp.k Tryz.func133 (hc := isSource_s x.source (by assumption) (by assumption))) ?_ | refine DL.nil ?_)
        | ((with_reducible show AW ..); first | refine AW.seq ?_ | refine AW.region ?_ | refine AW.skip ?_ | refine AW.dr (id := 5) 11 ?_ | refine AW.dr (id := 6) 40 ?_ | refine AW.cT ?_ | refine AW.cF ?_ | (refine AW.c2 ?_ ?_ <;> (intro h; try simp only [bT, bF] at h)) | refine AW.block ?_ | refine AW.exit ?_ | refine AW.ret ?_)
        | with_reducible refine ifP ?_
        | with_reducible refine ifN ?_) <;> (try dsimp only))
      all_goals exact Fin.one rfl (RV.tmp (by rfl)) (clo_c _) ⟨by have h2 := hi.2; unfold nEd at h2; unfold areEd; split at h2 <;> simp_all <;> omega, rfl⟩

theorem areEd_i (l : List TEdition) (hl : l.length ≤ 1048576) (hp : ∀ e ∈ l, e.source.length ≤ 1048576 ∧ ∀ x ∈ e.source, x.gd) : VCalls Tryz.prog 107 [.ro 3 (l.map TEdition.en)] (fun r M => r = B (areEd l) ∧ M = []) := by
  refine VCalls.bodyE Tryz.func107 rfl 54 rfl (fun E hE => ?_)
  simp only [List.reduceReplicate, List.cons_append, List.nil_append]
  have hclo : Clo (.ro 3 (l.map TEdition.en)) := clo_list TEdition.clo_en
  repeat' ((first
    | ((with_reducible show AL ..); first | refine AL.any ?_ | refine AL.U ?_ | refine AL.F ?_ | refine AL.T ?_ | refine AL.W ?_ | refine AL.nil ?_)
    | ((with_reducible show DL ..); first | refine DL.any ?_ | refine DL.any (h := POp.k Tryz.func78 (hc := inr_v _ _ _)) ?_ | refine DL.U ?_ | refine DL.F ?_ | refine DL.T ?_ | refine DL.T (h := POp.k Tryz.func121 (hc := seal_i (prevSeal l i) x.tick x.source (by assumption) (by assumption))) ?_ | refine DL.T (h := POp.k Tryz.func135 (hc := isSource_i x.source (by assumption) (by assumption))) ?_ | refine DL.W ?_ | refine DL.W (h := fun h => by (try rw [h]); exact POp.k Tryz.func121 (hc := seal_i (prevSeal l i) x.tick x.source (by assumption) (by assumption))) ?_ | refine DL.W (h := fun h => by (try rw [h]); exact POp.k Tryz.func135 (hc := isSource_i x.source (by assumption) (by assumption))) ?_ | refine DL.nil ?_)
    | ((with_reducible show AW ..); first | refine AW.seq ?_ | refine AW.region ?_ | refine AW.skip ?_ | (refine AW.loopD hE (fun i : Nat => [.ro 3 (l.map TEdition.en), .any, .any, I (prevSeal l i), .any, .any, .any, .any, .any, .ro 3 (l.map TEdition.en), I ((l.map TEdition.en).length : Int), I (i : Int), .any, .any, .any, .any, .any, .any, .any, .any, .any, .any, .any, .any, .any, .any, .any, .any, .any, .any, .any, .any, .any, .any, .any, .any, .any, .any, .any, .any, .any, .any, .any, .any, .any, .any, .any, .any, .any, .any, .any, .any, .any, .any, .any]) (fun i => []) (fun i => l.length - i) (fun i => i ≤ l.length ∧ edTo l i = true) 0 (by simp [edTo]) ?_ (by first | rfl | (simp [fil_zero]; done)) ?_) | refine AW.dr (id := 7) 34 ?_ | refine AW.cT ?_ | refine AW.cF ?_ | (refine AW.c2 ?_ ?_ <;> (intro h; try simp only [bT, bF] at h)) | refine AW.block ?_ | refine AW.exit ?_ | refine AW.ret ?_)
    | with_reducible refine ifP ?_
    | with_reducible refine ifN ?_) <;> (try dsimp only))
  · exact Fin.one rfl (RV.tmp (by rfl)) (clo_c _) ⟨by simp_all [areEd] <;> omega, rfl⟩
  · (repeat' (first | exact Wk.nil | refine Wk.any ?_ | (with_reducible refine Wk.same ?_) | refine Wk.of ?_ ?_)) <;> first | rfl | (simp [prevSeal])
  · intro i hi
    have hclo : Clo (.ro 3 (l.map TEdition.en)) := clo_list TEdition.clo_en
    by_cases hlt : i < l.length
    · obtain ⟨x, hx⟩ : ∃ x, l[i]? = some x := ⟨_, List.getElem?_eq_getElem hlt⟩
      have hg := map_get (f := TEdition.en) hx
      have ht := lt_true (f := TEdition.en) hlt
      have hn := next_ix hlt (by omega)
      obtain ⟨hsl, hsx⟩ := hp x (List.mem_of_getElem? hx)
      have hsu := edTo_succ l i
      have hps := prevSeal_succ hx
      have hclS : Clo (.ro 5 (x.source.map TFeature.en)) := clo_list TFeature.clo_en
      have hcle : Clo (.agg x.en) := Clo.agg x.clo_en
      rcases ed_cases hx hl with ⟨q1, hk⟩ | ⟨q1, hz, ⟨q2, hk⟩ | ⟨q2, q3, hk⟩ | ⟨q2, q3, hk⟩⟩ | ⟨p, q1, hz, h0, hp0, ⟨q4, hk, q2 | ⟨q2, q3⟩ | ⟨q2, q3⟩⟩ | ⟨q4, ⟨q2, hk⟩ | ⟨q2, q3, hk⟩ | ⟨q2, q3, hk⟩⟩⟩
      repeat' ((first
        | ((with_reducible show AL ..); first | refine AL.any ?_ | refine AL.U ?_ | refine AL.F ?_ | refine AL.T ?_ | refine AL.W ?_ | refine AL.nil ?_)
        | ((with_reducible show DL ..); first | refine DL.any ?_ | refine DL.any (h := POp.k Tryz.func78 (hc := inr_v _ _ _)) ?_ | refine DL.U ?_ | refine DL.F ?_ | refine DL.T ?_ | refine DL.T (h := POp.k Tryz.func121 (hc := seal_i (prevSeal l i) x.tick x.source (by assumption) (by assumption))) ?_ | refine DL.T (h := POp.k Tryz.func135 (hc := isSource_i x.source (by assumption) (by assumption))) ?_ | refine DL.W ?_ | refine DL.W (h := fun h => by (try rw [h]); exact POp.k Tryz.func121 (hc := seal_i (prevSeal l i) x.tick x.source (by assumption) (by assumption))) ?_ | refine DL.W (h := fun h => by (try rw [h]); exact POp.k Tryz.func135 (hc := isSource_i x.source (by assumption) (by assumption))) ?_ | refine DL.nil ?_)
        | ((with_reducible show AW ..); first | refine AW.seq ?_ | refine AW.region ?_ | refine AW.skip ?_ | refine AW.dr (id := 7) 34 ?_ | refine AW.cT ?_ | refine AW.cF ?_ | (refine AW.c2 ?_ ?_ <;> (intro h; try simp only [bT, bF] at h)) | refine AW.block ?_ | refine AW.exit ?_ | refine AW.ret ?_)
        | with_reducible refine ifP ?_
        | with_reducible refine ifN ?_) <;> (try dsimp only))
      all_goals first
        | (refine ⟨i + 1, _, ⟨hlt, by simp_all⟩, by omega, ?_, rfl, ?_, ?_⟩; (focus ((repeat' (first | exact Wk.nil | refine Wk.any ?_ | (with_reducible refine Wk.same ?_) | refine Wk.of ?_ ?_)) <;> (first | rfl | (simp_all [hps]; done) | simp_all))); (focus ((repeat' (first | exact Fits.nil _ | refine Fits.cons ?_ ?_ | exact Fits.any _ | exact Fits.c _ _ | exact Fits.own (by rfl) | exact Fits.ref (by rfl) | exact Fits.clo (by assumption) | exact Fits.clo (clo_of (by rfl)) | exact Fits.clo (clo_fn _))))); (focus (exact FitsM.nil _)))
        | exact Fin.one rfl (RV.tmp (by rfl)) (clo_c _) ⟨by have hn := edTo_not (n := l.length) (by simp_all : edAt l i = false) (by omega); simp_all [areEd], rfl⟩
    · have ht := lt_false (f := TEdition.en) hlt
      have e : i = l.length := by omega
      subst e
      try rw [List.take_length]
      repeat' ((first
        | ((with_reducible show AL ..); first | refine AL.any ?_ | refine AL.U ?_ | refine AL.F ?_ | refine AL.T ?_ | refine AL.W ?_ | refine AL.nil ?_)
        | ((with_reducible show DL ..); first | refine DL.any ?_ | refine DL.any (h := POp.k Tryz.func78 (hc := inr_v _ _ _)) ?_ | refine DL.U ?_ | refine DL.F ?_ | refine DL.T ?_ | refine DL.T (h := POp.k Tryz.func121 (hc := seal_i (prevSeal l i) x.tick x.source (by assumption) (by assumption))) ?_ | refine DL.T (h := POp.k Tryz.func135 (hc := isSource_i x.source (by assumption) (by assumption))) ?_ | refine DL.W ?_ | refine DL.W (h := fun h => by (try rw [h]); exact POp.k Tryz.func121 (hc := seal_i (prevSeal l i) x.tick x.source (by assumption) (by assumption))) ?_ | refine DL.W (h := fun h => by (try rw [h]); exact POp.k Tryz.func135 (hc := isSource_i x.source (by assumption) (by assumption))) ?_ | refine DL.nil ?_)
        | ((with_reducible show AW ..); first | refine AW.seq ?_ | refine AW.region ?_ | refine AW.skip ?_ | refine AW.dr (id := 7) 34 ?_ | refine AW.cT ?_ | refine AW.cF ?_ | (refine AW.c2 ?_ ?_ <;> (intro h; try simp only [bT, bF] at h)) | refine AW.block ?_ | refine AW.exit ?_ | refine AW.ret ?_)
        | with_reducible refine ifP ?_
        | with_reducible refine ifN ?_) <;> (try dsimp only))
      all_goals exact Fin.one rfl (RV.tmp (by rfl)) (clo_c _) ⟨by first | (simp_all [areEd]; done) | (simp_all [areEd] <;> omega), rfl⟩

theorem isAtl_s (a : TAtlas) (hgd : a.gd) : VCalls Tryz.prog 61 [.agg a.en] (fun r M => r = B (isAtl a) ∧ M = []) := by
  refine VCalls.bodyE Tryz.func61 rfl 59 rfl (fun E hE => ?_)
  simp only [List.reduceReplicate, List.cons_append, List.nil_append]
  have hclL : Clo (.ro 8 (a.log.map TEntry.en)) := clo_list TEntry.clo_en
  have hclV : Clo (.ro 3 (a.levels.map TLevel.en)) := clo_list TLevel.clo_en
  have hclE : Clo (.ro 3 (a.editions.map TEdition.en)) := clo_list TEdition.clo_en
  have hclA : Clo (.agg a.en) := Clo.agg a.clo_en
  obtain ⟨⟨g1, g2⟩, g3, ⟨g4, g5⟩, g6⟩ := id hgd
  dsimp only [TAtlas.en]
  repeat' ((first
    | ((with_reducible show AL ..); first | refine AL.any ?_ | refine AL.any (h := POp.k Tryz.func86 (hc := isLog_s a.log g1 g2)) ?_ | refine AL.U ?_ | refine AL.F ?_ | refine AL.T ?_ | refine AL.T (h := POp.k Tryz.func77 (hc := inr_s _ _ _)) ?_ | refine AL.T (h := POp.k Tryz.func103 (hc := isLadder_s a.levels g3)) ?_ | refine AL.T (h := POp.k Tryz.func104 (hc := areEd_s a.editions g4 g5)) ?_ | refine AL.T (h := POp.k Tryz.func105 (hc := isCover_s a.cover.w a.cover.h a.cover.cells g6)) ?_ | refine AL.W ?_ | refine AL.W (h := fun h => by (try rw [h]); exact POp.k Tryz.func77 (hc := inr_s _ _ _)) ?_ | refine AL.W (h := fun h => by (try rw [h]); exact POp.k Tryz.func103 (hc := isLadder_s a.levels g3)) ?_ | refine AL.W (h := fun h => by (try rw [h]); exact POp.k Tryz.func104 (hc := areEd_s a.editions g4 g5)) ?_ | refine AL.W (h := fun h => by (try rw [h]); exact POp.k Tryz.func105 (hc := isCover_s a.cover.w a.cover.h a.cover.cells g6)) ?_ | refine AL.nil ?_)
    | ((with_reducible show DL ..); first | refine DL.any ?_ | refine DL.nil ?_)
    | ((with_reducible show AW ..); first | refine AW.seq ?_ | refine AW.region ?_ | refine AW.skip ?_ | (refine AW.loopD hE (fun i : Nat => [.any, .ref 0 0 7 0 0, .any, I (i : Int), .any, .any, .any, .any, .any, .any, .any, .any, .any, .any, .any, .any, .any, .any, .any, .any, .any, .any, .any, .any, .any, .any, .any, .any, .any, .any, .any, .any, .any, .any, .any, .any, .any, .any, .any, .any, .any, .any, .any, .any, .any, .any, .any, .any, .any, .any, .any, .any, .any, .any, .any, .any, .any, .any, .any, .any]) (fun i => [some ⟨32, 7, 0, true, [a.en]⟩]) (fun i => a.log.length - i) (fun i => i ≤ a.log.length ∧ ticks TEntry.tick a.now a.log i = true) 0 ⟨Nat.zero_le _, by simp [ticks]⟩ ?_ (by first | rfl | (simp; done)) ?_) | refine AW.dr (id := 4) 8 ?_ | refine AW.dr (id := 9) 8 ?_ | refine AW.cT ?_ | refine AW.cF ?_ | (refine AW.c2 ?_ ?_ <;> (intro h; try simp only [bT, bF] at h)) | refine AW.block ?_ | refine AW.exit ?_ | refine AW.ret ?_)
    | with_reducible refine ifP ?_
    | with_reducible refine ifN ?_) <;> (try dsimp only))
  · (repeat' (first | exact Wk.nil | refine Wk.any ?_ | (with_reducible refine Wk.same ?_) | refine Wk.of ?_ ?_)) <;> first | rfl | (simp; done)
  · intro i hv_i
    by_cases hlt_i : i < a.log.length
    · skip
      obtain ⟨x, hx⟩ : ∃ x, a.log[i]? = some x := ⟨_, List.getElem?_eq_getElem hlt_i⟩
      have hg := map_get (f := TEntry.en) hx
      have ht := lt_true (f := TEntry.en) hlt_i
      have hn := next_ix hlt_i (by omega)
      have hsu := ticks_succ (tk := TEntry.tick) (now := a.now) hx
      have hno := ticks_not (tk := TEntry.tick) (now := a.now) hx
      have hcle : Clo (.agg x.en) := Clo.agg x.clo_en
      repeat' ((first
        | ((with_reducible show AL ..); first | refine AL.any ?_ | refine AL.any (h := POp.k Tryz.func86 (hc := isLog_s a.log g1 g2)) ?_ | refine AL.U ?_ | refine AL.F ?_ | refine AL.T ?_ | refine AL.T (h := POp.k Tryz.func77 (hc := inr_s _ _ _)) ?_ | refine AL.T (h := POp.k Tryz.func103 (hc := isLadder_s a.levels g3)) ?_ | refine AL.T (h := POp.k Tryz.func104 (hc := areEd_s a.editions g4 g5)) ?_ | refine AL.T (h := POp.k Tryz.func105 (hc := isCover_s a.cover.w a.cover.h a.cover.cells g6)) ?_ | refine AL.W ?_ | refine AL.W (h := fun h => by (try rw [h]); exact POp.k Tryz.func77 (hc := inr_s _ _ _)) ?_ | refine AL.W (h := fun h => by (try rw [h]); exact POp.k Tryz.func103 (hc := isLadder_s a.levels g3)) ?_ | refine AL.W (h := fun h => by (try rw [h]); exact POp.k Tryz.func104 (hc := areEd_s a.editions g4 g5)) ?_ | refine AL.W (h := fun h => by (try rw [h]); exact POp.k Tryz.func105 (hc := isCover_s a.cover.w a.cover.h a.cover.cells g6)) ?_ | refine AL.nil ?_)
        | ((with_reducible show DL ..); first | refine DL.any ?_ | refine DL.nil ?_)
        | ((with_reducible show AW ..); first | refine AW.seq ?_ | refine AW.region ?_ | refine AW.skip ?_ | refine AW.dr (id := 4) 8 ?_ | refine AW.dr (id := 9) 8 ?_ | refine AW.cT ?_ | refine AW.cF ?_ | (refine AW.c2 ?_ ?_ <;> (intro h; try simp only [bT, bF] at h)) | refine AW.block ?_ | refine AW.exit ?_ | refine AW.ret ?_)
        | with_reducible refine ifP ?_
        | with_reducible refine ifN ?_) <;> (try dsimp only))
      all_goals first
        | (refine ⟨i + 1, _, ⟨hlt_i, by simp_all⟩, by omega, ?_, rfl, ?_, ?_⟩; (focus ((repeat' (first | exact Wk.nil | refine Wk.any ?_ | (with_reducible refine Wk.same ?_) | refine Wk.of ?_ ?_)) <;> (simp_all))); (focus ((repeat' (first | exact Fits.nil _ | refine Fits.cons ?_ ?_ | exact Fits.any _ | exact Fits.c _ _ | exact Fits.own (by rfl) | exact Fits.ref (by rfl) | exact Fits.clo (by assumption) | exact Fits.clo (clo_of (by rfl)) | exact Fits.clo (clo_fn _))))); (focus (exact fitsM_cons (clo_one a.clo_en) (FitsM.nil _))))
        | exact Fin.one rfl (RV.tmp (by rfl)) (clo_c _) ⟨by have hf := hno (by assumption); simp_all [isAtl], rfl⟩
    · have e_i : i = a.log.length := by omega
      have ht := lt_false (f := TEntry.en) (show ¬ i < a.log.length by omega)
      subst e_i
      repeat' ((first
        | ((with_reducible show AL ..); first | refine AL.any ?_ | refine AL.any (h := POp.k Tryz.func86 (hc := isLog_s a.log g1 g2)) ?_ | refine AL.U ?_ | refine AL.F ?_ | refine AL.T ?_ | refine AL.T (h := POp.k Tryz.func77 (hc := inr_s _ _ _)) ?_ | refine AL.T (h := POp.k Tryz.func103 (hc := isLadder_s a.levels g3)) ?_ | refine AL.T (h := POp.k Tryz.func104 (hc := areEd_s a.editions g4 g5)) ?_ | refine AL.T (h := POp.k Tryz.func105 (hc := isCover_s a.cover.w a.cover.h a.cover.cells g6)) ?_ | refine AL.W ?_ | refine AL.W (h := fun h => by (try rw [h]); exact POp.k Tryz.func77 (hc := inr_s _ _ _)) ?_ | refine AL.W (h := fun h => by (try rw [h]); exact POp.k Tryz.func103 (hc := isLadder_s a.levels g3)) ?_ | refine AL.W (h := fun h => by (try rw [h]); exact POp.k Tryz.func104 (hc := areEd_s a.editions g4 g5)) ?_ | refine AL.W (h := fun h => by (try rw [h]); exact POp.k Tryz.func105 (hc := isCover_s a.cover.w a.cover.h a.cover.cells g6)) ?_ | refine AL.nil ?_)
        | ((with_reducible show DL ..); first | refine DL.any ?_ | refine DL.nil ?_)
        | ((with_reducible show AW ..); first | refine AW.seq ?_ | refine AW.region ?_ | refine AW.skip ?_ | (refine AW.loopD hE (fun k : Nat => [.any, .ref 0 0 7 0 0, .any, .any, I (k : Int), .any, .any, .any, .any, .any, .any, .any, .any, .any, .any, .any, .any, .any, .any, .any, .any, .any, .any, .any, .any, .any, .any, .any, .any, .any, .any, .any, .any, .any, .any, .any, .any, .any, .any, .any, .any, .any, .any, .any, .any, .any, .any, .any, .any, .any, .any, .any, .any, .any, .any, .any, .any, .any, .any, .any]) (fun k => [some ⟨32, 7, 0, true, [a.en]⟩]) (fun k => a.editions.length - k) (fun k => k ≤ a.editions.length ∧ ticks TEdition.tick a.now a.editions k = true) 0 ⟨Nat.zero_le _, by simp [ticks]⟩ ?_ (by first | rfl | (simp; done)) ?_) | refine AW.dr (id := 4) 8 ?_ | refine AW.dr (id := 9) 8 ?_ | refine AW.cT ?_ | refine AW.cF ?_ | (refine AW.c2 ?_ ?_ <;> (intro h; try simp only [bT, bF] at h)) | refine AW.block ?_ | refine AW.exit ?_ | refine AW.ret ?_)
        | with_reducible refine ifP ?_
        | with_reducible refine ifN ?_) <;> (try dsimp only))
      · (repeat' (first | exact Wk.nil | refine Wk.any ?_ | (with_reducible refine Wk.same ?_) | refine Wk.of ?_ ?_)) <;> first | rfl | (simp; done)
      · intro k hv_k
        by_cases hlt_k : k < a.editions.length
        · skip
          obtain ⟨x, hx⟩ : ∃ x, a.editions[k]? = some x := ⟨_, List.getElem?_eq_getElem hlt_k⟩
          have hg := map_get (f := TEdition.en) hx
          have ht := lt_true (f := TEdition.en) hlt_k
          have hn := next_ix hlt_k (by omega)
          have hsu := ticks_succ (tk := TEdition.tick) (now := a.now) hx
          have hno := ticks_not (tk := TEdition.tick) (now := a.now) hx
          have hcle : Clo (.agg x.en) := Clo.agg x.clo_en
          repeat' ((first
            | ((with_reducible show AL ..); first | refine AL.any ?_ | refine AL.any (h := POp.k Tryz.func86 (hc := isLog_s a.log g1 g2)) ?_ | refine AL.U ?_ | refine AL.F ?_ | refine AL.T ?_ | refine AL.T (h := POp.k Tryz.func77 (hc := inr_s _ _ _)) ?_ | refine AL.T (h := POp.k Tryz.func103 (hc := isLadder_s a.levels g3)) ?_ | refine AL.T (h := POp.k Tryz.func104 (hc := areEd_s a.editions g4 g5)) ?_ | refine AL.T (h := POp.k Tryz.func105 (hc := isCover_s a.cover.w a.cover.h a.cover.cells g6)) ?_ | refine AL.W ?_ | refine AL.W (h := fun h => by (try rw [h]); exact POp.k Tryz.func77 (hc := inr_s _ _ _)) ?_ | refine AL.W (h := fun h => by (try rw [h]); exact POp.k Tryz.func103 (hc := isLadder_s a.levels g3)) ?_ | refine AL.W (h := fun h => by (try rw [h]); exact POp.k Tryz.func104 (hc := areEd_s a.editions g4 g5)) ?_ | refine AL.W (h := fun h => by (try rw [h]); exact POp.k Tryz.func105 (hc := isCover_s a.cover.w a.cover.h a.cover.cells g6)) ?_ | refine AL.nil ?_)
            | ((with_reducible show DL ..); first | refine DL.any ?_ | refine DL.nil ?_)
            | ((with_reducible show AW ..); first | refine AW.seq ?_ | refine AW.region ?_ | refine AW.skip ?_ | refine AW.dr (id := 4) 8 ?_ | refine AW.dr (id := 9) 8 ?_ | refine AW.cT ?_ | refine AW.cF ?_ | (refine AW.c2 ?_ ?_ <;> (intro h; try simp only [bT, bF] at h)) | refine AW.block ?_ | refine AW.exit ?_ | refine AW.ret ?_)
            | with_reducible refine ifP ?_
            | with_reducible refine ifN ?_) <;> (try dsimp only))
          all_goals first
            | (refine ⟨k + 1, _, ⟨hlt_k, by simp_all⟩, by omega, ?_, rfl, ?_, ?_⟩; (focus ((repeat' (first | exact Wk.nil | refine Wk.any ?_ | (with_reducible refine Wk.same ?_) | refine Wk.of ?_ ?_)) <;> (simp_all))); (focus ((repeat' (first | exact Fits.nil _ | refine Fits.cons ?_ ?_ | exact Fits.any _ | exact Fits.c _ _ | exact Fits.own (by rfl) | exact Fits.ref (by rfl) | exact Fits.clo (by assumption) | exact Fits.clo (clo_of (by rfl)) | exact Fits.clo (clo_fn _))))); (focus (exact fitsM_cons (clo_one a.clo_en) (FitsM.nil _))))
            | exact Fin.one rfl (RV.tmp (by rfl)) (clo_c _) ⟨by have hf := hno (by assumption); simp_all [isAtl], rfl⟩
        · have e_k : k = a.editions.length := by omega
          have ht := lt_false (f := TEdition.en) (show ¬ k < a.editions.length by omega)
          subst e_k
          repeat' ((first
            | ((with_reducible show AL ..); first | refine AL.any ?_ | refine AL.any (h := POp.k Tryz.func86 (hc := isLog_s a.log g1 g2)) ?_ | refine AL.U ?_ | refine AL.F ?_ | refine AL.T ?_ | refine AL.T (h := POp.k Tryz.func77 (hc := inr_s _ _ _)) ?_ | refine AL.T (h := POp.k Tryz.func103 (hc := isLadder_s a.levels g3)) ?_ | refine AL.T (h := POp.k Tryz.func104 (hc := areEd_s a.editions g4 g5)) ?_ | refine AL.T (h := POp.k Tryz.func105 (hc := isCover_s a.cover.w a.cover.h a.cover.cells g6)) ?_ | refine AL.W ?_ | refine AL.W (h := fun h => by (try rw [h]); exact POp.k Tryz.func77 (hc := inr_s _ _ _)) ?_ | refine AL.W (h := fun h => by (try rw [h]); exact POp.k Tryz.func103 (hc := isLadder_s a.levels g3)) ?_ | refine AL.W (h := fun h => by (try rw [h]); exact POp.k Tryz.func104 (hc := areEd_s a.editions g4 g5)) ?_ | refine AL.W (h := fun h => by (try rw [h]); exact POp.k Tryz.func105 (hc := isCover_s a.cover.w a.cover.h a.cover.cells g6)) ?_ | refine AL.nil ?_)
            | ((with_reducible show DL ..); first | refine DL.any ?_ | refine DL.nil ?_)
            | ((with_reducible show AW ..); first | refine AW.seq ?_ | refine AW.region ?_ | refine AW.skip ?_ | refine AW.dr (id := 4) 8 ?_ | refine AW.dr (id := 9) 8 ?_ | refine AW.cT ?_ | refine AW.cF ?_ | (refine AW.c2 ?_ ?_ <;> (intro h; try simp only [bT, bF] at h)) | refine AW.block ?_ | refine AW.exit ?_ | refine AW.ret ?_)
            | with_reducible refine ifP ?_
            | with_reducible refine ifN ?_) <;> (try dsimp only))
          all_goals first
            | exact Fin.one rfl (RV.tmp (by rfl)) (clo_c _) ⟨by simp_all [isAtl, atlIn], rfl⟩

theorem isAtl_i (a : TAtlas) (hgd : a.gd) : VCalls Tryz.prog 64 [.agg a.en] (fun r M => r = B (isAtl a) ∧ M = []) := by
  refine VCalls.bodyE Tryz.func64 rfl 60 rfl (fun E hE => ?_)
  simp only [List.reduceReplicate, List.cons_append, List.nil_append]
  have hclL : Clo (.ro 8 (a.log.map TEntry.en)) := clo_list TEntry.clo_en
  have hclV : Clo (.ro 3 (a.levels.map TLevel.en)) := clo_list TLevel.clo_en
  have hclE : Clo (.ro 3 (a.editions.map TEdition.en)) := clo_list TEdition.clo_en
  have hclA : Clo (.agg a.en) := Clo.agg a.clo_en
  obtain ⟨⟨g1, g2⟩, g3, ⟨g4, g5⟩, g6⟩ := id hgd
  dsimp only [TAtlas.en]
  repeat' ((first
    | ((with_reducible show AL ..); first | refine AL.any ?_ | refine AL.any (h := POp.k Tryz.func89 (hc := isLog_i a.log g1 g2)) ?_ | refine AL.U ?_ | refine AL.F ?_ | refine AL.T ?_ | refine AL.T (h := POp.k Tryz.func78 (hc := inr_v _ _ _)) ?_ | refine AL.T (h := POp.k Tryz.func106 (hc := isLadder_i a.levels g3)) ?_ | refine AL.T (h := POp.k Tryz.func107 (hc := areEd_i a.editions g4 g5)) ?_ | refine AL.T (h := POp.k Tryz.func108 (hc := isCover_i a.cover.w a.cover.h a.cover.cells g6)) ?_ | refine AL.W ?_ | refine AL.W (h := fun h => by (try rw [h]); exact POp.k Tryz.func78 (hc := inr_v _ _ _)) ?_ | refine AL.W (h := fun h => by (try rw [h]); exact POp.k Tryz.func106 (hc := isLadder_i a.levels g3)) ?_ | refine AL.W (h := fun h => by (try rw [h]); exact POp.k Tryz.func107 (hc := areEd_i a.editions g4 g5)) ?_ | refine AL.W (h := fun h => by (try rw [h]); exact POp.k Tryz.func108 (hc := isCover_i a.cover.w a.cover.h a.cover.cells g6)) ?_ | refine AL.nil ?_)
    | ((with_reducible show AW ..); first | refine AW.seq ?_ | refine AW.region ?_ | refine AW.skip ?_ | (refine AW.loopD hE (fun i : Nat => [.any, .ref 0 0 7 0 0, .any, .any, .any, .any, .any, .any, .any, .any, .any, .any, .any, .any, .any, .any, .any, .any, .any, .any, .any, .any, .any, .any, .any, .any, .any, .any, .any, .any, .any, .any, .any, .any, .any, .any, .ro 8 (a.log.map TEntry.en), I ((a.log.map TEntry.en).length : Int), I (i : Int), .any, .any, .any, .any, .any, .any, .any, .any, .any, .any, .any, .any, .any, .any, .any, .any, .any, .any, .any, .any, .any, .any]) (fun i => [some ⟨32, 7, 0, true, [a.en]⟩]) (fun i => a.log.length - i) (fun i => i ≤ a.log.length ∧ ticks TEntry.tick a.now a.log i = true) 0 ⟨Nat.zero_le _, by simp [ticks]⟩ ?_ (by first | rfl | (simp; done)) ?_) | refine AW.cT ?_ | refine AW.cF ?_ | (refine AW.c2 ?_ ?_ <;> (intro h; try simp only [bT, bF] at h)) | refine AW.block ?_ | refine AW.exit ?_ | refine AW.ret ?_)
    | with_reducible refine ifP ?_
    | with_reducible refine ifN ?_) <;> (try dsimp only))
  any_goals first | exact Fin.one rfl (RV.tmp (by rfl)) (clo_c _) ⟨by rw [atl_f (by assumption)], rfl⟩
  · (repeat' (first | exact Wk.nil | refine Wk.any ?_ | (with_reducible refine Wk.same ?_) | refine Wk.of ?_ ?_)) <;> first | rfl | (simp; done)
  · intro i hv_i
    by_cases hlt_i : i < a.log.length
    · skip
      obtain ⟨x, hx⟩ : ∃ x, a.log[i]? = some x := ⟨_, List.getElem?_eq_getElem hlt_i⟩
      have hg := map_get (f := TEntry.en) hx
      have ht := lt_true (f := TEntry.en) hlt_i
      have hn := next_ix hlt_i (by omega)
      have hsu := ticks_succ (tk := TEntry.tick) (now := a.now) hx
      have hno := ticks_not (tk := TEntry.tick) (now := a.now) hx
      have hcle : Clo (.agg x.en) := Clo.agg x.clo_en
      repeat' ((first
        | ((with_reducible show AL ..); first | refine AL.any ?_ | refine AL.any (h := POp.k Tryz.func89 (hc := isLog_i a.log g1 g2)) ?_ | refine AL.U ?_ | refine AL.F ?_ | refine AL.T ?_ | refine AL.T (h := POp.k Tryz.func78 (hc := inr_v _ _ _)) ?_ | refine AL.T (h := POp.k Tryz.func106 (hc := isLadder_i a.levels g3)) ?_ | refine AL.T (h := POp.k Tryz.func107 (hc := areEd_i a.editions g4 g5)) ?_ | refine AL.T (h := POp.k Tryz.func108 (hc := isCover_i a.cover.w a.cover.h a.cover.cells g6)) ?_ | refine AL.W ?_ | refine AL.W (h := fun h => by (try rw [h]); exact POp.k Tryz.func78 (hc := inr_v _ _ _)) ?_ | refine AL.W (h := fun h => by (try rw [h]); exact POp.k Tryz.func106 (hc := isLadder_i a.levels g3)) ?_ | refine AL.W (h := fun h => by (try rw [h]); exact POp.k Tryz.func107 (hc := areEd_i a.editions g4 g5)) ?_ | refine AL.W (h := fun h => by (try rw [h]); exact POp.k Tryz.func108 (hc := isCover_i a.cover.w a.cover.h a.cover.cells g6)) ?_ | refine AL.nil ?_)
        | ((with_reducible show AW ..); first | refine AW.seq ?_ | refine AW.region ?_ | refine AW.skip ?_ | refine AW.cT ?_ | refine AW.cF ?_ | (refine AW.c2 ?_ ?_ <;> (intro h; try simp only [bT, bF] at h)) | refine AW.block ?_ | refine AW.exit ?_ | refine AW.ret ?_)
        | with_reducible refine ifP ?_
        | with_reducible refine ifN ?_) <;> (try dsimp only))
      all_goals first
        | (refine ⟨i + 1, _, ⟨hlt_i, by simp_all⟩, by omega, ?_, rfl, ?_, ?_⟩; (focus ((repeat' (first | exact Wk.nil | refine Wk.any ?_ | (with_reducible refine Wk.same ?_) | refine Wk.of ?_ ?_)) <;> (simp_all))); (focus ((repeat' (first | exact Fits.nil _ | refine Fits.cons ?_ ?_ | exact Fits.any _ | exact Fits.c _ _ | exact Fits.own (by rfl) | exact Fits.ref (by rfl) | exact Fits.clo (by assumption) | exact Fits.clo (clo_of (by rfl)) | exact Fits.clo (clo_fn _))))); (focus (exact fitsM_cons (clo_one a.clo_en) (FitsM.nil _))))
        | exact Fin.one rfl (RV.tmp (by rfl)) (clo_c _) ⟨by have hf := hno (by assumption); simp_all [isAtl], rfl⟩
    · have e_i : i = a.log.length := by omega
      have ht := lt_false (f := TEntry.en) (show ¬ i < a.log.length by omega)
      subst e_i
      repeat' ((first
        | ((with_reducible show AL ..); first | refine AL.any ?_ | refine AL.any (h := POp.k Tryz.func89 (hc := isLog_i a.log g1 g2)) ?_ | refine AL.U ?_ | refine AL.F ?_ | refine AL.T ?_ | refine AL.T (h := POp.k Tryz.func78 (hc := inr_v _ _ _)) ?_ | refine AL.T (h := POp.k Tryz.func106 (hc := isLadder_i a.levels g3)) ?_ | refine AL.T (h := POp.k Tryz.func107 (hc := areEd_i a.editions g4 g5)) ?_ | refine AL.T (h := POp.k Tryz.func108 (hc := isCover_i a.cover.w a.cover.h a.cover.cells g6)) ?_ | refine AL.W ?_ | refine AL.W (h := fun h => by (try rw [h]); exact POp.k Tryz.func78 (hc := inr_v _ _ _)) ?_ | refine AL.W (h := fun h => by (try rw [h]); exact POp.k Tryz.func106 (hc := isLadder_i a.levels g3)) ?_ | refine AL.W (h := fun h => by (try rw [h]); exact POp.k Tryz.func107 (hc := areEd_i a.editions g4 g5)) ?_ | refine AL.W (h := fun h => by (try rw [h]); exact POp.k Tryz.func108 (hc := isCover_i a.cover.w a.cover.h a.cover.cells g6)) ?_ | refine AL.nil ?_)
        | ((with_reducible show AW ..); first | refine AW.seq ?_ | refine AW.region ?_ | refine AW.skip ?_ | (refine AW.loopD hE (fun k : Nat => [.any, .ref 0 0 7 0 0, .any, .any, .any, .any, .any, .any, .any, .any, .any, .any, .any, .any, .any, .any, .any, .any, .any, .any, .any, .any, .any, .any, .any, .any, .any, .any, .any, .any, .any, .any, .any, .any, .any, .any, .any, .any, .any, .any, .any, .any, .any, .any, .any, .any, .any, .any, .any, .ro 3 (a.editions.map TEdition.en), I ((a.editions.map TEdition.en).length : Int), I (k : Int), .any, .any, .any, .any, .any, .any, .any, .any, .any]) (fun k => [some ⟨32, 7, 0, true, [a.en]⟩]) (fun k => a.editions.length - k) (fun k => k ≤ a.editions.length ∧ ticks TEdition.tick a.now a.editions k = true) 0 ⟨Nat.zero_le _, by simp [ticks]⟩ ?_ (by first | rfl | (simp; done)) ?_) | refine AW.cT ?_ | refine AW.cF ?_ | (refine AW.c2 ?_ ?_ <;> (intro h; try simp only [bT, bF] at h)) | refine AW.block ?_ | refine AW.exit ?_ | refine AW.ret ?_)
        | with_reducible refine ifP ?_
        | with_reducible refine ifN ?_) <;> (try dsimp only))
      · (repeat' (first | exact Wk.nil | refine Wk.any ?_ | (with_reducible refine Wk.same ?_) | refine Wk.of ?_ ?_)) <;> first | rfl | (simp; done)
      · intro k hv_k
        by_cases hlt_k : k < a.editions.length
        · skip
          obtain ⟨x, hx⟩ : ∃ x, a.editions[k]? = some x := ⟨_, List.getElem?_eq_getElem hlt_k⟩
          have hg := map_get (f := TEdition.en) hx
          have ht := lt_true (f := TEdition.en) hlt_k
          have hn := next_ix hlt_k (by omega)
          have hsu := ticks_succ (tk := TEdition.tick) (now := a.now) hx
          have hno := ticks_not (tk := TEdition.tick) (now := a.now) hx
          have hcle : Clo (.agg x.en) := Clo.agg x.clo_en
          repeat' ((first
            | ((with_reducible show AL ..); first | refine AL.any ?_ | refine AL.any (h := POp.k Tryz.func89 (hc := isLog_i a.log g1 g2)) ?_ | refine AL.U ?_ | refine AL.F ?_ | refine AL.T ?_ | refine AL.T (h := POp.k Tryz.func78 (hc := inr_v _ _ _)) ?_ | refine AL.T (h := POp.k Tryz.func106 (hc := isLadder_i a.levels g3)) ?_ | refine AL.T (h := POp.k Tryz.func107 (hc := areEd_i a.editions g4 g5)) ?_ | refine AL.T (h := POp.k Tryz.func108 (hc := isCover_i a.cover.w a.cover.h a.cover.cells g6)) ?_ | refine AL.W ?_ | refine AL.W (h := fun h => by (try rw [h]); exact POp.k Tryz.func78 (hc := inr_v _ _ _)) ?_ | refine AL.W (h := fun h => by (try rw [h]); exact POp.k Tryz.func106 (hc := isLadder_i a.levels g3)) ?_ | refine AL.W (h := fun h => by (try rw [h]); exact POp.k Tryz.func107 (hc := areEd_i a.editions g4 g5)) ?_ | refine AL.W (h := fun h => by (try rw [h]); exact POp.k Tryz.func108 (hc := isCover_i a.cover.w a.cover.h a.cover.cells g6)) ?_ | refine AL.nil ?_)
            | ((with_reducible show AW ..); first | refine AW.seq ?_ | refine AW.region ?_ | refine AW.skip ?_ | refine AW.cT ?_ | refine AW.cF ?_ | (refine AW.c2 ?_ ?_ <;> (intro h; try simp only [bT, bF] at h)) | refine AW.block ?_ | refine AW.exit ?_ | refine AW.ret ?_)
            | with_reducible refine ifP ?_
            | with_reducible refine ifN ?_) <;> (try dsimp only))
          all_goals first
            | (refine ⟨k + 1, _, ⟨hlt_k, by simp_all⟩, by omega, ?_, rfl, ?_, ?_⟩; (focus ((repeat' (first | exact Wk.nil | refine Wk.any ?_ | (with_reducible refine Wk.same ?_) | refine Wk.of ?_ ?_)) <;> (simp_all))); (focus ((repeat' (first | exact Fits.nil _ | refine Fits.cons ?_ ?_ | exact Fits.any _ | exact Fits.c _ _ | exact Fits.own (by rfl) | exact Fits.ref (by rfl) | exact Fits.clo (by assumption) | exact Fits.clo (clo_of (by rfl)) | exact Fits.clo (clo_fn _))))); (focus (exact fitsM_cons (clo_one a.clo_en) (FitsM.nil _))))
            | exact Fin.one rfl (RV.tmp (by rfl)) (clo_c _) ⟨by have hf := hno (by assumption); simp_all [isAtl], rfl⟩
        · have e_k : k = a.editions.length := by omega
          have ht := lt_false (f := TEdition.en) (show ¬ k < a.editions.length by omega)
          subst e_k
          repeat' ((first
            | ((with_reducible show AL ..); first | refine AL.any ?_ | refine AL.any (h := POp.k Tryz.func89 (hc := isLog_i a.log g1 g2)) ?_ | refine AL.U ?_ | refine AL.F ?_ | refine AL.T ?_ | refine AL.T (h := POp.k Tryz.func78 (hc := inr_v _ _ _)) ?_ | refine AL.T (h := POp.k Tryz.func106 (hc := isLadder_i a.levels g3)) ?_ | refine AL.T (h := POp.k Tryz.func107 (hc := areEd_i a.editions g4 g5)) ?_ | refine AL.T (h := POp.k Tryz.func108 (hc := isCover_i a.cover.w a.cover.h a.cover.cells g6)) ?_ | refine AL.W ?_ | refine AL.W (h := fun h => by (try rw [h]); exact POp.k Tryz.func78 (hc := inr_v _ _ _)) ?_ | refine AL.W (h := fun h => by (try rw [h]); exact POp.k Tryz.func106 (hc := isLadder_i a.levels g3)) ?_ | refine AL.W (h := fun h => by (try rw [h]); exact POp.k Tryz.func107 (hc := areEd_i a.editions g4 g5)) ?_ | refine AL.W (h := fun h => by (try rw [h]); exact POp.k Tryz.func108 (hc := isCover_i a.cover.w a.cover.h a.cover.cells g6)) ?_ | refine AL.nil ?_)
            | ((with_reducible show AW ..); first | refine AW.seq ?_ | refine AW.region ?_ | refine AW.skip ?_ | refine AW.cT ?_ | refine AW.cF ?_ | (refine AW.c2 ?_ ?_ <;> (intro h; try simp only [bT, bF] at h)) | refine AW.block ?_ | refine AW.exit ?_ | refine AW.ret ?_)
            | with_reducible refine ifP ?_
            | with_reducible refine ifN ?_) <;> (try dsimp only))
          all_goals first
            | exact Fin.one rfl (RV.tmp (by rfl)) (clo_c _) ⟨by simp_all [isAtl, atlIn], rfl⟩

/-! ### An entry taken into a log -/
def newer (a b : TEntry) : Bool := decide (a.tick > b.tick) || (a.tick == b.tick && decide (a.who > b.who))
def posTo (l : List TEntry) (id : Int) : Nat := (l.takeWhile fun x => decide (x.feature.id < id)).length
theorem posTo_le : ∀ (l : List TEntry) (id : Int), posTo l id ≤ l.length
  | [], _ => Nat.le_refl _
  | x :: l, id => by
    unfold posTo
    rw [List.takeWhile_cons]
    split
    · have := posTo_le l id
      unfold posTo at this
      simp only [List.length_cons]
      omega
    · exact Nat.zero_le _
theorem posTo_lt : ∀ {l : List TEntry} {id : Int} {i : Nat}, i < posTo l id → ∃ x, l[i]? = some x ∧ decide (x.feature.id < id) = true
  | [], id, i, h => by simp [posTo] at h
  | x :: l, id, i, h => by
    unfold posTo at h
    rw [List.takeWhile_cons] at h
    split at h
    · rename_i hx
      cases i with
      | zero => exact ⟨x, rfl, hx⟩
      | succ i =>
        simp only [List.length_cons] at h
        exact posTo_lt (l := l) (id := id) (i := i) (by unfold posTo; omega)
    · simp at h
theorem posTo_at : ∀ {l : List TEntry} {id : Int} {x : TEntry}, l[posTo l id]? = some x → decide (x.feature.id < id) = false
  | [], id, x, h => by simp at h
  | y :: l, id, x, h => by
    unfold posTo at h
    rw [List.takeWhile_cons] at h
    split at h
    · simp only [List.length_cons, List.getElem?_cons_succ] at h
      exact posTo_at (l := l) (id := id) h
    · rename_i hy
      simp only [List.length_nil, List.getElem?_cons_zero, Option.some.injEq] at h
      subst h
      simpa using hy
def sameAt (l : List TEntry) (id : Int) : Bool := match l[posTo l id]? with
  | some x => x.feature.id == id
  | none => false
def refused (l : List TEntry) (e : TEntry) : Bool := match l[posTo l e.feature.id]? with
  | some x => (x.feature.id == e.feature.id) && !newer e x
  | none => false
def newL (l : List TEntry) (e : TEntry) : List TEntry := l.take (posTo l e.feature.id) ++ [e] ++ l.drop (if sameAt l e.feature.id = true then posTo l e.feature.id + 1 else posTo l e.feature.id)
def takeE (l : List TEntry) (e : TEntry) : List TEntry := if (!isLog l || refused l e || !isLog (newL l e)) = true then l else newL l e
theorem takeE_l {l : List TEntry} {e : TEntry} (h : (!isLog l || refused l e || !isLog (newL l e)) = true) : takeE l e = l := if_pos h
theorem takeE_n {l : List TEntry} {e : TEntry} (h : (!isLog l || refused l e || !isLog (newL l e)) = false) : takeE l e = newL l e := if_neg (by rw [h]; decide)
theorem takeE_1 {l : List TEntry} {e : TEntry} (h : isLog l = false) : takeE l e = l := takeE_l (by rw [h]; rfl)
theorem takeE_2 {l : List TEntry} {e : TEntry} (h : refused l e = true) : takeE l e = l := takeE_l (by rw [h]; cases isLog l <;> rfl)
theorem takeE_3 {l : List TEntry} {e : TEntry} (h : isLog (newL l e) = false) : takeE l e = l := takeE_l (by rw [h]; cases isLog l <;> cases refused l e <;> rfl)
theorem takeE_4 {l : List TEntry} {e : TEntry} (h1 : isLog l = true) (h2 : refused l e = false) (h3 : isLog (newL l e) = true) : takeE l e = newL l e := takeE_n (by rw [h1, h2, h3]; rfl)
theorem newL_len (l : List TEntry) (e : TEntry) : (newL l e).length ≤ l.length + 1 := by
  unfold newL
  have := posTo_le l e.feature.id
  simp only [List.length_append, List.length_take, List.length_drop, List.length_cons, List.length_nil]
  split <;> omega
theorem newL_all {l : List TEntry} {e : TEntry} {p : TEntry → Prop} (hp : ∀ x ∈ l, p x) (he : p e) : ∀ x ∈ newL l e, p x := fun x hx => by
  unfold newL at hx
  rcases List.mem_append.1 hx with h | h
  · rcases List.mem_append.1 h with h | h
    · exact hp x (List.mem_of_mem_take h)
    · obtain rfl := List.mem_singleton.1 h
      exact he
  · exact hp x (List.mem_of_mem_drop h)
theorem takeE_all {l : List TEntry} {e : TEntry} {p : TEntry → Prop} (hp : ∀ x ∈ l, p x) (he : p e) : ∀ x ∈ takeE l e, p x := by
  unfold takeE
  split
  · exact hp
  · exact newL_all hp he
theorem isLog_len {l : List TEntry} (h : isLog l = true) : l.length ≤ 16 := by
  unfold isLog at h
  simp only [Bool.and_eq_true, decide_eq_true_eq] at h
  omega
theorem takeE_len {l : List TEntry} {e : TEntry} (hl : l.length ≤ 1048576) : (takeE l e).length ≤ 1048576 := by
  unfold takeE
  split
  · exact hl
  · rename_i h
    have h : isLog (newL l e) = true := by
      revert h
      cases isLog (newL l e) <;> simp
    have := isLog_len h
    omega
/-- Where the place is: at the end, or at an entry that is not below. -/
theorem pos_cases (l : List TEntry) (e : TEntry) : (posTo l e.feature.id = l.length ∧ sameAt l e.feature.id = false ∧ refused l e = false ∧ newL l e = l.take l.length ++ [e] ++ l.drop l.length) ∨
    ∃ x, l[posTo l e.feature.id]? = some x ∧ decide (x.feature.id < e.feature.id) = false ∧ sameAt l e.feature.id = (x.feature.id == e.feature.id) ∧ refused l e = ((x.feature.id == e.feature.id) && !newer e x) := by
  have hle := posTo_le l e.feature.id
  rcases Nat.lt_or_ge (posTo l e.feature.id) l.length with h | h
  · obtain ⟨x, hx⟩ : ∃ x, l[posTo l e.feature.id]? = some x := ⟨_, List.getElem?_eq_getElem h⟩
    exact .inr ⟨x, hx, posTo_at hx, by simp [sameAt, hx], by simp [refused, hx]⟩
  · have e1 : posTo l e.feature.id = l.length := by omega
    have e2 : l[posTo l e.feature.id]? = none := List.getElem?_eq_none (by omega)
    have e3 : sameAt l e.feature.id = false := by simp [sameAt, e2]
    refine .inl ⟨e1, e3, by simp [refused, e2], ?_⟩
    unfold newL
    rw [e3, e1]
    rfl
theorem newer_cases (a b : TEntry) : (decide (a.tick > b.tick) = true ∧ newer a b = true) ∨ (decide (a.tick > b.tick) = false ∧ (a.tick == b.tick) = true ∧ newer a b = decide (a.who > b.who)) ∨ (decide (a.tick > b.tick) = false ∧ (a.tick == b.tick) = false ∧ newer a b = false) := by
  unfold newer
  cases decide (a.tick > b.tick) <;> cases (a.tick == b.tick) <;> simp
theorem isLog_cases (l : List TEntry) (y : TEntry) : (isLog l = true ∧ (newL l y).length ≤ 1048576) ∨ isLog l = false := by
  cases hL : isLog l
  · exact .inr rfl
  · have h1 := isLog_len hL
    have h2 := newL_len l y
    exact .inl ⟨rfl, by omega⟩

theorem newer_s (a b : TEntry) : VCalls Tryz.prog 126 [.agg a.en, .agg b.en] (fun r M => r = B (newer a b) ∧ M = []) := by
  refine VCalls.body Tryz.func126 rfl 22 rfl (fun E => ?_)
  simp only [List.reduceReplicate, List.cons_append, List.nil_append]
  have hclA : Clo (.agg a.en) := Clo.agg a.clo_en
  have hclB : Clo (.agg b.en) := Clo.agg b.clo_en
  have hclP : Clo (.ro 2 (a.feature.points.map TPoint.en)) := clo_list TPoint.clo_en
  have hclQ : Clo (.ro 2 (b.feature.points.map TPoint.en)) := clo_list TPoint.clo_en
  rcases newer_cases a b with ⟨h1, hnw⟩ | ⟨h1, h2, hnw⟩ | ⟨h1, h2, hnw⟩
  all_goals dsimp only [TEntry.en]
  repeat' ((first
    | ((with_reducible show AL ..); first | refine AL.any ?_ | refine AL.U ?_ | refine AL.F ?_ | refine AL.T ?_ | refine AL.W ?_ | refine AL.nil ?_)
    | ((with_reducible show AW ..); first | refine AW.seq ?_ | refine AW.region ?_ | refine AW.skip ?_ | refine AW.block ?_ | refine AW.exit ?_ | refine AW.ret ?_)) <;> (try dsimp only))
  all_goals exact Fin.one rfl (RV.tmp (by rfl)) (clo_c _) ⟨by first | rfl | (simp_all; done), rfl⟩

theorem newer_i (a b : TEntry) : VCalls Tryz.prog 150 [.agg a.en, .agg b.en] (fun r M => r = B (newer a b) ∧ M = []) := by
  refine VCalls.body Tryz.func150 rfl 22 rfl (fun E => ?_)
  simp only [List.reduceReplicate, List.cons_append, List.nil_append]
  have hclA : Clo (.agg a.en) := Clo.agg a.clo_en
  have hclB : Clo (.agg b.en) := Clo.agg b.clo_en
  have hclP : Clo (.ro 2 (a.feature.points.map TPoint.en)) := clo_list TPoint.clo_en
  have hclQ : Clo (.ro 2 (b.feature.points.map TPoint.en)) := clo_list TPoint.clo_en
  rcases newer_cases a b with ⟨h1, hnw⟩ | ⟨h1, h2, hnw⟩ | ⟨h1, h2, hnw⟩
  all_goals dsimp only [TEntry.en]
  repeat' ((first
    | ((with_reducible show AL ..); first | refine AL.any ?_ | refine AL.U ?_ | refine AL.F ?_ | refine AL.T ?_ | refine AL.W ?_ | refine AL.nil ?_)
    | ((with_reducible show AW ..); first | refine AW.seq ?_ | refine AW.region ?_ | refine AW.skip ?_ | refine AW.block ?_ | refine AW.exit ?_ | refine AW.ret ?_)) <;> (try dsimp only))
  all_goals exact Fin.one rfl (RV.tmp (by rfl)) (clo_c _) ⟨by first | rfl | (simp_all; done), rfl⟩

theorem TAtlas.gd.gs {a : TAtlas} (h : a.gd) : a.gs := ⟨⟨h.1.1, fun e he => (h.1.2 e he).1⟩, h.2.1, ⟨h.2.2.1.1, fun e he => ⟨(h.2.2.1.2 e he).1, fun x hx => ((h.2.2.1.2 e he).2 x hx).1⟩⟩⟩
def stp (a o : TAtlas) (ok : Bool) : TAtlas := if (ok && isAtl a && isAtl o) = true then o else a
def stpB (a o : TAtlas) (ok : Bool) : Bool := ok && isAtl a && isAtl o
theorem stp_f {a o : TAtlas} {ok : Bool} (h : stpB a o ok = false) : stp a o ok = a := by unfold stp; unfold stpB at h; rw [h]; rfl
theorem stp_t {a o : TAtlas} {ok : Bool} (h : stpB a o ok = true) : stp a o ok = o := by unfold stp; unfold stpB at h; rw [if_pos h]
theorem stepped_i (a o : TAtlas) (ok : Bool) (hgd : a.gd) (hgo : o.gd) : HCalls Tryz.prog 76 [.agg a.en, .agg o.eo, B ok] o.rw (fun r M => r = .tup [.agg (stp a o ok).eo, B (stpB a o ok)] ∧ M = (stp a o ok).rw) := by
  have hgs := hgd.gs
  have hclA : Clo (.agg a.en) := Clo.agg a.clo_en
  have hclL : Clo (.ro 8 (a.log.map TEntry.en)) := clo_list TEntry.clo_en
  have hclV : Clo (.ro 3 (a.levels.map TLevel.en)) := clo_list TLevel.clo_en
  have hclE : Clo (.ro 3 (a.editions.map TEdition.en)) := clo_list TEdition.clo_en
  refine HCalls.body Tryz.func76 rfl 20 rfl (fun E hE => ?_)
  dsimp only [TAtlas.en, TAtlas.eo, TAtlas.rw]
  simp only [List.reduceReplicate, List.cons_append, List.nil_append]
  repeat' ((first
    | ((with_reducible show AL ..); first | refine AL.any ?_ | refine AL.any (h := POp.O Tryz.func75 (hc := cpA_i a (by assumption))) ?_ | refine AL.U ?_ | refine AL.F ?_ | refine AL.T ?_ | refine AL.T (h := POp.k Tryz.func64 (hc := isAtl_i a (by assumption))) ?_ | refine AL.T (h := POp.D Tryz.func64 (hc := isAtl_i o (by assumption))) ?_ | refine AL.W ?_ | refine AL.W (h := fun h => by (try rw [h]); exact POp.k Tryz.func64 (hc := isAtl_i a (by assumption))) ?_ | refine AL.W (h := fun h => by (try rw [h]); exact POp.D Tryz.func64 (hc := isAtl_i o (by assumption))) ?_ | refine AL.nil ?_)
    | ((with_reducible show AW ..); first | refine AW.seq ?_ | refine AW.region ?_ | refine AW.skip ?_ | refine AW.cT ?_ | refine AW.cF ?_ | (refine AW.c2 ?_ ?_ <;> (intro h; try simp only [bT, bF] at h)) | refine AW.block ?_ | refine AW.exit ?_ | refine AW.ret ?_)) <;> (try dsimp only))
  all_goals first
    | (have hst : stpB a o ok = true := by (unfold stpB; cases ok <;> cases h1 : isAtl a <;> cases h2 : isAtl o <;> simp_all)); rw [stp_t hst, hst]; exact Fin.rows2 [0, 1, 2] rfl (RV.cell (QOp.quietA TT_ok (by rfl))) (RV.tmp (by rfl)) (by decide) (by repeat' (first | exact trivial | refine ⟨⟨_, rfl, ?_⟩, ?_⟩ | exact DCl.b rfl | exact DCl.map (fun _ => rfl))) (by repeat' (first | exact all_nil | refine all_cons ?_ ?_ | exact ⟨⟨_, rfl, rfl⟩, rfl⟩ | (show Clo _; exact clo_of (by rfl)))) ⟨rfl, rfl⟩
    | (have hst : stpB a o ok = false := by (unfold stpB; cases ok <;> cases h1 : isAtl a <;> cases h2 : isAtl o <;> simp_all)); rw [stp_f hst, hst]; exact Fin.rows2 [6, 7, 8] rfl (RV.cell (QOp.quietA TT_ok (by rfl))) (RV.tmp (by rfl)) (by decide) (by repeat' (first | exact trivial | refine ⟨⟨_, rfl, ?_⟩, ?_⟩ | exact DCl.b rfl | exact DCl.map (fun _ => rfl))) (by repeat' (first | exact all_nil | refine all_cons ?_ ?_ | exact ⟨⟨_, rfl, rfl⟩, rfl⟩ | (show Clo _; exact clo_of (by rfl)))) ⟨rfl, rfl⟩

theorem stepped_s (a o : TAtlas) (ok : Bool) (hgd : a.gd) (hgo : o.gd) : HCalls Tryz.prog 73 [.agg a.en, .agg o.eo, B ok] o.rw (fun r M => r = .tup [.agg (stp a o ok).eo, B (stpB a o ok)] ∧ M = (stp a o ok).rw) := by
  have hgs := hgd.gs
  have hclA : Clo (.agg a.en) := Clo.agg a.clo_en
  have hclL : Clo (.ro 8 (a.log.map TEntry.en)) := clo_list TEntry.clo_en
  have hclV : Clo (.ro 3 (a.levels.map TLevel.en)) := clo_list TLevel.clo_en
  have hclE : Clo (.ro 3 (a.editions.map TEdition.en)) := clo_list TEdition.clo_en
  refine HCalls.body Tryz.func73 rfl 20 rfl (fun E hE => ?_)
  dsimp only [TAtlas.en, TAtlas.eo, TAtlas.rw]
  simp only [List.reduceReplicate, List.cons_append, List.nil_append]
  repeat' ((first
    | ((with_reducible show AL ..); first | refine AL.any ?_ | refine AL.any (h := POp.O Tryz.func60 (hc := cpA_s a (by assumption))) ?_ | refine AL.U ?_ | refine AL.F ?_ | refine AL.T ?_ | refine AL.T (h := POp.k Tryz.func61 (hc := isAtl_s a (by assumption))) ?_ | refine AL.T (h := POp.D Tryz.func61 (hc := isAtl_s o (by assumption))) ?_ | refine AL.W ?_ | refine AL.W (h := fun h => by (try rw [h]); exact POp.k Tryz.func61 (hc := isAtl_s a (by assumption))) ?_ | refine AL.W (h := fun h => by (try rw [h]); exact POp.D Tryz.func61 (hc := isAtl_s o (by assumption))) ?_ | refine AL.nil ?_)
    | ((with_reducible show AW ..); first | refine AW.seq ?_ | refine AW.region ?_ | refine AW.skip ?_ | refine AW.cT ?_ | refine AW.cF ?_ | (refine AW.c2 ?_ ?_ <;> (intro h; try simp only [bT, bF] at h)) | refine AW.block ?_ | refine AW.exit ?_ | refine AW.ret ?_)) <;> (try dsimp only))
  all_goals first
    | (have hst : stpB a o ok = true := by (unfold stpB; cases ok <;> cases h1 : isAtl a <;> cases h2 : isAtl o <;> simp_all)); rw [stp_t hst, hst]; exact Fin.rows2 [0, 1, 2] rfl (RV.cell (QOp.quietA TT_ok (by rfl))) (RV.tmp (by rfl)) (by decide) (by repeat' (first | exact trivial | refine ⟨⟨_, rfl, ?_⟩, ?_⟩ | exact DCl.b rfl | exact DCl.map (fun _ => rfl))) (by repeat' (first | exact all_nil | refine all_cons ?_ ?_ | exact ⟨⟨_, rfl, rfl⟩, rfl⟩ | (show Clo _; exact clo_of (by rfl)))) ⟨rfl, rfl⟩
    | (have hst : stpB a o ok = false := by (unfold stpB; cases ok <;> cases h1 : isAtl a <;> cases h2 : isAtl o <;> simp_all)); rw [stp_f hst, hst]; exact Fin.rows2 [6, 7, 8] rfl (RV.cell (QOp.quietA TT_ok (by rfl))) (RV.tmp (by rfl)) (by decide) (by repeat' (first | exact trivial | refine ⟨⟨_, rfl, ?_⟩, ?_⟩ | exact DCl.b rfl | exact DCl.map (fun _ => rfl))) (by repeat' (first | exact all_nil | refine all_cons ?_ ?_ | exact ⟨⟨_, rfl, rfl⟩, rfl⟩ | (show Clo _; exact clo_of (by rfl)))) ⟨rfl, rfl⟩

theorem stepped_iX (a o : TAtlas) (ok : Bool) (hgd : a.gd) (hgo : o.gd) : HCalls Tryz.prog 76 [.agg [.ro 8 (a.log.map TEntry.en), .ro 3 (a.levels.map TLevel.en), .ro 3 (a.editions.map TEdition.en), I a.cover.w, I a.cover.h, S a.cover.cells, I a.now], .agg [.own 0 0, .own 1 0, .own 2 0, I o.cover.w, I o.cover.h, S o.cover.cells, I o.now], B ok] [some ⟨121, 8, 0, false, o.log.map TEntry.ed⟩, some ⟨97, 3, 0, false, o.levels.map TLevel.en⟩, some ⟨136, 3, 0, false, o.editions.map TEdition.ed⟩] (fun r M => r = .tup [.agg [.own 0 0, .own 1 0, .own 2 0, I (stp a o ok).cover.w, I (stp a o ok).cover.h, S (stp a o ok).cover.cells, I (stp a o ok).now], B (stpB a o ok)] ∧ M = [some ⟨121, 8, 0, false, (stp a o ok).log.map TEntry.ed⟩, some ⟨97, 3, 0, false, (stp a o ok).levels.map TLevel.en⟩, some ⟨136, 3, 0, false, (stp a o ok).editions.map TEdition.ed⟩]) := stepped_i a o ok hgd hgo
theorem cpA_iX (a : TAtlas) (hgs : a.gs) : VCalls Tryz.prog 75 [.agg [.ro 8 (a.log.map TEntry.en), .ro 3 (a.levels.map TLevel.en), .ro 3 (a.editions.map TEdition.en), I a.cover.w, I a.cover.h, S a.cover.cells, I a.now]] (fun r M => r = .agg [.own 0 0, .own 1 0, .own 2 0, I a.cover.w, I a.cover.h, S a.cover.cells, I a.now] ∧ M = [some ⟨121, 8, 0, false, a.log.map TEntry.ed⟩, some ⟨97, 3, 0, false, a.levels.map TLevel.en⟩, some ⟨136, 3, 0, false, a.editions.map TEdition.ed⟩]) := cpA_i a hgs
theorem stepped_sX (a o : TAtlas) (ok : Bool) (hgd : a.gd) (hgo : o.gd) : HCalls Tryz.prog 73 [.agg [.ro 8 (a.log.map TEntry.en), .ro 3 (a.levels.map TLevel.en), .ro 3 (a.editions.map TEdition.en), I a.cover.w, I a.cover.h, S a.cover.cells, I a.now], .agg [.own 0 0, .own 1 0, .own 2 0, I o.cover.w, I o.cover.h, S o.cover.cells, I o.now], B ok] [some ⟨121, 8, 0, false, o.log.map TEntry.ed⟩, some ⟨97, 3, 0, false, o.levels.map TLevel.en⟩, some ⟨136, 3, 0, false, o.editions.map TEdition.ed⟩] (fun r M => r = .tup [.agg [.own 0 0, .own 1 0, .own 2 0, I (stp a o ok).cover.w, I (stp a o ok).cover.h, S (stp a o ok).cover.cells, I (stp a o ok).now], B (stpB a o ok)] ∧ M = [some ⟨121, 8, 0, false, (stp a o ok).log.map TEntry.ed⟩, some ⟨97, 3, 0, false, (stp a o ok).levels.map TLevel.en⟩, some ⟨136, 3, 0, false, (stp a o ok).editions.map TEdition.ed⟩]) := stepped_s a o ok hgd hgo
theorem cpA_sX (a : TAtlas) (hgs : a.gs) : VCalls Tryz.prog 60 [.agg [.ro 8 (a.log.map TEntry.en), .ro 3 (a.levels.map TLevel.en), .ro 3 (a.editions.map TEdition.en), I a.cover.w, I a.cover.h, S a.cover.cells, I a.now]] (fun r M => r = .agg [.own 0 0, .own 1 0, .own 2 0, I a.cover.w, I a.cover.h, S a.cover.cells, I a.now] ∧ M = [some ⟨121, 8, 0, false, a.log.map TEntry.ed⟩, some ⟨97, 3, 0, false, a.levels.map TLevel.en⟩, some ⟨136, 3, 0, false, a.editions.map TEdition.ed⟩]) := cpA_s a hgs
theorem View.tup' {M : Mem} {cs cs' : List AV} (h : VwL M cs cs') : View M (.tup cs) (.tup cs') := fun base w0 w Fx β Fc u hh hF hown hr => by
  have hl := h.get.1
  cases hr with
  | tup hl2 h3 => exact .tup (by rw [hl2, hl]) (fun i x' u hx hu => by
      have hlt : i < cs.length := by rw [← hl]; exact (List.getElem?_eq_some_iff.1 hx).1
      exact h.get.2 i _ x' (List.getElem?_eq_getElem hlt) hx _ _ _ _ _ _ _ hh hF hown (h3 i _ u (List.getElem?_eq_getElem hlt) hu))

end Go.Proofs.YtacbpfbelcdeiaaGreat.Abs
