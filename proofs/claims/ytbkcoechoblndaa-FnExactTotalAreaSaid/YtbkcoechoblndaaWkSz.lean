/- The walks of the size tests, and that what is left bounds the lengths. -/
import Derived.Test.YtbkcoechoblndaaWkFacts
namespace Go.Proofs.Ytbkcoechoblndaa.Abs
open Go.Proofs Go.RowKit
set_option linter.unusedVariables false
set_option linter.unusedSimpArgs false
attribute [local irreducible] OpA AL AW DL DLM DLR QOp POp VCalls VCallsI
abbrev wsub (a b : Int) : Int := IntKind.i64.wrap (a - b)
def thenS (a : Int) (k : Int → Int) : Int := if a < 0 then -1 else k a
def szN (n : Nat) (left : Int) : Int := thenS (wsub left n) fun a => a
def szAcc {α : Type} (f : α → Int → Int) (l : List α) (left : Int) (i : Nat) : Int := (l.take i).foldl (fun acc x => if acc < 0 then -1 else f x acc) left
def szL {α : Type} (f : α → Int → Int) (l : List α) (left : Int) : Int := thenS (wsub left l.length) fun a => szAcc f l a l.length
theorem szAcc_succ {α : Type} {f : α → Int → Int} {l : List α} {left : Int} {i : Nat} {x : α} (h : l[i]? = some x) (h0 : 0 ≤ szAcc f l left i) : szAcc f l left (i + 1) = f x (szAcc f l left i) := by
  unfold szAcc at *
  rw [take_succ_of h, List.foldl_append]
  simp only [List.foldl_cons, List.foldl_nil]
  rw [if_neg (by omega)]
theorem sz_stuck {α : Type} (f : α → Int → Int) : ∀ (l : List α) (a : Int), a < 0 → l.foldl (fun acc x => if acc < 0 then -1 else f x acc) a = -1 ∨ l.foldl (fun acc x => if acc < 0 then -1 else f x acc) a = a
  | [], a, h => .inr rfl
  | x :: l, a, h => by
    rw [List.foldl_cons, if_pos h]
    rcases sz_stuck f l (-1) (by omega) with e | e <;> exact .inl e
theorem szAcc_lt {α : Type} {f : α → Int → Int} {l : List α} {left : Int} {i : Nat} {x : α} (hf : f x (szAcc f l left i) < 0 → f x (szAcc f l left i) = -1) (hx : l[i]? = some x) (h0 : 0 ≤ szAcc f l left i) (h : f x (szAcc f l left i) < 0) : szAcc f l left l.length = -1 := by
  have e : szAcc f l left l.length = (l.drop (i + 1)).foldl (fun acc x => if acc < 0 then -1 else f x acc) (szAcc f l left (i + 1)) := by
    unfold szAcc
    rw [← List.foldl_append, List.take_append_drop, List.take_length]
  rw [e, szAcc_succ hx h0, hf h]
  rcases sz_stuck f (l.drop (i + 1)) (-1) (by omega) with e | e <;> exact e
theorem thenS_lt {a : Int} {k : Int → Int} (hk : k a < 0 → k a = -1) (h : thenS a k < 0) : thenS a k = -1 := by
  unfold thenS at *
  split
  · rfl
  · rename_i h1; rw [if_neg h1] at h; exact hk h
theorem thenS_id {a : Int} (h : thenS a (fun a => a) < 0) : thenS a (fun a => a) = -1 := by
  unfold thenS at *
  split
  · rfl
  · rename_i h1; rw [if_neg h1] at h; exact absurd h h1
theorem thenS_ge {a : Int} {k : Int → Int} (h : 0 ≤ thenS a k) : 0 ≤ a ∧ thenS a k = k a := by
  unfold thenS at *
  split
  · rename_i h1; rw [if_pos h1] at h; omega
  · rename_i h1; exact ⟨by omega, rfl⟩
theorem maxLen_eq : maxLen = 9223372036854775807 := by decide
theorem wsub_ge {left : Int} {n : Nat} (hn : n ≤ maxLen) (h0 : 0 ≤ left) (h1 : left ≤ 1048576) : wsub left n = left - n := by
  rw [maxLen_eq] at hn
  exact w64 (by omega) (by omega)
/-- A size test that leaves something: what was there was small. -/
def Szs {α : Type} (f : α → Int → Int) (ok sm : α → Prop) : Prop := ∀ x left, ok x → 0 ≤ left → left ≤ 1048576 → 0 ≤ f x left → sm x ∧ f x left ≤ left
theorem Szs.mem {α : Type} {f : α → Int → Int} {ok sm : α → Prop} (h : Szs f ok sm) : ∀ (l : List α) (a : Int), (∀ x ∈ l, ok x) → 0 ≤ a → a ≤ 1048576 → 0 ≤ l.foldl (fun acc x => if acc < 0 then -1 else f x acc) a → (∀ x ∈ l, sm x) ∧ l.foldl (fun acc x => if acc < 0 then -1 else f x acc) a ≤ a
  | [], a, _, _, _, _ => ⟨fun x hx => by simp at hx, Int.le_refl _⟩
  | x :: l, a, hk, h0, h1, hp => by
    rw [List.foldl_cons, if_neg (by omega)] at hp ⊢
    have hx0 : 0 ≤ f x a := by
      rcases (by omega : f x a < 0 ∨ 0 ≤ f x a) with hn | hn
      · rcases sz_stuck f l (f x a) hn with e | e <;> rw [e] at hp <;> omega
      · exact hn
    obtain ⟨s1, s2⟩ := h x a (hk x (List.mem_cons_self ..)) h0 h1 hx0
    obtain ⟨t1, t2⟩ := Szs.mem h l (f x a) (fun y hy => hk y (List.mem_cons_of_mem _ hy)) hx0 (by omega) hp
    exact ⟨fun y hy => by rcases List.mem_cons.1 hy with rfl | hy <;> first | exact s1 | exact t1 y hy, by omega⟩
theorem Szs.list {α : Type} {f : α → Int → Int} {ok sm : α → Prop} (h : Szs f ok sm) : Szs (szL f) (fun l : List α => l.length ≤ maxLen ∧ ∀ x ∈ l, ok x) (fun l => l.length ≤ 1048576 ∧ ∀ x ∈ l, sm x) := by
  intro l left hk h0 h1 hp
  obtain ⟨a, b⟩ := thenS_ge hp
  have e := wsub_ge hk.1 h0 h1
  rw [show szL f l left = _ from b] at hp ⊢
  unfold szAcc at hp ⊢
  rw [List.take_length] at hp ⊢
  obtain ⟨s, t⟩ := h.mem l _ hk.2 a (by omega) hp
  exact ⟨⟨by omega, s⟩, by omega⟩
theorem Szs.flat {α : Type} {ok : α → Prop} : Szs (fun (l : List α) => szN l.length) (fun l : List α => l.length ≤ maxLen ∧ ∀ x ∈ l, ok x) (fun l => l.length ≤ 1048576) := by
  intro l left hk h0 h1 hp
  obtain ⟨a, b⟩ := thenS_ge (show 0 ≤ szN l.length left from hp)
  have e := wsub_ge hk.1 h0 h1
  change _ ∧ szN l.length left ≤ left
  rw [show szN l.length left = _ from b]
  exact ⟨by omega, by omega⟩
theorem Szs.split {α : Type} {f : α → Int → Int} {ok sm : α → Prop} (h : Szs f ok sm) (x : α) (left : Int) (hk : ok x) (h0 : 0 ≤ left) (h1 : left ≤ 1048576) : decide (f x left < 0) = true ∨ (decide (f x left < 0) = false ∧ sm x ∧ 0 ≤ f x left ∧ f x left ≤ 1048576) := by
  rcases (by omega : f x left < 0 ∨ 0 ≤ f x left) with hz | hz
  · exact .inl (decide_eq_true hz)
  · obtain ⟨a, b⟩ := h x left hk h0 h1 hz
    exact .inr ⟨decide_eq_false (by omega), a, hz, by omega⟩

def TFeature.sm (x : TFeature) : Prop := (x.points.length ≤ 1048576)
def TFeature.sz (x : TFeature) (left : Int) : Int := thenS (wsub left x.name.size) fun a0 => thenS (szN x.points.length a0) fun a1 => a1
theorem TFeature.sz_lt (x : TFeature) (left : Int) (h : x.sz left < 0) : x.sz left = -1 := by
  unfold TFeature.sz at *
  with_reducible refine thenS_lt (fun h => ?_) h
  with_reducible exact thenS_id h
theorem TFeature.szs : Szs TFeature.sz TFeature.ok (fun x => x.sm) := by
  intro x left hk h0 h1 hp
  obtain ⟨k0, k1, k2, k3, k4⟩ := hk
  unfold TFeature.sz at *
  obtain ⟨p0, e0⟩ := thenS_ge hp
  rw [e0] at hp ⊢
  have s0 := wsub_ge k3 h0 h1
  have u0 := Int.le_trans (Int.le_of_eq s0) (by omega : _ ≤ (1048576 : Int))
  have q0 := Int.le_trans (Int.le_of_eq s0) (by omega : _ ≤ left)
  obtain ⟨p1, e1⟩ := thenS_ge hp
  rw [e1] at hp ⊢
  have s1 := Szs.flat (ok := TPoint.ok) _ _ k4 p0 u0 p1
  try dsimp only at s1
  have u1 := Int.le_trans s1.2 u0
  have q1 := Int.le_trans s1.2 q0
  exact ⟨s1.1, q1⟩
set_option maxRecDepth 100000 in
set_option maxHeartbeats 2000000 in
theorem szPointS (l : List TPoint) (left : Int) : VCalls Try.prog 80 [.ro 2 (l.map TPoint.en), I left] (fun r M => r = I (szN l.length left) ∧ M = []) := by
  refine VCalls.body Try.func80 rfl 10 rfl (fun E => ?_)
  simp only [List.reduceReplicate, List.cons_append, List.nil_append]
  repeat' ((first
    | ((with_reducible show OpA _ _ _ _ _ _); first
      | refine OpA.quiet (QOp.len_own (by rfl) (TT_ok.sl _ _ (by rfl)) (by rfl) (by rfl) (by rfl) (by rfl)) ?_)
    | ((with_reducible show AL _ _ _ _ _ _ _); first
      | refine AL.q TT_ok rfl (by rfl) ?_
      | refine AL.step rfl ?_
      | refine AL.nil ?_)
    | ((with_reducible show AW _ _ _ _ _ _); first
      | refine AW.seq ?_
      | refine AW.region ?_
      | refine AW.skip ?_
      | (refine AW.cond (by rfl) (fun h => ?_) ?_; rotate_left; focus (intro h; (try simp only [Bool.not_eq_true', Bool.not_eq_false'] at h); first | (cases h; done) | exact clash (by with_reducible_and_instances assumption) h | exact clash h (by with_reducible_and_instances assumption) | exact absurd h (by decide) | (refine absurd h ?_; simp; done)))
      | (refine AW.cond (by rfl) ?_ (fun h => ?_); focus (intro h; (try simp only [Bool.not_eq_true', Bool.not_eq_false'] at h); first | (cases h; done) | exact clash (by with_reducible_and_instances assumption) h | exact clash h (by with_reducible_and_instances assumption) | exact absurd h (by decide) | (refine absurd h ?_; simp; done)))
      | (refine AW.cond (by rfl) ?_ ?_ <;> (intro h; try simp only [Bool.not_eq_true', Bool.not_eq_false'] at h))
      | refine AW.ret ?_)
    | with_reducible refine (if_pos rfl).mpr ?_
    | with_reducible refine (if_neg (by decide)).mpr ?_) <;> (try dsimp only [dput, List.set, cond_true, cond_false, Nat.zero_add, Nat.add_zero, Nat.reduceAdd, splice, List.take, List.drop, List.length, List.nil_append, List.cons_append, List.append, TPoint.en, TSegment.en, TBox.en, TFeature.en, TMeet.en, TPlace.en, TCover.en, TLabel.en, TPiece.en, TLevel.en, TChart.en, TReason.en, TEdit.en, TEntry.en, TEdition.en, TListing.en, TAtlas.en, TEvent.en, TWindow.en]))
  all_goals exact Fin.one rfl (RV.tmp (by rfl)) (clo_c _) ⟨by first | rfl | ((try simp only [List.length_map] at *); simp only [szN, thenS]; (repeat' split) <;> (try simp_all [thenS, szN]) <;> (try omega)), rfl⟩

set_option maxRecDepth 100000 in
set_option maxHeartbeats 2000000 in
theorem szFeature (x : TFeature) (left : Int) (hk : x.ok) : VCalls Try.prog 38 [.agg x.en, I left] (fun r M => r = I (x.sz left) ∧ M = []) := by
  refine VCalls.body Try.func38 rfl 17 rfl (fun E => ?_)
  simp only [List.reduceReplicate, List.cons_append, List.nil_append]
  have hclo0 : Clo (.ro 2 (x.points.map TPoint.en)) := clo_list TPoint.clo_en
  have hcle : Clo (.agg x.en) := Clo.agg x.clo_en
  have hk' := hk
  obtain ⟨k0, k1, k2, k3, k4⟩ := hk
  obtain ⟨k4, k4'⟩ := k4
  rw [maxLen_eq] at k4
  dsimp only [TFeature.en]
  repeat' ((first
    | ((with_reducible show OpA _ _ _ _ _ _); first
      | refine OpA.quiet (QOp.ld1_ro (by rfl) (by rfl) (by assumption) (TT_ok.ld _ _ (by rfl)) (by rfl)) ?_
      | refine OpA.quiet (QOp.ldr_ro (by rfl) (by rfl) (by assumption) (TT_ok.ld _ _ (by rfl)) (Nat.le_of_ble_eq_true (by rfl))) ?_
      | refine OpA.quiet (QOp.len_own (by rfl) (TT_ok.sl _ _ (by rfl)) (by rfl) (by rfl) (by rfl) (by rfl)) ?_
      | refine OpA.box (by rfl) (by rfl) (by rfl) ?_
      | refine OpA.pcall (by rfl) Try.func80 rfl rfl (by rfl) (by first | exact clo_all (by rfl) | repeat' (first | exact clo_nil | refine clo_cons ?_ ?_ | exact clo_of (by rfl) | exact clo_fn _ | assumption)) (szPointS _ _) (by first | exact clo_of (by rfl) | assumption) ?_)
    | ((with_reducible show AL _ _ _ _ _ _ _); first
      | refine AL.q TT_ok rfl (by rfl) ?_
      | refine AL.step rfl ?_
      | refine AL.nil ?_)
    | ((with_reducible show AW _ _ _ _ _ _); first
      | refine AW.seq ?_
      | refine AW.region ?_
      | refine AW.skip ?_
      | (refine AW.cond (by rfl) (fun h => ?_) ?_; rotate_left; focus (intro h; (try simp only [Bool.not_eq_true', Bool.not_eq_false'] at h); first | (cases h; done) | exact clash (by with_reducible_and_instances assumption) h | exact clash h (by with_reducible_and_instances assumption) | exact absurd h (by decide) | (refine absurd h ?_; simp; done)))
      | (refine AW.cond (by rfl) ?_ (fun h => ?_); focus (intro h; (try simp only [Bool.not_eq_true', Bool.not_eq_false'] at h); first | (cases h; done) | exact clash (by with_reducible_and_instances assumption) h | exact clash h (by with_reducible_and_instances assumption) | exact absurd h (by decide) | (refine absurd h ?_; simp; done)))
      | (refine AW.cond (by rfl) ?_ ?_ <;> (intro h; try simp only [Bool.not_eq_true', Bool.not_eq_false'] at h))
      | refine AW.ret ?_)
    | with_reducible refine (if_pos rfl).mpr ?_
    | with_reducible refine (if_neg (by decide)).mpr ?_) <;> (try dsimp only [dput, List.set, cond_true, cond_false, Nat.zero_add, Nat.add_zero, Nat.reduceAdd, splice, List.take, List.drop, List.length, List.nil_append, List.cons_append, List.append, TPoint.en, TSegment.en, TBox.en, TFeature.en, TMeet.en, TPlace.en, TCover.en, TLabel.en, TPiece.en, TLevel.en, TChart.en, TReason.en, TEdit.en, TEntry.en, TEdition.en, TListing.en, TAtlas.en, TEvent.en, TWindow.en]))
  all_goals exact Fin.one rfl (RV.tmp (by rfl)) (clo_c _) ⟨by first | rfl | ((try simp only [List.length_map] at *); simp only [TFeature.sz, thenS, szN]; (repeat' split) <;> (try simp_all [thenS, szN]) <;> (try omega)), rfl⟩

set_option maxRecDepth 100000 in
set_option maxHeartbeats 2000000 in
theorem szFeatureS (l : List TFeature) (left : Int) (hl : l.length ≤ 9223372036854775807) (hp : ∀ x ∈ l, x.ok) : VCalls Try.prog 13 [.ro 5 (l.map TFeature.en), I left] (fun r M => r = I (szL TFeature.sz l left) ∧ M = []) := by
  refine VCalls.bodyE Try.func13 rfl 25 rfl (fun E hE => ?_)
  simp only [List.reduceReplicate, List.cons_append, List.nil_append]
  repeat' ((first
    | ((with_reducible show OpA _ _ _ _ _ _); first
      | refine OpA.quiet (QOp.atk_ro (by rfl) (by rfl) (by rfl) (TT_ok.sl _ _ (by rfl)) (Nat.le_of_ble_eq_true (by rfl)) (by first | assumption | omega) (by assumption)) ?_
      | refine OpA.quiet (QOp.ld1_ro (by rfl) (by rfl) (by assumption) (TT_ok.ld _ _ (by rfl)) (by rfl)) ?_
      | refine OpA.quiet (QOp.ldr_ro (by rfl) (by rfl) (by assumption) (TT_ok.ld _ _ (by rfl)) (Nat.le_of_ble_eq_true (by rfl))) ?_
      | refine OpA.quiet (QOp.at_own (by rfl) (TT_ok.sl _ _ (by rfl)) (by rfl) (by rfl) (by rfl) (by rfl) (by rfl) (by rfl) (by first | assumption | omega | decide) (by first | assumption | omega | decide)) ?_
      | refine OpA.quiet (QOp.len_own (by rfl) (TT_ok.sl _ _ (by rfl)) (by rfl) (by rfl) (by rfl) (by rfl)) ?_
      | (refine OpA.quiet (QOp.cat (by rfl) (by rfl) (by rfl) (by first | assumption | (simp only [ByteArray.size_append, bs_size] at *; omega))) ?_)
      | refine OpA.pcall (by rfl) Try.func38 rfl rfl (by rfl) (by first | exact clo_all (by rfl) | repeat' (first | exact clo_nil | refine clo_cons ?_ ?_ | exact clo_of (by rfl) | exact clo_fn _ | assumption)) (szFeature x _ (by assumption)) (by first | exact clo_of (by rfl) | assumption) ?_)
    | ((with_reducible show AL _ _ _ _ _ _ _); first
      | refine AL.q TT_ok rfl (by rfl) ?_
      | refine AL.step rfl ?_
      | refine AL.nil ?_)
    | ((with_reducible show AW _ _ _ _ _ _); first
      | refine AW.seq ?_
      | refine AW.region ?_
      | refine AW.skip ?_
      | (refine AW.loopD hE (fun i : Nat => [.ro 5 (l.map TFeature.en), I (szAcc TFeature.sz l (wsub left l.length) i), .any, .any, .any, I i, .any, .any, .any, .any, .any, .any, .any, .any, .any, .any, .any, .any, .any, .any, .any, .any, .any, .any, .any, .any, .any]) (fun i => []) (fun i => l.length - i) (fun i => i ≤ l.length ∧ 0 ≤ szAcc TFeature.sz l (wsub left l.length) i) 0 (by simp_all [szAcc, wsub]) ?_ (by first | rfl | (simp [fil_zero]; done)) ?_)
      | (refine AW.cond (by rfl) (fun h => ?_) ?_; rotate_left; focus (intro h; (try simp only [Bool.not_eq_true', Bool.not_eq_false'] at h); first | (cases h; done) | exact clash (by with_reducible_and_instances assumption) h | exact clash h (by with_reducible_and_instances assumption) | exact absurd h (by decide) | (refine absurd h ?_; simp; done)))
      | (refine AW.cond (by rfl) ?_ (fun h => ?_); focus (intro h; (try simp only [Bool.not_eq_true', Bool.not_eq_false'] at h); first | (cases h; done) | exact clash (by with_reducible_and_instances assumption) h | exact clash h (by with_reducible_and_instances assumption) | exact absurd h (by decide) | (refine absurd h ?_; simp; done)))
      | (refine AW.cond (by rfl) ?_ ?_ <;> (intro h; try simp only [Bool.not_eq_true', Bool.not_eq_false'] at h))
      | refine AW.block ?_
      | refine AW.exit ?_
      | refine AW.ret ?_)
    | with_reducible refine (if_pos rfl).mpr ?_
    | with_reducible refine (if_neg (by decide)).mpr ?_) <;> (try dsimp only [dput, List.set, cond_true, cond_false, Nat.zero_add, Nat.add_zero, Nat.reduceAdd, splice, List.take, List.drop, List.length, List.nil_append, List.cons_append, List.append, TPoint.en, TSegment.en, TBox.en, TFeature.en, TMeet.en, TPlace.en, TCover.en, TLabel.en, TPiece.en, TLevel.en, TChart.en, TReason.en, TEdit.en, TEntry.en, TEdition.en, TListing.en, TAtlas.en, TEvent.en, TWindow.en]))
  · exact Fin.one rfl (RV.tmp (by rfl)) (clo_c _) ⟨by simp_all [szL, thenS, wsub], rfl⟩
  · (repeat' (first | exact Wk.nil | refine Wk.any ?_ | (with_reducible refine Wk.same ?_) | refine Wk.of ?_ ?_)) <;> first | rfl | (simp [szAcc, wsub])
  · intro i hi
    have hclo : Clo (.ro 5 (l.map TFeature.en)) := clo_list TFeature.clo_en
    by_cases hlt : i < l.length
    · obtain ⟨x, hx⟩ : ∃ x, l[i]? = some x := ⟨_, List.getElem?_eq_getElem hlt⟩
      have hg := map_get (f := TFeature.en) hx
      have ht := lt_true (f := TFeature.en) hlt
      have hn := next_ix hlt (by omega)
      have hpx := hp x (List.mem_of_getElem? hx)
      have hcle : Clo (.agg x.en) := Clo.agg x.clo_en
      have hs := szAcc_succ (f := TFeature.sz) (left := wsub left l.length) hx hi.2
      repeat' ((first
        | ((with_reducible show OpA _ _ _ _ _ _); first
          | refine OpA.quiet (QOp.atk_ro (by rfl) (by rfl) (by rfl) (TT_ok.sl _ _ (by rfl)) (Nat.le_of_ble_eq_true (by rfl)) (by first | assumption | omega) (by assumption)) ?_
          | refine OpA.quiet (QOp.ld1_ro (by rfl) (by rfl) (by assumption) (TT_ok.ld _ _ (by rfl)) (by rfl)) ?_
          | refine OpA.quiet (QOp.ldr_ro (by rfl) (by rfl) (by assumption) (TT_ok.ld _ _ (by rfl)) (Nat.le_of_ble_eq_true (by rfl))) ?_
          | refine OpA.quiet (QOp.at_own (by rfl) (TT_ok.sl _ _ (by rfl)) (by rfl) (by rfl) (by rfl) (by rfl) (by rfl) (by rfl) (by first | assumption | omega | decide) (by first | assumption | omega | decide)) ?_
          | refine OpA.quiet (QOp.len_own (by rfl) (TT_ok.sl _ _ (by rfl)) (by rfl) (by rfl) (by rfl) (by rfl)) ?_
          | (refine OpA.quiet (QOp.cat (by rfl) (by rfl) (by rfl) (by first | assumption | (simp only [ByteArray.size_append, bs_size] at *; omega))) ?_)
          | refine OpA.pcall (by rfl) Try.func38 rfl rfl (by rfl) (by first | exact clo_all (by rfl) | repeat' (first | exact clo_nil | refine clo_cons ?_ ?_ | exact clo_of (by rfl) | exact clo_fn _ | assumption)) (szFeature x _ (by assumption)) (by first | exact clo_of (by rfl) | assumption) ?_)
        | ((with_reducible show AL _ _ _ _ _ _ _); first
          | refine AL.q TT_ok rfl (by rfl) ?_
          | refine AL.step rfl ?_
          | refine AL.nil ?_)
        | ((with_reducible show AW _ _ _ _ _ _); first
          | refine AW.seq ?_
          | refine AW.region ?_
          | refine AW.skip ?_
          | (refine AW.cond (by rfl) (fun h => ?_) ?_; rotate_left; focus (intro h; (try simp only [Bool.not_eq_true', Bool.not_eq_false'] at h); first | (cases h; done) | exact clash (by with_reducible_and_instances assumption) h | exact clash h (by with_reducible_and_instances assumption) | exact absurd h (by decide) | (refine absurd h ?_; simp; done)))
          | (refine AW.cond (by rfl) ?_ (fun h => ?_); focus (intro h; (try simp only [Bool.not_eq_true', Bool.not_eq_false'] at h); first | (cases h; done) | exact clash (by with_reducible_and_instances assumption) h | exact clash h (by with_reducible_and_instances assumption) | exact absurd h (by decide) | (refine absurd h ?_; simp; done)))
          | (refine AW.cond (by rfl) ?_ ?_ <;> (intro h; try simp only [Bool.not_eq_true', Bool.not_eq_false'] at h))
          | refine AW.block ?_
          | refine AW.exit ?_
          | refine AW.ret ?_)
        | with_reducible refine (if_pos rfl).mpr ?_
        | with_reducible refine (if_neg (by decide)).mpr ?_) <;> (try dsimp only [dput, List.set, cond_true, cond_false, Nat.zero_add, Nat.add_zero, Nat.reduceAdd, splice, List.take, List.drop, List.length, List.nil_append, List.cons_append, List.append, TPoint.en, TSegment.en, TBox.en, TFeature.en, TMeet.en, TPlace.en, TCover.en, TLabel.en, TPiece.en, TLevel.en, TChart.en, TReason.en, TEdit.en, TEntry.en, TEdition.en, TListing.en, TAtlas.en, TEvent.en, TWindow.en]))
      all_goals first
        | (refine ⟨i + 1, _, ⟨hlt, by rw [hs]; simp_all⟩, by omega, ?_, rfl, ?_, ?_⟩; (focus ((repeat' (first | exact Wk.nil | refine Wk.any ?_ | (with_reducible refine Wk.same ?_) | refine Wk.of ?_ ?_)) <;> (first | (rw [hs]; done) | simp_all [szAcc, wsub]))); (focus ((repeat' (first | exact Fits.nil _ | refine Fits.cons ?_ ?_ | exact Fits.any _ | exact Fits.c _ _ | exact Fits.own (by rfl) | exact Fits.ref (by rfl) | exact Fits.clo (by assumption) | exact Fits.clo (clo_of (by rfl)) | exact Fits.clo (clo_fn _))))); (focus (exact FitsM.nil _)))
        | exact Fin.one rfl (RV.tmp (by rfl)) (clo_c _) ⟨by have e := szAcc_lt (TFeature.sz_lt x _) hx hi.2 (by simp_all); simp_all [szL, thenS, wsub], rfl⟩
    · have ht := lt_false (f := TFeature.en) hlt
      have e : i = l.length := by omega
      subst e
      try rw [List.take_length]
      repeat' ((first
        | ((with_reducible show OpA _ _ _ _ _ _); first
          | refine OpA.quiet (QOp.atk_ro (by rfl) (by rfl) (by rfl) (TT_ok.sl _ _ (by rfl)) (Nat.le_of_ble_eq_true (by rfl)) (by first | assumption | omega) (by assumption)) ?_
          | refine OpA.quiet (QOp.ld1_ro (by rfl) (by rfl) (by assumption) (TT_ok.ld _ _ (by rfl)) (by rfl)) ?_
          | refine OpA.quiet (QOp.ldr_ro (by rfl) (by rfl) (by assumption) (TT_ok.ld _ _ (by rfl)) (Nat.le_of_ble_eq_true (by rfl))) ?_
          | refine OpA.quiet (QOp.at_own (by rfl) (TT_ok.sl _ _ (by rfl)) (by rfl) (by rfl) (by rfl) (by rfl) (by rfl) (by rfl) (by first | assumption | omega | decide) (by first | assumption | omega | decide)) ?_
          | refine OpA.quiet (QOp.len_own (by rfl) (TT_ok.sl _ _ (by rfl)) (by rfl) (by rfl) (by rfl) (by rfl)) ?_
          | (refine OpA.quiet (QOp.cat (by rfl) (by rfl) (by rfl) (by first | assumption | (simp only [ByteArray.size_append, bs_size] at *; omega))) ?_)
          | refine OpA.pcall (by rfl) Try.func38 rfl rfl (by rfl) (by first | exact clo_all (by rfl) | repeat' (first | exact clo_nil | refine clo_cons ?_ ?_ | exact clo_of (by rfl) | exact clo_fn _ | assumption)) (szFeature x _ (by assumption)) (by first | exact clo_of (by rfl) | assumption) ?_)
        | ((with_reducible show AL _ _ _ _ _ _ _); first
          | refine AL.q TT_ok rfl (by rfl) ?_
          | refine AL.step rfl ?_
          | refine AL.nil ?_)
        | ((with_reducible show AW _ _ _ _ _ _); first
          | refine AW.seq ?_
          | refine AW.region ?_
          | refine AW.skip ?_
          | (refine AW.cond (by rfl) (fun h => ?_) ?_; rotate_left; focus (intro h; (try simp only [Bool.not_eq_true', Bool.not_eq_false'] at h); first | (cases h; done) | exact clash (by with_reducible_and_instances assumption) h | exact clash h (by with_reducible_and_instances assumption) | exact absurd h (by decide) | (refine absurd h ?_; simp; done)))
          | (refine AW.cond (by rfl) ?_ (fun h => ?_); focus (intro h; (try simp only [Bool.not_eq_true', Bool.not_eq_false'] at h); first | (cases h; done) | exact clash (by with_reducible_and_instances assumption) h | exact clash h (by with_reducible_and_instances assumption) | exact absurd h (by decide) | (refine absurd h ?_; simp; done)))
          | (refine AW.cond (by rfl) ?_ ?_ <;> (intro h; try simp only [Bool.not_eq_true', Bool.not_eq_false'] at h))
          | refine AW.block ?_
          | refine AW.exit ?_
          | refine AW.ret ?_)
        | with_reducible refine (if_pos rfl).mpr ?_
        | with_reducible refine (if_neg (by decide)).mpr ?_) <;> (try dsimp only [dput, List.set, cond_true, cond_false, Nat.zero_add, Nat.add_zero, Nat.reduceAdd, splice, List.take, List.drop, List.length, List.nil_append, List.cons_append, List.append, TPoint.en, TSegment.en, TBox.en, TFeature.en, TMeet.en, TPlace.en, TCover.en, TLabel.en, TPiece.en, TLevel.en, TChart.en, TReason.en, TEdit.en, TEntry.en, TEdition.en, TListing.en, TAtlas.en, TEvent.en, TWindow.en]))
      all_goals exact Fin.one rfl (RV.tmp (by rfl)) (clo_c _) ⟨by have e := hi.2; simp_all [szL, thenS, wsub] <;> omega, rfl⟩

end Go.Proofs.Ytbkcoechoblndaa.Abs
