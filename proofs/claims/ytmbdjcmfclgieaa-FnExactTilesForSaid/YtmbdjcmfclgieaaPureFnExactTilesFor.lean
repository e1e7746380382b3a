/- TilesFor of the program and of the reference list the same tiles, and the lists that they give hold what is written into them. -/
import Derived.Test.YtmbdjcmfclgieaaFitFnExactTilesFor
import Derived.Test.YtmbdjcmfclgieaaKit
namespace Go.Proofs.Ytmbdjcmfclgieaa.Pure
open Go.RowKit Go.Proofs.Ytmbdjcmfclgieaa.PFnExactTilesFor Go.Proofs.YtmbdjcmfclgieaaW.PrintWords Go.Proofs.YtmbdjcmfclgieaaW.PrintLast Go.Proofs.Ytmbdjcmfclgieaa.Kit

theorem inr (a b c : Int) : impl_InRange.f a b c = some (decide (b ≤ a ∧ a ≤ c)) := by
  unfold impl_InRange.f
  split
  · rename_i h; simp [h]
  · rename_i h; simp [h]
theorem inr_eq (a b c : Int) : spec_l1In.f a b c = impl_InRange.f a b c := rfl
theorem win_eq (a b c d : Int) : spec_IsWindow.f a b c d = impl_IsWindow.f a b c d := rfl
theorem box_eq (a b c d : Int) : spec_IsBox.f a b c d = impl_IsBox.f a b c d := rfl

def Win (a b c d : Int) : Prop := (0 ≤ a ∧ a ≤ 200) ∧ (0 ≤ b ∧ b ≤ 200) ∧ (1 ≤ c ∧ c ≤ 200) ∧ wrap64 (a + c) ≤ 200 ∧ wrap64 (b + c) ≤ 200 ∧ (0 ≤ d ∧ d ≤ 4)
instance (a b c d : Int) : Decidable (Win a b c d) := by unfold Win; exact inferInstance

theorem win (a b c d : Int) : impl_IsWindow.f a b c d = some (decide (Win a b c d)) := by
  unfold impl_IsWindow.f impl_IsPoint.f Win
  simp only [inr]
  by_cases h1 : 0 ≤ a ∧ a ≤ 200 <;> by_cases h2 : 0 ≤ b ∧ b ≤ 200 <;> by_cases h3 : 1 ≤ c ∧ c ≤ 200 <;> by_cases h4 : wrap64 (a + c) ≤ 200 <;> by_cases h5 : wrap64 (b + c) ≤ 200 <;> simp [h1, h2, h3, h4, h5]

def Box (a b c d : Int) : Prop := (0 ≤ a ∧ a ≤ 200) ∧ (0 ≤ b ∧ b ≤ 200) ∧ (0 ≤ c ∧ c ≤ 200) ∧ (0 ≤ d ∧ d ≤ 200) ∧ a ≤ c ∧ b ≤ d
instance (a b c d : Int) : Decidable (Box a b c d) := by unfold Box; exact inferInstance

theorem box (a b c d : Int) : impl_IsBox.f a b c d = some (decide (Box a b c d)) := by
  unfold impl_IsBox.f impl_IsPoint.f Box
  simp only [inr]
  by_cases h1 : 0 ≤ a ∧ a ≤ 200 <;> by_cases h2 : 0 ≤ b ∧ b ≤ 200 <;> by_cases h3 : 0 ≤ c ∧ c ≤ 200 <;> by_cases h4 : 0 ≤ d ∧ d ≤ 200 <;> by_cases h5 : a ≤ c <;> simp [h1, h2, h3, h4, h5]

theorem smax (a b : Int) : spec_Max.f a b = some (mx a b) := by
  unfold spec_Max.f mx
  rcases Int.lt_trichotomy a b with h | h | h
  · rw [if_pos h, if_pos h]
  · subst h; simp
  · rw [if_neg (by omega), if_neg (by omega)]
theorem smin (a b : Int) : spec_Min.f a b = some (mn a b) := by
  unfold spec_Min.f mn
  rcases Int.lt_trichotomy a b with h | h | h
  · rw [if_neg (by omega), if_neg (by omega)]
  · subst h; simp
  · rw [if_pos h, if_pos h]
theorem mn_comm (a b : Int) : mn a b = mn b a := by unfold mn; omega

theorem tilebox (t : Int) : spec_TileBox.f t = impl_TileBox.f t := by
  unfold spec_TileBox.f impl_TileBox.f
  simp only [inr_eq, inr, smin, Option.bind_some]
  rw [mn_comm 200, mn_comm 200]

theorem tilebox_some (t : Int) : ∃ r, impl_TileBox.f t = some r := by
  unfold impl_TileBox.f
  rw [inr]
  simp only [Option.bind_some]
  split
  · exact ⟨_, rfl⟩
  · exact ⟨_, rfl⟩

theorem overlap_lt {a b c d : Int} (h1 : 0 ≤ a ∧ a ≤ 200) (h2 : 0 ≤ b ∧ b ≤ 200) (h3 : 0 ≤ c ∧ c ≤ 200) (h4 : 0 ≤ d ∧ d ≤ 200) : (wrap64 (mn c d - mx a b) > 0) ↔ mx a b < mn c d := by
  unfold mn mx wrap64
  omega

theorem overlap (a b c d e f g h : Int) : spec_BoxesOverlap.f a b c d e f g h = impl_BoxesOverlap.f a b c d e f g h ∧ ∃ r, impl_BoxesOverlap.f a b c d e f g h = some r := by
  unfold spec_BoxesOverlap.f impl_BoxesOverlap.f impl_common.f
  simp only [box_eq, box, smax, smin, Option.bind_some]
  by_cases h1 : Box a b c d
  · by_cases h2 : Box e f g h
    · have o1 := overlap_lt h1.1 h2.1 h1.2.2.1 h2.2.2.1
      have o2 := overlap_lt h1.2.1 h2.2.1 h1.2.2.2.1 h2.2.2.2.1
      by_cases h3 : mx a e < mn c g
      · by_cases h4 : mx b f < mn d h
        · have o3 := o1.2 h3
          have o4 := o2.2 h4
          simp [h1, h2, h3, h4, o3, o4]
        · have o3 := o1.2 h3
          have o4 : ¬ _ := fun x => h4 (o2.1 x)
          simp [h1, h2, h3, h4, o3]
          omega
      · have o3 : ¬ _ := fun x => h3 (o1.1 x)
        simp only [h1, h2, h3, o3, decide_true, if_true, if_false]
        exact ⟨trivial, false, rfl⟩
    · simp [h1, h2]
  · simp [h1]

/-- The tiles from one on, as the program finds them. -/
def tiles (a b c d : Int) : Nat → Nat → List Int
  | 0, _ => []
  | n + 1, i => match impl_TileBox.f i with
    | some t => (match impl_BoxesOverlap.f t.1 t.2.1 t.2.2.1 t.2.2.2.1 a b (wrap64 (a + c)) (wrap64 (b + c)) with
      | some true => [(i : Int)]
      | _ => []) ++ tiles a b c d n (i + 1)
    | none => []

theorem tiles_length (a b c d : Int) : ∀ n i, (tiles a b c d n i).length ≤ n
  | 0, _ => by simp [tiles]
  | n + 1, i => by
    unfold tiles
    have := tiles_length a b c d n (i + 1)
    split
    · split <;> simp <;> omega
    · simp

theorem impl_loop (a b c d : Int) (n : Nat) : ∀ i, i + n = 441 → ∀ l : List Int, l.length ≤ i → Ev (fun k => impl_TilesFor.l0 k l (i : Int) a b c d) (l ++ tiles a b c d n i) := by
  induction n with
  | zero =>
    intro i hi l _
    refine Ev_one fun k => ?_
    simp only [impl_TilesFor.l0]
    rw [if_neg (by omega)]
    simp [tiles]
  | succ n ih =>
    intro i hi l hl
    obtain ⟨t, ht⟩ := tilebox_some (i : Int)
    obtain ⟨_, r, hr⟩ := overlap t.1 t.2.1 t.2.2.1 t.2.2.2.1 a b (wrap64 (a + c)) (wrap64 (b + c))
    have hw : wrap64 ((i : Int) + 1) = ((i + 1 : Nat) : Int) := wsucc (n := 441) (by omega) (by omega)
    cases r with
    | true =>
      refine Ev.step (f := fun k => impl_TilesFor.l0 k (l ++ [(i : Int)]) ((i + 1 : Nat) : Int) a b c d) (fun k => ?_) ?_
      · simp only [impl_TilesFor.l0, impl_windowBox.f]
        rw [if_pos (by omega), ht]
        simp only [Option.bind_some, hr, if_true]
        rw [if_pos (by omega), hw]
      · have := ih (i + 1) (by omega) (l ++ [(i : Int)]) (by simp; omega)
        simp only [tiles, ht, hr]
        rwa [List.append_assoc] at this
    | false =>
      refine Ev.step (f := fun k => impl_TilesFor.l0 k l ((i + 1 : Nat) : Int) a b c d) (fun k => ?_) ?_
      · simp only [impl_TilesFor.l0, impl_windowBox.f]
        rw [if_pos (by omega), ht]
        simp only [Option.bind_some, hr, hw]
        rfl
      · have := ih (i + 1) (by omega) l (by omega)
        simp only [tiles, ht, hr]
        simpa using this

theorem spec_loop (a b c d : Int) (hw0 : Win a b c d) (n : Nat) : ∀ i, i + n = 441 → ∀ l : List Int, l.length ≤ i → Ev (fun k => spec_TilesFor.l0 k l (i : Int) a b c d) (l ++ tiles a b c d n i) := by
  induction n with
  | zero =>
    intro i hi l _
    refine Ev.step (f := fun k => spec_TilesFor.j1 k l (i : Int) false a b c d) (fun k => ?_) (Ev_one fun k => ?_)
    · simp only [spec_TilesFor.l0]
      rw [if_neg (by omega)]
    · simp [spec_TilesFor.j1, tiles]
  | succ n ih =>
    intro i hi l hl
    obtain ⟨t, ht⟩ := tilebox_some (i : Int)
    obtain ⟨he, r, hr⟩ := overlap t.1 t.2.1 t.2.2.1 t.2.2.2.1 a b (wrap64 (a + c)) (wrap64 (b + c))
    have hw : wrap64 ((i : Int) + 1) = ((i + 1 : Nat) : Int) := wsucc (n := 441) (by omega) (by omega)
    refine Ev.step (f := fun k => spec_TilesFor.j1 k l (i : Int) true a b c d) (fun k => ?_) ?_
    · simp only [spec_TilesFor.l0]
      rw [if_pos (by omega), win_eq, win]
      simp [hw0]
    · cases r with
      | true =>
        refine Ev.step (f := fun k => spec_TilesFor.l0 k (l ++ [(i : Int)]) ((i + 1 : Nat) : Int) a b c d) (fun k => ?_) ?_
        · simp only [spec_TilesFor.j1, spec_l38Box.f, if_true, tilebox, ht, Option.bind_some, he, hr]
          rw [if_pos (by omega), hw]
        · have := ih (i + 1) (by omega) (l ++ [(i : Int)]) (by simp; omega)
          simp only [tiles, ht, hr]
          rwa [List.append_assoc] at this
      | false =>
        refine Ev.step (f := fun k => spec_TilesFor.l0 k l ((i + 1 : Nat) : Int) a b c d) (fun k => ?_) ?_
        · simp only [spec_TilesFor.j1, spec_l38Box.f, if_true, tilebox, ht, Option.bind_some, he, hr, hw]
          rfl
        · have := ih (i + 1) (by omega) l (by omega)
          simp only [tiles, ht, hr]
          simpa using this

theorem spec_none (a b c d : Int) (hw0 : ¬ Win a b c d) : Ev (fun k => spec_TilesFor.l0 k [] 0 a b c d) [] := by
  refine Ev.step (f := fun k => spec_TilesFor.j1 k [] 0 false a b c d) (fun k => ?_) (Ev_one fun k => ?_)
  · simp only [spec_TilesFor.l0]
    rw [if_pos (by omega), win_eq, win]
    simp [hw0]
  · simp [spec_TilesFor.j1]

def res (a b c d : Int) : List Int := if Win a b c d then tiles a b c d 441 0 else []
theorem res_length (a b c d : Int) : (res a b c d).length ≤ 441 := by
  unfold res
  split
  · exact tiles_length a b c d 441 0
  · simp

theorem impl_res (a b c d : Int) : Ev (fun k => impl_TilesFor.f k a b c d) (res a b c d) := by
  unfold res
  by_cases h : Win a b c d
  · rw [if_pos h]
    refine Ev.congr (f := fun k => impl_TilesFor.l0 k [] ((0 : Nat) : Int) a b c d) (fun k => ?_) (by simpa using impl_loop a b c d 441 0 (by omega) [] (by simp))
    simp [impl_TilesFor.f, win, h]
  · rw [if_neg h]
    exact Ev_some fun k => by simp [impl_TilesFor.f, win, h]
theorem spec_res (a b c d : Int) : Ev (fun k => spec_TilesFor.f k a b c d) (res a b c d) := by
  unfold res
  by_cases h : Win a b c d
  · rw [if_pos h]
    have := spec_loop a b c d h 441 0 (by omega) [] (by simp)
    exact this
  · rw [if_neg h]
    exact spec_none a b c d h

theorem eq_self (l : List Int) (hl : l.length ≤ 441) : Ev (fun k => laws_eqIntS.f k l l) true := by
  refine Ev.congr (f := fun k => laws_eqIntS.l0 k l l ((0 : Nat) : Int)) (fun k => by simp [laws_eqIntS.f]) ?_
  refine back (P := fun i => Ev (fun k => laws_eqIntS.l0 k l l (i : Int)) true) l.length (Ev_one fun k => ?_) (fun i hi ih => ?_) 0 (Nat.zero_le _)
  · simp only [laws_eqIntS.l0]
    rw [if_neg (by omega)]
  · refine Ev.step (fun k => ?_) ih
    simp only [laws_eqIntS.l0]
    rw [if_pos (by omega), if_pos (by omega), if_pos (by omega), if_true, wsucc hi (by omega)]

/-- What the marks are from an index on. -/
def marks : Nat → Int → List Int
  | 0, _ => []
  | n + 1, m => m :: marks n (m + 1)
theorem marks_length : ∀ n m, (marks n m).length = n
  | 0, _ => rfl
  | n + 1, m => by simp [marks, marks_length n (m + 1)]
theorem marks_snoc : ∀ (n : Nat) (m : Int), marks (n + 1) m = marks n m ++ [m + (n : Int)]
  | 0, m => by simp [marks]
  | n + 1, m => by
    have e : m + 1 + (n : Int) = m + ((n + 1 : Nat) : Int) := by omega
    rw [marks, marks_snoc n (m + 1), e]
    rfl
theorem marks_get : ∀ (n : Nat) (m : Int) (i : Nat), i < n → (marks n m)[i]? = some (m + (i : Int))
  | n + 1, m, 0, _ => by simp [marks]
  | n + 1, m, i + 1, h => by
    have e : m + 1 + (i : Int) = m + ((i + 1 : Nat) : Int) := by omega
    rw [marks, List.getElem?_cons_succ, marks_get n (m + 1) i (by omega), e]

theorem mark (l : List Int) (hl : l.length ≤ 441) : Ev (fun k => laws_markIntS.f k l 1) (1 + (l.length : Int), marks l.length 1) := by
  have key := back (P := fun i => Ev (fun k => laws_markIntS.l0 k (marks i 1 ++ l.drop i) (1 + (i : Int)) (i : Int)) (1 + (l.length : Int), marks l.length 1)) l.length (Ev_one fun k => ?_) (fun i hi ih => ?_) 0 (Nat.zero_le _)
  · exact key
  · have e : (marks l.length 1 ++ l.drop l.length) = marks l.length 1 := by simp
    simp only [laws_markIntS.l0]
    rw [e, if_neg (by rw [marks_length]; omega)]
  · refine Ev.step (fun k => ?_) ih
    have e : (marks i 1 ++ l.drop i).length = l.length := by rw [List.length_append, marks_length, List.length_drop]; omega
    have e2 : (marks i 1 ++ l.drop i).set i (1 + (i : Int)) = marks (i + 1) 1 ++ l.drop (i + 1) := by
      rw [marks_snoc, List.set_append_right _ _ (by rw [marks_length]; omega), marks_length, Nat.sub_self, List.drop_eq_getElem_cons hi, List.set_cons_zero, List.append_assoc]
      rfl
    have e3 : wrap64 (1 + (i : Int) + 1) = 1 + ((i + 1 : Nat) : Int) := by rw [w64] <;> omega
    simp only [laws_markIntS.l0]
    rw [if_pos (by rw [e]; omega), if_pos (by omega), wsucc hi (by omega), Int.toNat_natCast, e2, e3]

theorem held (n : Nat) (hl : n ≤ 441) : Ev (fun k => laws_heldIntS.f k (marks n 1) 1) (1 + (n : Int)) := by
  have key := back (P := fun i => Ev (fun k => laws_heldIntS.l0 k (marks n 1) (1 + (i : Int)) (i : Int)) (1 + (n : Int))) n (Ev_one fun k => ?_) (fun i hi ih => ?_) 0 (Nat.zero_le _)
  · exact key
  · simp only [laws_heldIntS.l0]
    rw [if_neg (by rw [marks_length]; omega)]
  · refine Ev.step (fun k => ?_) ih
    have e3 : wrap64 (1 + (i : Int) + 1) = 1 + ((i + 1 : Nat) : Int) := by rw [w64] <;> omega
    have e4 : rd (marks n 1) (i : Int) = 1 + (i : Int) := by
      unfold rd
      rw [Int.toNat_natCast, List.getD_eq_getElem?_getD, marks_get n 1 i hi]
      rfl
    simp only [laws_heldIntS.l0]
    rw [if_pos (by rw [marks_length]; omega), if_pos (by omega), e4, if_pos rfl, wsucc hi (by omega), e3]

/-- The pure law. -/
theorem FnExactTilesFor : FnExactTilesFor.Pure := by
  intro a b c d _
  refine Ev.rounds (r := true) ?_
  have hl := res_length a b c d
  unfold laws_FnExactTilesFor.f
  simp only [laws_toWindow.f, laws_toPoint.f, Option.bind_some]
  refine Ev.bind (spec_res a b c d) (Ev.bind (impl_res a b c d) (Ev.bind (eq_self _ hl) ?_))
  simp only [if_true]
  refine Ev.bind (mark _ hl) (Ev.bind (held _ hl) ?_)
  refine Ev.congr (fun k => if_neg (by omega)) (Ev.congr (fun k => if_pos rfl) ?_)
  refine Ev.bind (impl_res a b c d) (Ev.bind (eq_self _ hl) ?_)
  simp only [if_true]
  refine Ev.bind (held _ hl) ?_
  exact Ev.congr (fun k => if_neg (by omega)) (Ev.congr (fun k => if_pos rfl) (Ev.now true))

end Go.Proofs.Ytmbdjcmfclgieaa.Pure
