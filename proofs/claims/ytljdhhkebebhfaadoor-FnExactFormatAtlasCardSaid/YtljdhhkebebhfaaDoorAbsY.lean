/- A drawn region one of whose operations, wherever it comes, makes a new row or variable. -/
import Derived.Test.YtljdhhkebebhfaaDoorAbsX
import Derived.Test.YtljdhhkebebhfaaDoorAbsO
namespace Go.Proofs.YtljdhhkebebhfaaDoor.Abs
open Go.RowKit
set_option linter.unusedVariables false
set_option linter.unusedSimpArgs false

def MM (M X : Mem) (m : Nat) (L : Array Bool) : Mem := bif L.getD m false then M ++ X else M
section
variable {P : Program} {E : Env} {M X : Mem} {m : Nat} {l : List Oper} {n1 : Nat} {rs tm0 : List AV}
structure DInvM (E : Env) (M X : Mem) (m : Nat) (l : List Oper) (n1 : Nat) (rs tm0 : List AV) (L : Array Bool) (a : Act) (w : World) : Prop where
  sz : L.size = l.length
  down : ∀ (j : Nat) o, L.getD j false = true → l[j]? = some o → ∀ e ∈ o.after, Region.binds .any e = true → L.getD e.on false = true
  first : ∀ j, L.getD j false = true → j < n1
  st : a.defers = [] ∧ ∃ Fx β, HS E.base E.w0 w Fx β (MM M X m L) ∧ Out E w Fx β (MM M X m L) ∧ a.tmps.size = tm0.length ∧ ∀ (t : Nat) u, a.tmps[t]? = some u →
    (∀ (i : Nat) o r, L.getD i false = true → l[i]? = some o → o.dst = some t → rs[i]? = some r → Rep w Fx β (gens (MM M X m L)) r u) ∧ ((∀ (i : Nat) o, L.getD i false = true → l[i]? = some o → o.dst ≠ some t) → ∀ x, tm0[t]? = some x → Rep w Fx β (gens (MM M X m L)) x u)
def DLM (P : Program) (ops : Array Oper) (E : Env) (M : Mem) (m : Nat) : Nat → List Oper → List AV → Option Mem → (Mem → List AV → Prop) → Prop
  | _, [], tm, some X, N => N X tm
  | _, [], _, none, _ => False
  | j, o :: rest, tm, s, N => (s = none ∧ j = m ∧ o.guard = none ∧ ∃ r X, POp P o E (msk (o.looksAt ops) tm) M r (M ++ X) ∧ DLM P ops E M m (j + 1) rest (dput tm o.dst r) (some X) N) ∨
      (j ≠ m ∧ ∃ r, (∀ Y, GOp P ops o E (msk (o.looksAt ops) tm) (M ++ Y) r) ∧ DLM P ops E M m (j + 1) rest (dput tm o.dst r) s N)
theorem DLM.data {ops : Array Oper} {N : Mem → List AV → Prop} : ∀ (os : List Oper) (j0 : Nat) (tm : List AV) (s : Option Mem), DLM P ops E M m j0 os tm s N →
    ∃ (rs : List AV) (X : Mem), rs.length = os.length ∧ (∀ X0, s = some X0 → X = X0) ∧ N X (run os rs tm os.length) ∧ ∀ (j : Nat) o, os[j]? = some o → ∃ r, rs[j]? = some r ∧ ((j0 + j = m ∧ o.guard = none ∧ POp P o E (msk (o.looksAt ops) (run os rs tm j)) M r (M ++ X)) ∨ (j0 + j ≠ m ∧ ∀ Y, GOp P ops o E (msk (o.looksAt ops) (run os rs tm j)) (M ++ Y) r))
  | [], j0, tm, some X, h => ⟨[], X, rfl, fun X0 h => Option.some.inj h, h, fun j o ho => by simp at ho⟩
  | [], j0, tm, none, h => h.elim
  | o :: os, j0, tm, s, .inl ⟨hs, hj, hg, r, X, hp, h⟩ => by
    obtain ⟨rs, X', h1, hX, h2, h3⟩ := DLM.data os (j0 + 1) _ _ h
    obtain rfl := hX X rfl
    refine ⟨r :: rs, X', by simp [h1], fun X0 h0 => (by rw [hs] at h0; cases h0), h2, fun j o' ho => ?_⟩
    cases j with
    | zero =>
      simp only [List.getElem?_cons_zero, Option.some.injEq] at ho
      subst ho
      exact ⟨r, rfl, .inl ⟨hj, hg, by simpa [run] using hp⟩⟩
    | succ j =>
      obtain ⟨r', g1, g2⟩ := h3 j o' (by simpa using ho)
      refine ⟨r', by simpa using g1, ?_⟩
      rw [show j0 + (j + 1) = j0 + 1 + j by omega]
      exact g2
  | o :: os, j0, tm, s, .inr ⟨hj, r, hp, h⟩ => by
    obtain ⟨rs, X', h1, hX, h2, h3⟩ := DLM.data os (j0 + 1) _ _ h
    refine ⟨r :: rs, X', by simp [h1], hX, h2, fun j o' ho => ?_⟩
    cases j with
    | zero =>
      simp only [List.getElem?_cons_zero, Option.some.injEq] at ho
      subst ho
      exact ⟨r, rfl, .inr ⟨hj, by simpa [run] using hp⟩⟩
    | succ j =>
      obtain ⟨r', g1, g2⟩ := h3 j o' (by simpa using ho)
      refine ⟨r', by simpa using g1, ?_⟩
      rw [show j0 + (j + 1) = j0 + 1 + j by omega]
      exact g2
end
section
variable {P : Program} {E : Env} {T : Tbl} {tm : List AV} {M X : Mem} {m jj : Nat} {o : Oper} {ops : Array Oper} {rest : List Oper} {N : List AV → Prop} {s : Option Mem} {NN : Mem → List AV → Prop}
theorem DLM.nil (h : NN X tm) : DLM P ops E M m jj [] tm (some X) NN := h
theorem DLM.make {r : AV} {M2 : Mem} (hj : Nat.beq jj m = true) (hg : o.guard = none) (h : POp P o E (msk (o.looksAt ops) tm) M r M2) (hX : M2 = M ++ X) (hN : DLM P ops E M m (jj + 1) rest (dput tm o.dst r) (some X) NN) : DLM P ops E M m jj (o :: rest) tm none NN :=
  .inl ⟨rfl, Nat.eq_of_beq_eq_true hj, hg, r, X, hX ▸ h, hN⟩
theorem DLM.p {r : AV} (hj : Nat.beq jj m = false) (hg : o.guard = none) (h : ∀ Y, POp P o E (msk (o.looksAt ops) tm) (M ++ Y) r (M ++ Y)) (hN : DLM P ops E M m (jj + 1) rest (dput tm o.dst r) s NN) : DLM P ops E M m jj (o :: rest) tm s NN :=
  .inr ⟨Nat.ne_of_beq_eq_false hj, r, fun Y => by unfold GOp; rw [hg]; exact h Y, hN⟩
theorem DLM.g {j d : Nat} {oj : Oper} {b t : Bool} {r : AV} (hj : Nat.beq jj m = false) (hg : o.guard = some (j, b)) (hjo : ops[j]? = some oj) (hd : oj.dst = some d) (hb : evA (msk (o.looksAt ops) tm) (.tmp d) = some (.c (.bool t)))
    (h : t = b → ∀ Y, POp P o E (msk (o.looksAt ops) tm) (M ++ Y) r (M ++ Y)) (hN : DLM P ops E M m (jj + 1) rest (dput tm o.dst (.when (bif b then t else !t) r)) s NN) : DLM P ops E M m jj (o :: rest) tm s NN :=
  .inr ⟨Nat.ne_of_beq_eq_false hj, _, fun Y => by unfold GOp; rw [hg]; exact ⟨oj, d, hjo, hd, .inl ⟨t, r, hb, fun e => h e Y, rfl⟩⟩, hN⟩
theorem DL.gT {j d : Nat} {oj : Oper} {b t : Bool} {r : AV} (hg : o.guard = some (j, b)) (hj : ops[j]? = some oj) (hd : oj.dst = some d) (hb : evA (msk (o.looksAt ops) tm) (.tmp d) = some (.c (.bool t))) (ht : t = b)
    (h : POp P o E (msk (o.looksAt ops) tm) M r M) (hN : DL P ops E M rest (dput tm o.dst (.when true r)) N) : DL P ops E M (o :: rest) tm N :=
  ⟨.when true r, by unfold GOp; rw [hg]; exact ⟨oj, d, hj, hd, .inl ⟨t, r, hb, fun _ => h, by subst ht; cases t <;> rfl⟩⟩, hN⟩
theorem DLM.gT {j d : Nat} {oj : Oper} {b t : Bool} {r : AV} (hjj : Nat.beq jj m = false) (hg : o.guard = some (j, b)) (hj : ops[j]? = some oj) (hd : oj.dst = some d) (hb : evA (msk (o.looksAt ops) tm) (.tmp d) = some (.c (.bool t))) (ht : t = b)
    (h : ∀ Y, POp P o E (msk (o.looksAt ops) tm) (M ++ Y) r (M ++ Y)) (hN : DLM P ops E M m (jj + 1) rest (dput tm o.dst (.when true r)) s NN) : DLM P ops E M m jj (o :: rest) tm s NN :=
  .inr ⟨Nat.ne_of_beq_eq_false hjj, .when true r, fun Y => by unfold GOp; rw [hg]; exact ⟨oj, d, hj, hd, .inl ⟨t, r, hb, fun _ => h Y, by subst ht; cases t <;> rfl⟩⟩, hN⟩
theorem DL.gF {j d : Nat} {oj : Oper} {b t : Bool} (hg : o.guard = some (j, b)) (hj : ops[j]? = some oj) (hd : oj.dst = some d) (hb : evA (msk (o.looksAt ops) tm) (.tmp d) = some (.c (.bool t))) (ht : t = !b)
    (hN : DL P ops E M rest (dput tm o.dst (.c undef)) N) : DL P ops E M (o :: rest) tm N :=
  ⟨_, by unfold GOp; rw [hg]; exact ⟨oj, d, hj, hd, .inr ⟨_, hb, by subst ht; cases b <;> rfl, rfl⟩⟩, hN⟩
theorem DLM.gF {j d : Nat} {oj : Oper} {b t : Bool} (hjj : Nat.beq jj m = false) (hg : o.guard = some (j, b)) (hj : ops[j]? = some oj) (hd : oj.dst = some d) (hb : evA (msk (o.looksAt ops) tm) (.tmp d) = some (.c (.bool t))) (ht : t = !b)
    (hN : DLM P ops E M m (jj + 1) rest (dput tm o.dst (.c undef)) s NN) : DLM P ops E M m jj (o :: rest) tm s NN :=
  .inr ⟨Nat.ne_of_beq_eq_false hjj, _, fun Y => by unfold GOp; rw [hg]; exact ⟨oj, d, hj, hd, .inr ⟨_, hb, by subst ht; cases b <;> rfl, rfl⟩⟩, hN⟩
theorem DL.gU {j d : Nat} {oj : Oper} {b : Bool} (hg : o.guard = some (j, b)) (hj : ops[j]? = some oj) (hd : oj.dst = some d) (hb : evA (msk (o.looksAt ops) tm) (.tmp d) = some (.c undef))
    (hN : DL P ops E M rest (dput tm o.dst (.c undef)) N) : DL P ops E M (o :: rest) tm N :=
  ⟨_, by unfold GOp; rw [hg]; exact ⟨oj, d, hj, hd, .inr ⟨_, hb, rfl, rfl⟩⟩, hN⟩
theorem DLM.gU {j d : Nat} {oj : Oper} {b : Bool} (hjj : Nat.beq jj m = false) (hg : o.guard = some (j, b)) (hj : ops[j]? = some oj) (hd : oj.dst = some d) (hb : evA (msk (o.looksAt ops) tm) (.tmp d) = some (.c undef))
    (hN : DLM P ops E M m (jj + 1) rest (dput tm o.dst (.c undef)) s NN) : DLM P ops E M m jj (o :: rest) tm s NN :=
  .inr ⟨Nat.ne_of_beq_eq_false hjj, _, fun Y => by unfold GOp; rw [hg]; exact ⟨oj, d, hj, hd, .inr ⟨_, hb, rfl, rfl⟩⟩, hN⟩
end
section
variable {P : Program} {E : Env} {tm : List AV} {M : Mem} {o : Oper} {ops : Array Oper} {rest : List Oper} {N : NPost}
theorem AL.guardU {j d : Nat} {oj : Oper} {b : Bool} (hg : o.guard = some (j, b)) (hj : ops[j]? = some oj) (hd : oj.dst = some d) (hb : (tm[d]?).map unw = some (.c undef))
    (h : AL P ops rest E (dput tm o.dst (.c undef)) M N) : AL P ops (o :: rest) E tm M N :=
  fun a w Q hs k => wpList_step fun K hK => by
    have hy : yielded ops a.tmps j = none := by
      cases hq : tm[d]? with
      | none => rw [hq] at hb; cases hb
      | some y0 =>
        rw [hq] at hb
        obtain ⟨_, Fx, β, hh, _, hsl⟩ := id hs
        obtain ⟨u, hu, hr⟩ := hsl.get hq
        have e : unw y0 = .c undef := by simpa using hb
        have := hr.unw
        rw [e] at this
        obtain rfl := this.c_inv
        simp [yielded, hj, hd, hu, undef]
    have hw : Region.wanted o (yielded ops a.tmps) = false := by simp [Region.wanted, hg, hy]
    rw [if_neg (by rw [hw]; decide)]
    exact hK _ _ (h _ w Q (hs.put o.dst fun _ _ _ _ => .c undef) k)
theorem yielded_unw {a : Act} {w : World} (hs : Sim E tm M a w) {j d : Nat} {oj : Oper} {t : Bool} (hj : ops[j]? = some oj) (hd : oj.dst = some d) (hb : (tm[d]?).map unw = some (.c (.bool t))) : yielded ops a.tmps j = some t := by
  cases hq : tm[d]? with
  | none => rw [hq] at hb; cases hb
  | some y0 =>
    rw [hq] at hb
    obtain ⟨_, Fx, β, hh, _, hsl⟩ := id hs
    obtain ⟨u, hu, hr⟩ := hsl.get hq
    have e : unw y0 = .c (.bool t) := by simpa using hb
    have := hr.unw
    rw [e] at this
    obtain rfl := this.c_inv
    simp [yielded, hj, hd, hu]
theorem AL.gF {j d : Nat} {oj : Oper} {b t : Bool} (hg : o.guard = some (j, b)) (hj : ops[j]? = some oj) (hd : oj.dst = some d) (hb : (tm[d]?).map unw = some (.c (.bool t))) (ht : t = !b)
    (h : AL P ops rest E (dput tm o.dst (.c undef)) M N) : AL P ops (o :: rest) E tm M N :=
  fun a w Q hs k => wpList_step fun K hK => by
    have hy := yielded_unw hs hj hd hb
    have hw : Region.wanted o (yielded ops a.tmps) = false := by cases b <;> simp [Region.wanted, hg, hy, ht]
    rw [if_neg (by rw [hw]; decide)]
    exact hK _ _ (h _ w Q (hs.put o.dst fun _ _ _ _ => .c undef) k)
theorem AL.gT {j d : Nat} {oj : Oper} {b t : Bool} (hg : o.guard = some (j, b)) (hj : ops[j]? = some oj) (hd : oj.dst = some d) (hb : (tm[d]?).map unw = some (.c (.bool t))) (ht : t = b)
    (h : OpA P o E tm M (fun tm' M' => AL P ops rest E tm' M' N)) : AL P ops (o :: rest) E tm M N :=
  fun a w Q hs k => wpList_step fun K hK => by
    have hy := yielded_unw hs hj hd hb
    have hw : Region.wanted o (yielded ops a.tmps) = true := by simp [Region.wanted, hg, hy, ht]
    rw [if_pos hw]
    exact h a w K Q hs fun tm' M' a' w' hx hs' => hK a' w' (hx a' w' Q hs' k)
end
end Go.Proofs.YtljdhhkebebhfaaDoor.Abs
