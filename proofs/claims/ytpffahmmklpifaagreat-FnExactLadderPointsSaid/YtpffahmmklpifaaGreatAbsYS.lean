/- A drawn region one of whose operations, wherever it comes, changes what was there before (a store), in a way that the others don't see. -/
import Derived.Test.YtpffahmmklpifaaGreatAbsY
namespace Go.Proofs.YtpffahmmklpifaaGreat.Abs
open Go.RowKit
set_option linter.unusedVariables false
set_option linter.unusedSimpArgs false

def MS (M X : Mem) (m : Nat) (L : Array Bool) : Mem := bif L.getD m false then X else M
section
variable {P : Program} {E : Env} {M X : Mem} {m : Nat} {l : List Oper} {n1 : Nat} {rs tm0 : List AV}
structure DInvS (E : Env) (M X : Mem) (m : Nat) (l : List Oper) (n1 : Nat) (rs tm0 : List AV) (L : Array Bool) (a : Act) (w : World) : Prop where
  sz : L.size = l.length
  down : ∀ (j : Nat) o, L.getD j false = true → l[j]? = some o → ∀ e ∈ o.after, Region.binds .any e = true → L.getD e.on false = true
  first : ∀ j, L.getD j false = true → j < n1
  st : a.defers = [] ∧ ∃ Fx β, HS E.base E.w0 w Fx β (MS M X m L) ∧ Out E w Fx β (MS M X m L) ∧ a.tmps.size = tm0.length ∧ ∀ (t : Nat) u, a.tmps[t]? = some u →
    (∀ (i : Nat) o r, L.getD i false = true → l[i]? = some o → o.dst = some t → rs[i]? = some r → Rep w Fx β (gens (MS M X m L)) r u) ∧ ((∀ (i : Nat) o, L.getD i false = true → l[i]? = some o → o.dst ≠ some t) → ∀ x, tm0[t]? = some x → Rep w Fx β (gens (MS M X m L)) x u)
def DLS (P : Program) (ops : Array Oper) (E : Env) (M X : Mem) (m bm : Nat) : Nat → List Oper → List AV → (List AV → Prop) → Prop
  | _, [], tm, N => N tm
  | j, o :: rest, tm, N => (j = m ∧ o.guard = none ∧ ∃ r, POp P o E (msk (o.looksAt ops) tm) M r X ∧ DLS P ops E M X m bm (j + 1) rest (dput tm o.dst r) N) ∨
      (j ≠ m ∧ ∃ r, GOp P ops o E (msk (o.looksAt ops) tm) M r ∧ (bm.testBit j = true ∨ GOp P ops o E (msk (o.looksAt ops) tm) X r) ∧ DLS P ops E M X m bm (j + 1) rest (dput tm o.dst r) N)
end
section
variable {P : Program} {E : Env} {tm : List AV} {M X : Mem} {m bm jj : Nat} {o : Oper} {ops : Array Oper} {rest : List Oper} {N : List AV → Prop} {r : AV}
theorem DLS.nil (h : N tm) : DLS P ops E M X m bm jj [] tm N := h
theorem DLS.p (hj : Nat.beq jj m = false) (hg : o.guard = none) (h : POp P o E (msk (o.looksAt ops) tm) M r M) (h2 : POp P o E (msk (o.looksAt ops) tm) X r X) (hN : DLS P ops E M X m bm (jj + 1) rest (dput tm o.dst r) N) : DLS P ops E M X m bm jj (o :: rest) tm N :=
  .inr ⟨Nat.ne_of_beq_eq_false hj, r, by unfold GOp; rw [hg]; exact h, .inr (by unfold GOp; rw [hg]; exact h2), hN⟩
theorem DLS.b (hj : Nat.beq jj m = false) (hb : bm.testBit jj = true) (hg : o.guard = none) (h : POp P o E (msk (o.looksAt ops) tm) M r M) (hN : DLS P ops E M X m bm (jj + 1) rest (dput tm o.dst r) N) : DLS P ops E M X m bm jj (o :: rest) tm N :=
  .inr ⟨Nat.ne_of_beq_eq_false hj, r, by unfold GOp; rw [hg]; exact h, .inl hb, hN⟩
theorem DLS.s {M' : Mem} (hj : Nat.beq jj m = true) (hg : o.guard = none) (h : POp P o E (msk (o.looksAt ops) tm) M r M') (hX : M' = X) (hN : DLS P ops E M X m bm (jj + 1) rest (dput tm o.dst r) N) : DLS P ops E M X m bm jj (o :: rest) tm N :=
  .inl ⟨Nat.eq_of_beq_eq_true hj, hg, r, hX ▸ h, hN⟩
end
end Go.Proofs.YtpffahmmklpifaaGreat.Abs
