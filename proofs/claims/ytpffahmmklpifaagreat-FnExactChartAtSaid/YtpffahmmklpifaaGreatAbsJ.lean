/- Tests by plain equations. -/
import Derived.Test.YtpffahmmklpifaaGreatAbsI
namespace Go.Proofs.YtpffahmmklpifaaGreat.Abs
open Go.RowKit
set_option linter.unusedVariables false
set_option linter.unusedSimpArgs false

section
variable {P : Program} {E : Env} {tm : List AV} {M : Mem} {o : Oper} {ops : Array Oper} {rest : List Oper} {N : NPost}
theorem clash {t : Bool} {p : Prop} (h1 : t = true) (h0 : t = false) : p := by rw [h1] at h0; cases h0

theorem Sim.putWhen {a : Act} {w : World} (hs : Sim E tm M a w) (d : Option Nat) {t : Bool} {x : AV} {u : Value} (hr : t = true → ∀ Fx β, HS E.base E.w0 w Fx β M → Slots w Fx β (gens M) tm a.tmps → Rep w Fx β (gens M) x u) : Sim E (dput tm d (.when t x)) M (a.put d u) w :=
 hs.put d fun Fx β hh hs => .when fun ht => hr ht Fx β hh hs
theorem dput_when_wk {tm : List AV} (d : Option Nat) {x y : AV} (h : ∀ w Fx β G u, Rep w Fx β G x u → Rep w Fx β G y u) {a : Act} {w : World} (hs : Sim E (dput tm d x) M a w) : Sim E (dput tm d y) M a w := by
 obtain ⟨hd, Fx, β, hh, ho, hsl⟩ := hs
 refine ⟨hd, Fx, β, hh, ho, ?_⟩
 cases d with
 | none => exact hsl
 | some d =>
  refine ⟨by rw [hsl.1]; simp [dput], fun t z u hz hu => ?_⟩
  simp only [dput] at hz hsl
  rw [List.getElem?_set] at hz
  have h2 := hsl.2 t
  rw [List.getElem?_set] at h2
  by_cases e : d = t
  · subst e
    rw [if_pos rfl] at hz h2
    by_cases hl : d < tm.length
    · rw [if_pos hl] at hz h2
      obtain rfl := Option.some.inj hz
      exact h _ _ _ _ _ (h2 x u rfl hu)
    · rw [if_neg hl] at hz; cases hz
  · rw [if_neg e] at hz h2
    exact h2 z u hz hu
theorem AL.guardW {j d : Nat} {oj : Oper} {b t : Bool} {r : AV} (hg : o.guard = some (j, b)) (hj : ops[j]? = some oj) (hd : oj.dst = some d) (hb : (tm[d]?).map unw = some (.c (.bool t)))
 (h1 : t = b → OpA P o E tm M (fun tm' M' => tm' = dput tm o.dst r ∧ M' = M)) (hN : AL P ops rest E (dput tm o.dst (.when (bif b then t else !t) r)) M N) : AL P ops (o :: rest) E tm M N := by
 intro a w Q hs k
 have hy : yielded ops a.tmps j = some t := by
  cases hq : tm[d]? with
  | none => rw [hq] at hb; cases hb
  | some y0 =>
   rw [hq] at hb
   obtain ⟨_, Fx, β, hh, _, hsl⟩ := id hs
   obtain ⟨u, hu, hr⟩ := hsl.get hq
   have e : unw y0 = .c (.bool t) := by simpa using hb
   have := hr.unw
   rw [e] at this
   obtain rfl := this.c_inv
   simp [yielded, hj, hd, hu]
 refine wpList_step fun K hK => ?_
 by_cases e : t = b
 · have hw : Region.wanted o (yielded ops a.tmps) = true := by simp [Region.wanted, hg, hy, e]
   rw [if_pos hw]
   refine h1 e a w K Q hs fun tm' M' a' w' hx hs' => hK a' w' ?_
   obtain ⟨rfl, rfl⟩ := hx
   exact hN a' w' Q (dput_when_wk o.dst (fun _ _ _ _ _ hr => .when fun _ => hr) hs') k
 · have e2 : t = !b := by cases t <;> cases b <;> simp_all
   have hw : Region.wanted o (yielded ops a.tmps) = false := by cases b <;> simp [Region.wanted, hg, hy, e2]
   rw [if_neg (by rw [hw]; decide)]
   refine hK _ _ (hN _ w Q (hs.putWhen o.dst fun ht => ?_) k)
   subst e2
   cases b <;> cases ht
theorem QOp.pickAnd {c x z : Operand} {i : Nat} {t u : Bool} (ho : o.op = .pick c x z) (hc : sc tm c = some (.bool t)) (hx : x = .tmp i) (hi : tm[i]? = some (.when t (.c (.bool u)))) (hz : evA tm z = some (.c (.bool false))) : QOp P o tm M (.c (.bool (t && u))) := by
 cases t
 · exact QOp.pick_false ho hc hz
 · refine QOp.pick_true ho hc ?_
   subst hx
   simp [evA_tmp, hi, unw]
theorem QOp.pickOr {c x z : Operand} {i : Nat} {t u : Bool} (ho : o.op = .pick c x z) (hc : sc tm c = some (.bool t)) (hx : evA tm x = some (.c (.bool true))) (hz : z = .tmp i) (hi : tm[i]? = some (.when (!t) (.c (.bool u)))) : QOp P o tm M (.c (.bool (t || u))) := by
 cases t
 · refine QOp.pick_false ho hc ?_
   subst hz
   simp [evA_tmp, hi, unw]
 · exact QOp.pick_true ho hc hx
end
end Go.Proofs.YtpffahmmklpifaaGreat.Abs
