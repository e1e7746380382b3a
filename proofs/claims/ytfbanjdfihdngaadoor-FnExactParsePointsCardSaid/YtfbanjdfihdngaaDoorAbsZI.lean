/- Calls under a condition on the world that lasts (a table of a library's that stays as it was laid). -/
import Derived.Test.YtfbanjdfihdngaaDoorAbsZ
import Derived.Lib.LaidTab
namespace Go.Proofs.YtfbanjdfihdngaaDoor.Abs
open Go.RowKit
set_option linter.unusedVariables false
set_option linter.unusedSimpArgs false

def Keeps (I : World → Prop) (base : Nat) (w0 : World) : Prop := ∀ w, Below base w0 w → I w
theorem Keeps.on {I : World → Prop} {base : Nat} {w0 w : World} (h : Keeps I base w0) (hb : Below base w0 w) (hs : base ≤ w.heap.size) : Keeps I w.heap.size w := fun w' h' => h w' (hb.trans (h'.mono hs))
def VCallsI (P : Program) (I : World → Prop) (f : FuncId) (args : List AV) (R : AV → Mem → Prop) : Prop :=
  ∀ (E : Env) (vals : Array Value), Keeps I E.base E.w0 → E.M = [] → HS E.base E.w0 E.win E.Fx E.β [] → Slots E.win E.Fx E.β (gens []) args vals →
    Calls P f vals E.win fun e w' => ∃ v r M' Fx β, e = .returned v ∧ R r M' ∧ HS E.base E.w0 w' Fx β M' ∧ Out E w' Fx β M' ∧ Rep w' Fx β (gens M') r v
section
variable {P : Program} {I : World → Prop} {E : Env} {tm : List AV} {M : Mem} {o : Oper}
theorem enterA {f : FuncId} {fn : Func} {c : Code} {args : List AV} {R : AV → Mem → Prop} (hf : P.funcs[f]? = some fn) (hb : fn.body = some c) (n : Nat) (hn : fn.ntmps = args.length + n)
    (E : Env) (vals : Array Value) (hM : E.M = M) (hh : HS E.base E.w0 E.win E.Fx E.β M) (hsl : Slots E.win E.Fx E.β (gens M) args vals)
    (h : AW P c E (args ++ List.replicate n (.c undef)) M (fun e tm' M' => (e = .normal ∨ e = .ret) ∧ ∃ r, ResA P fn tm' M' r ∧ R r M')) :
    Calls P f vals E.win fun e w' => ∃ v r M' Fx β, e = .returned v ∧ R r M' ∧ HS E.base E.w0 w' Fx β M' ∧ Out E w' Fx β M' ∧ Rep w' Fx β (gens M') r v := by
  refine calls_of_wp hf hb (h _ _ _ ⟨rfl, E.Fx, E.β, hh, ⟨?_, Nat.le_refl _, fun k hk => .inl hk, fun id b v k h1 h2 h3 => .inr ⟨id, b, v, by rw [hM]; exact h1, h2, h3⟩⟩, ?_⟩ ?_)
  · rw [hM]; exact Mv.refl
  · refine ⟨?_, fun t x u hx hu => ?_⟩
    · simp [hsl.1]; omega
    · have e : fn.ntmps - vals.size = n := by rw [hsl.1]; omega
      simp only [e] at hu
      rcases Nat.lt_or_ge t args.length with ht | ht
      · rw [List.getElem?_append_left ht] at hx
        rw [Array.getElem?_append_left (by rw [hsl.1]; exact ht)] at hu
        exact hsl.2 t x u hx hu
      · rw [List.getElem?_append_right ht, List.getElem?_replicate] at hx
        rw [Array.getElem?_append_right (by rw [hsl.1]; exact ht), Array.getElem?_replicate] at hu
        split at hx
        · split at hu
          · obtain rfl := Option.some.inj hx
            obtain rfl := Option.some.inj hu
            exact .c undef
          · cases hu
        · cases hx
  · rintro e tm' M' a' w' ⟨he, r, hres, hR⟩ ⟨hd, Fx, β, hh', ho', hs'⟩
    obtain ⟨v, hv, hrep⟩ := hres E a' w' Fx β hh' hs'
    rcases he with rfl | rfl <;> exact ⟨hd, v, hv, v, r, M', Fx, β, rfl, hR, hh', ho', hrep⟩
theorem VCalls.enterAt {f : FuncId} {fn : Func} {c : Code} {args : List AV} {R : AV → Mem → Prop} (hf : P.funcs[f]? = some fn) (hb : fn.body = some c) (n : Nat) (hn : fn.ntmps = args.length + n)
    (E : Env) (hM : E.M = []) (h : AW P c E (args ++ List.replicate n (.c undef)) [] (fun e tm' M' => (e = .normal ∨ e = .ret) ∧ ∃ r, ResA P fn tm' M' r ∧ ∃ r2 M2, Pack r M' r2 M2 ∧ R r2 M2)) (vals : Array Value) (hh : HS E.base E.w0 E.win E.Fx E.β []) (hsl : Slots E.win E.Fx E.β (gens []) args vals) :
    Calls P f vals E.win fun e w' => ∃ v r M' Fx β, e = .returned v ∧ R r M' ∧ HS E.base E.w0 w' Fx β M' ∧ Out E w' Fx β M' ∧ Rep w' Fx β (gens M') r v := by
  have hA := enterA (R := fun r M' => ∃ r2 M2, Pack r M' r2 M2 ∧ R r2 M2) hf hb n hn E vals hM hh hsl (h.mono fun e tm' M' ⟨he, r, hr, hp⟩ => ⟨he, r, hr, hp⟩)
  refine hA.mono ?_
  rintro e w' ⟨v, r, M', Fx, β, rfl, ⟨r2, M2, hp, hR⟩, hh', ho, hr⟩
  -- the call's own memory from its begin on
  obtain ⟨β2, hh2, hr2, hbl⟩ := hp E.base E.w0 w' Fx β v hh' hr
  have hE0 : gens E.M = [] := by rw [hM]; rfl
  refine ⟨v, r2, M2, Fx, β2, rfl, hR, hh2, ⟨?_, ho.size, ho.lim, fun id b v k g1 g2 g3 => ?_⟩, hr2⟩
  · refine ⟨ho.mv.fx, ho.mv.heap, by rw [hE0]; simp, fun id g' hid => ?_⟩
    rw [hE0] at hid
    simp at hid
  · obtain ⟨id', b', v', g4, g5, g6⟩ := hbl id b v k g1 g2 g3
    exact ho.own id' b' v' k g4 g5 g6
theorem VCallsI.bodyE {f : FuncId} {fn : Func} {c : Code} {args : List AV} {R : AV → Mem → Prop} (hf : P.funcs[f]? = some fn) (hb : fn.body = some c) (n : Nat) (hn : fn.ntmps = args.length + n)
    (h : ∀ E : Env, E.M = [] → Keeps I E.base E.w0 → AW P c E (args ++ List.replicate n (.c undef)) [] (Fin P fn R)) : VCallsI P I f args R := by
  intro E vals hK hM hh hs
  exact VCalls.enterAt hf hb n hn E hM (h E hM hK) vals hh hs
theorem VCallsI.plain {f : FuncId} {vs : List Value} {v : Value} (h : ∀ w, I w → Calls P f vs.toArray w fun e w' => e = .returned v ∧ Below w.heap.size w w') : VCallsI P I f (vs.map .c) (fun r M => r = .c v ∧ M = []) := by
  intro E vals hK hM hh hsl
  obtain rfl := hsl.plain
  refine (h E.win (hK _ hh.bel)).mono ?_
  rintro e w' ⟨rfl, hb⟩
  obtain ⟨hh', m⟩ := hh.step hb
  exact ⟨v, .c v, [], E.Fx, E.β, rfl, ⟨rfl, rfl⟩, hh', ⟨by rw [hM]; exact m, hb.size, fun k hk => .inl hk, fun id b v k h1 => by simp at h1⟩, .c v⟩
theorem POp.vcallI {r' : AV} {M1 : Mem} {f : FuncId} {args : Array Operand} {as as' : List AV} {R : AV → Mem → Prop} (seen : Bool) (hrun : ∀ (a : Act) (w : World) Fx β, HS E.base E.w0 w Fx β M → Slots w Fx β (gens M) tm a.tmps → (execOp a.eval o).run P w = .ok (.enter f (args.map a.eval)) w)
    (ha : args.toList.mapM (evA tm) = some as) (hvl : as'.length = as.length) (hv : ∀ (i : Nat) x x', as[i]? = some x → as'[i]? = some x' → View M x x' ∧ (seen = false → Clo x ∧ x' = x))
    (hK : Keeps I E.base E.w0) (hc : VCallsI P I f as' R) (hN : ∀ r M', R r M' → RowsClo M' ∧ Free seen r M' ∧ Sh M.length r r' ∧ M1 = M ++ M') : POp P o E tm M r' M1 := by
  intro a w K Q Fx β hh hsl hk
  unfold Oper.wp
  rw [hrun a w Fx β hh hsl, Oper.upon_enter]
  have hargs := hsl.args ha
  let Fc : Nat → Prop := fun k => Fx k ∨ (seen = true ∧ ∃ (id : Nat) (b : Blk) (v : Hd), M[id]? = some (some b) ∧ β[id]? = some v ∧ v.has k)
  have hFc : ∀ k, Fc k → k < w.heap.size := by
    rintro k (h | ⟨_, id, b, v, h1, h2, h3⟩)
    · exact hh.fx k h
    · obtain ⟨v', hv', hok⟩ := hh.blk id b h1
      rw [h2] at hv'
      obtain rfl := Option.some.inj hv'
      exact (hok.1 k h3).2.1
  have hslots : Slots w Fc [] (gens []) as' (args.map a.eval) := by
    refine ⟨by rw [hargs.1, hvl], fun i x' u hx' hu => ?_⟩
    have hlt : i < as.length := by rw [← hvl]; exact (List.getElem?_eq_some_iff.1 hx').1
    have hrx := hargs.2 i _ u (List.getElem?_eq_getElem hlt) hu
    obtain ⟨hview, hsn⟩ := hv i _ x' (List.getElem?_eq_getElem hlt) hx'
    generalize as[i] = x at hrx hview hsn
    rcases Bool.eq_false_or_eq_true seen with hse | hse
    · exact hview _ _ _ _ _ Fc u hh (fun k h => .inl h) (fun id b v k h1 h2 h3 => .inr ⟨hse, id, b, v, h1, h2, h3⟩) hrx
    · obtain ⟨hcl, rfl⟩ := hsn hse
      exact (hcl _ _ _ _ _ hrx.cr).up0 (fun k h => .inl h)
  refine (hc ⟨w.heap.size, w, w, Fc, [], []⟩ _ (hK.on hh.bel hh.bs) rfl ⟨Below.refl _ _, Nat.le_refl _, hFc, rfl, fun id b h => by simp at h, fun i1 i2 b1 b2 v1 v2 k _ h => by simp at h⟩ hslots).mono ?_
  rintro e w' ⟨v, r, M', Fx', β', rfl, hR, hh', ho', hrep⟩
  obtain ⟨hrc, hfree, hsh, rfl⟩ := hN r M' hR
  have hbel : Below w.heap.size w w' := hh'.bel
  have hβl : β.length = M.length := hh.len
  have hGl : (gens M).length = M.length := gens_length M
  have lim1 : ∀ k, Fx' k → Fc k ∨ w.heap.size ≤ k := fun k hk => by
    rcases ho'.lim k hk with h | h | ⟨id, b, v, h, _⟩
    · exact .inl h
    · exact .inr h
    · simp at h
  rcases hfree with hs0 | ⟨hp, hrows⟩
  · -- nothing of ours was seen
    have hj := hh.join hbel hh' hrc (Fx2 := Fx') (fun k hk => ho'.mv.fx k (.inl hk)) (fun k hk => by
      rcases lim1 k hk with h | h
      · rcases h with h | ⟨h, _⟩
        · exact .inl h
        · rw [hs0] at h; cases h
      · exact .inr ⟨h, hk⟩) (fun b hb e he x hx u hr => hr)
    refine hk _ _ _ _ hj.1 ⟨hj.2, hbel.size, fun k hk => ?_, fun id b v k g1 g2 g3 => ?_⟩ (by rw [gens_append]; exact hsh _ _ _ _ _ _ _ hβl hGl hrep)
    · rcases lim1 k hk with h | h
      · rcases h with h | ⟨h, _⟩
        · exact .inl h
        · rw [hs0] at h; cases h
      · exact .inr (.inl h)
    · rcases Nat.lt_or_ge id M.length with hid | hid
      · rw [List.getElem?_append_left hid] at g1
        rw [List.getElem?_append_left (by omega)] at g2
        exact .inr ⟨id, b, v, g1, g2, g3⟩
      · rw [List.getElem?_append_right hid] at g1
        rw [List.getElem?_append_right (by omega), hβl] at g2
        obtain ⟨v', hv', hok⟩ := hh'.blk _ b g1
        rw [g2] at hv'
        obtain rfl := Option.some.inj hv'
        exact .inl (hok.1 k g3).1
  · have hj := hh.join hbel hh' hrc (Fx2 := Fx) (fun k hk => hk) (fun k hk => .inl hk) (fun b hb e he x hx u hr => (hrows b hb e he x hx _ _ _ _ _ hr).mv ⟨fun _ h => h.elim, fun _ h => h.elim, Nat.le_refl _, fun id g' hi => absurd hi (by simp)⟩)
    have hrep2 : Rep w' Fx (β ++ β') (gens (M ++ M')) r' v := by
      rw [gens_append]
      exact hsh _ _ _ _ _ _ _ hβl hGl (hp _ _ _ _ _ _ hrep)
    refine hk _ _ _ _ hj.1 ⟨hj.2, hbel.size, fun k hk => .inl hk, fun id b v k g1 g2 g3 => ?_⟩ hrep2
    rcases Nat.lt_or_ge id M.length with hid | hid
    · rw [List.getElem?_append_left hid] at g1
      rw [List.getElem?_append_left (by omega)] at g2
      exact .inr ⟨id, b, v, g1, g2, g3⟩
    · rw [List.getElem?_append_right hid] at g1
      rw [List.getElem?_append_right (by omega), hβl] at g2
      obtain ⟨v', hv', hok⟩ := hh'.blk _ b g1
      rw [g2] at hv'
      obtain rfl := Option.some.inj hv'
      exact .inl (hok.1 k g3).1

theorem POp.pcallI {f : FuncId} {fn : Func} {args : Array Operand} {ts : Array TypeId} {as : List AV} {r : AV} (hK : Keeps I E.base E.w0) (ho : o.op = .call { callee := .value (.func f), args := args, argTypes := ts }) (hf : P.funcs[f]? = some fn)
    (hn : (fn.name == "runtime.NumGoroutine") = false) (hb : fn.body.isSome = true) (ha : args.toList.mapM (evA tm) = some as) (hv : ∀ x ∈ as, Clo x)
    (hc : VCallsI P I f as (fun r' M' => r' = r ∧ M' = [])) (hr : Clo r) : POp P o E tm M r M := by
  refine POp.vcallI false (fun a w Fx β hh hsl => run_call ho hf hn hb) ha rfl (fun i x x' hx hx' => ?_) hK hc (fun r' M' hR => ?_)
  · rw [hx] at hx'
    obtain rfl := Option.some.inj hx'
    have := hv x (List.mem_of_getElem? hx)
    exact ⟨.same this, fun _ => ⟨this, rfl⟩⟩
  · obtain ⟨rfl, rfl⟩ := hR
    exact ⟨fun b hb => by simp at hb, .inl rfl, Sh.clo hr, by rw [List.append_nil]⟩
theorem OpA.pcallI {N : NPost} {f : FuncId} {fn : Func} {args : Array Operand} {ts : Array TypeId} {as : List AV} {r : AV} (hK : Keeps I E.base E.w0) (ho : o.op = .call { callee := .value (.func f), args := args, argTypes := ts }) (hf : P.funcs[f]? = some fn)
    (hn : (fn.name == "runtime.NumGoroutine") = false) (hb : fn.body.isSome = true) (ha : args.toList.mapM (evA tm) = some as) (hv : ∀ x ∈ as, Clo x)
    (hc : VCallsI P I f as (fun r' M' => r' = r ∧ M' = [])) (hr : Clo r) (hN : N (dput tm o.dst r) M) : OpA P o E tm M N := OpA.pop (POp.pcallI hK ho hf hn hb ha hv hc hr) hN
theorem VCallsI.law {f : FuncId} {args : List AV} {R : AV → Mem → Prop} {W : World} {vals : List Value} (h : VCallsI P I f args R) (hI : Keeps I W.heap.size W) (hr : ∀ r M, R r M → r = .c (.bool true)) (hs : Slots W (fun k => k < W.heap.size) [] [] args vals.toArray) :
    Calls P f vals.toArray W fun e w' => e = .returned (.bool true) ∧ Below W.heap.size W w' := by
  refine (h ⟨W.heap.size, W, W, fun k => k < W.heap.size, [], []⟩ _ hI rfl ⟨Below.refl _ _, Nat.le_refl _, fun k hk => hk, rfl, fun id b h => by simp at h, fun i1 i2 b1 b2 v1 v2 k _ h => by simp at h⟩ hs).mono ?_
  rintro e w' ⟨v, r, M', Fx, β, rfl, hR, hh, ho, hrep⟩
  obtain rfl := hr r M' hR
  obtain rfl := hrep.c_inv
  exact ⟨rfl, hh.bel⟩
end
end Go.Proofs.YtfbanjdfihdngaaDoor.Abs
