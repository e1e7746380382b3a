/- Functions whose contract the kit's own walk gives: of plain values, a plain value. -/
import Derived.Test.YtacbpfbelcdeiaaGreatAbsY
namespace Go.Proofs.YtacbpfbelcdeiaaGreat.Abs
open Go.RowKit
set_option linter.unusedVariables false
set_option linter.unusedSimpArgs false

theorem Slots.plain {w : World} {Fx : Nat → Prop} {β : List Hd} {G : List (Option Nat)} {vs : List Value} {us : Array Value} (h : Slots w Fx β G (vs.map .c) us) : us = vs.toArray := by
  have e : us.toList = vs := by
    refine List.ext_getElem? fun i => ?_
    have hsz := h.1
    rcases Nat.lt_or_ge i us.size with hi | hi
    · have hi' : i < vs.length := by rw [hsz] at hi; simpa using hi
      have := h.2 i (.c vs[i]) us[i] (by simp [hi']) (by simp [hi])
      rw [List.getElem?_eq_getElem (by simpa using hi), List.getElem?_eq_getElem hi', Array.getElem_toList, this.c_inv]
    · have hi' : vs.length ≤ i := by rw [hsz] at hi; simpa using hi
      rw [List.getElem?_eq_none (by simpa using hi), List.getElem?_eq_none hi']
  rw [← e]
theorem VCalls.plain {P : Program} {f : FuncId} {vs : List Value} {v : Value} (h : ∀ w, Calls P f vs.toArray w fun e w' => e = .returned v ∧ Below w.heap.size w w') : VCalls P f (vs.map .c) (fun r M => r = .c v ∧ M = []) := by
  intro E vals hM hh hsl
  obtain rfl := hsl.plain
  refine (h E.win).mono ?_
  rintro e w' ⟨rfl, hb⟩
  obtain ⟨hh', m⟩ := hh.step hb
  exact ⟨v, .c v, [], E.Fx, E.β, rfl, ⟨rfl, rfl⟩, hh', ⟨by rw [hM]; exact m, hb.size, fun k hk => .inl hk, fun id b v k h1 => by simp at h1⟩, .c v⟩
theorem clo_rows_b {es : List (List AV)} (h : es.all (fun r => r.all cloB) = true) : ∀ r ∈ es, ∀ x ∈ r, Clo x := fun r hr x hx => clo_of (List.all_eq_true.1 (List.all_eq_true.1 h r hr) x hx)
/-! ### Functions as values -/
theorem rep_fn_inv {w : World} {Fx : Nat → Prop} {β : List Hd} {G : List (Option Nat)} {f : FuncId} {u : Value} (h : Rep w Fx β G (.fn f []) u) : u = .func (.func f) #[] #[] := by
  cases h with
  | @fn _ _ us hl h =>
    obtain rfl : us = [] := List.eq_nil_of_length_eq_zero (by simpa using hl)
    rfl
theorem clo_fn (f : FuncId) : Clo (.fn f []) := fun w Fx β G u hr => by
  cases hr rfl with
  | @fn _ _ us hl h =>
    obtain rfl : us = [] := List.eq_nil_of_length_eq_zero (by simpa using hl)
    exact Rep.fn (us := []) rfl (fun i x u h1 h2 => by simp at h1)
section
variable {P : Program} {E : Env} {tm : List AV} {M : Mem} {o : Oper}
theorem POp.vcallR {r' : AV} {M1 : Mem} {f : FuncId} {args : Array Operand} {as as' : List AV} {R : AV → Mem → Prop} (seen : Bool) (hrun : ∀ (a : Act) (w : World) Fx β, HS E.base E.w0 w Fx β M → Slots w Fx β (gens M) tm a.tmps → (execOp a.eval o).run P w = .ok (.enter f (args.map a.eval)) w)
    (ha : args.toList.mapM (evA tm) = some as) (hvl : as'.length = as.length) (hv : ∀ (i : Nat) x x', as[i]? = some x → as'[i]? = some x' → View M x x' ∧ (seen = false → Clo x ∧ x' = x))
    (hc : VCalls P f as' R) (hN : ∀ r M', R r M' → RowsClo M' ∧ Free seen r M' ∧ Sh M.length r r' ∧ M1 = M ++ M') : POp P o E tm M r' M1 := by
  intro a w K Q Fx β hh hsl hk
  unfold Oper.wp
  rw [hrun a w Fx β hh hsl, Oper.upon_enter]
  have hargs := hsl.args ha
  let Fc : Nat → Prop := fun k => Fx k ∨ (seen = true ∧ ∃ (id : Nat) (b : Blk) (v : Hd), M[id]? = some (some b) ∧ β[id]? = some v ∧ v.has k)
  have hFc : ∀ k, Fc k → k < w.heap.size := by
    rintro k (h | ⟨_, id, b, v, h1, h2, h3⟩)
    · exact hh.fx k h
    · obtain ⟨v', hv', hok⟩ := hh.blk id b h1
      rw [h2] at hv'
      obtain rfl := Option.some.inj hv'
      exact (hok.1 k h3).2.1
  have hslots : Slots w Fc [] (gens []) as' (args.map a.eval) := by
    refine ⟨by rw [hargs.1, hvl], fun i x' u hx' hu => ?_⟩
    have hlt : i < as.length := by rw [← hvl]; exact (List.getElem?_eq_some_iff.1 hx').1
    have hrx := hargs.2 i _ u (List.getElem?_eq_getElem hlt) hu
    obtain ⟨hview, hsn⟩ := hv i _ x' (List.getElem?_eq_getElem hlt) hx'
    generalize as[i] = x at hrx hview hsn
    rcases Bool.eq_false_or_eq_true seen with hse | hse
    · exact hview _ _ _ _ _ Fc u hh (fun k h => .inl h) (fun id b v k h1 h2 h3 => .inr ⟨hse, id, b, v, h1, h2, h3⟩) hrx
    · obtain ⟨hcl, rfl⟩ := hsn hse
      exact (hcl _ _ _ _ _ hrx.cr).up0 (fun k h => .inl h)
  refine (hc ⟨w.heap.size, w, w, Fc, [], []⟩ _ rfl ⟨Below.refl _ _, Nat.le_refl _, hFc, rfl, fun id b h => by simp at h, fun i1 i2 b1 b2 v1 v2 k _ h => by simp at h⟩ hslots).mono ?_
  rintro e w' ⟨v, r, M', Fx', β', rfl, hR, hh', ho', hrep⟩
  obtain ⟨hrc, hfree, hsh, rfl⟩ := hN r M' hR
  have hbel : Below w.heap.size w w' := hh'.bel
  have hβl : β.length = M.length := hh.len
  have hGl : (gens M).length = M.length := gens_length M
  have lim1 : ∀ k, Fx' k → Fc k ∨ w.heap.size ≤ k := fun k hk => by
    rcases ho'.lim k hk with h | h | ⟨id, b, v, h, _⟩
    · exact .inl h
    · exact .inr h
    · simp at h
  rcases hfree with hs0 | ⟨hp, hrows⟩
  · -- nothing of ours was seen
    have hj := hh.join hbel hh' hrc (Fx2 := Fx') (fun k hk => ho'.mv.fx k (.inl hk)) (fun k hk => by
      rcases lim1 k hk with h | h
      · rcases h with h | ⟨h, _⟩
        · exact .inl h
        · rw [hs0] at h; cases h
      · exact .inr ⟨h, hk⟩) (fun b hb e he x hx u hr => hr)
    refine hk _ _ _ _ hj.1 ⟨hj.2, hbel.size, fun k hk => ?_, fun id b v k g1 g2 g3 => ?_⟩ (by rw [gens_append]; exact hsh _ _ _ _ _ _ _ hβl hGl hrep)
    · rcases lim1 k hk with h | h
      · rcases h with h | ⟨h, _⟩
        · exact .inl h
        · rw [hs0] at h; cases h
      · exact .inr (.inl h)
    · rcases Nat.lt_or_ge id M.length with hid | hid
      · rw [List.getElem?_append_left hid] at g1
        rw [List.getElem?_append_left (by omega)] at g2
        exact .inr ⟨id, b, v, g1, g2, g3⟩
      · rw [List.getElem?_append_right hid] at g1
        rw [List.getElem?_append_right (by omega), hβl] at g2
        obtain ⟨v', hv', hok⟩ := hh'.blk _ b g1
        rw [g2] at hv'
        obtain rfl := Option.some.inj hv'
        exact .inl (hok.1 k g3).1
  · have hj := hh.join hbel hh' hrc (Fx2 := Fx) (fun k hk => hk) (fun k hk => .inl hk) (fun b hb e he x hx u hr => (hrows b hb e he x hx _ _ _ _ _ hr).mv ⟨fun _ h => h.elim, fun _ h => h.elim, Nat.le_refl _, fun id g' hi => absurd hi (by simp)⟩)
    have hrep2 : Rep w' Fx (β ++ β') (gens (M ++ M')) r' v := by
      rw [gens_append]
      exact hsh _ _ _ _ _ _ _ hβl hGl (hp _ _ _ _ _ _ hrep)
    refine hk _ _ _ _ hj.1 ⟨hj.2, hbel.size, fun k hk => .inl hk, fun id b v k g1 g2 g3 => ?_⟩ hrep2
    rcases Nat.lt_or_ge id M.length with hid | hid
    · rw [List.getElem?_append_left hid] at g1
      rw [List.getElem?_append_left (by omega)] at g2
      exact .inr ⟨id, b, v, g1, g2, g3⟩
    · rw [List.getElem?_append_right hid] at g1
      rw [List.getElem?_append_right (by omega), hβl] at g2
      obtain ⟨v', hv', hok⟩ := hh'.blk _ b g1
      rw [g2] at hv'
      obtain rfl := Option.some.inj hv'
      exact .inl (hok.1 k g3).1

/-- A call by value of a callee that has one answer and makes no rows. -/
theorem POp.pcallT {f : FuncId} {fn : Func} {args : Array Operand} {ts : Array TypeId} {as : List AV} {r : AV} {y : Operand} (ho : o.op = .call { callee := .value y, args := args, argTypes := ts }) (hy : evA tm y = some (.fn f [])) (hf : P.funcs[f]? = some fn)
    (hn : (fn.name == "runtime.NumGoroutine") = false) (hb : fn.body.isSome = true) (ha : args.toList.mapM (evA tm) = some as) (hv : ∀ x ∈ as, Clo x)
    (hc : VCalls P f as (fun r' M' => r' = r ∧ M' = [])) (hr : Clo r) : POp P o E tm M r M := by
  refine POp.vcallR false (fun a w Fx β hh hsl => ?_) ha rfl (fun i x x' hx hx' => ?_) hc (fun r' M' hR => ?_)
  · have he : a.eval y = .func (.func f) #[] #[] := rep_fn_inv (hsl.ev hy)
    have h1 : fn.name ≠ "runtime.NumGoroutine" := by simpa using hn
    have h3 : ¬ fn.body = none := by intro h; rw [h] at hb; cases hb
    simp [execOp, ho, resolve, he, Deferred.ofValue, invoke, callFunc, hf, h1, h3]
  · rw [hx] at hx'
    obtain rfl := Option.some.inj hx'
    have := hv x (List.mem_of_getElem? hx)
    exact ⟨.same this, fun _ => ⟨this, rfl⟩⟩
  · obtain ⟨rfl, rfl⟩ := hR
    exact ⟨fun b hb => by simp at hb, .inl rfl, Sh.clo hr, by rw [List.append_nil]⟩
theorem OpA.pcallT {N : NPost} {f : FuncId} {fn : Func} {args : Array Operand} {ts : Array TypeId} {as : List AV} {r : AV} {y : Operand} (ho : o.op = .call { callee := .value y, args := args, argTypes := ts }) (hy : evA tm y = some (.fn f [])) (hf : P.funcs[f]? = some fn)
    (hn : (fn.name == "runtime.NumGoroutine") = false) (hb : fn.body.isSome = true) (ha : args.toList.mapM (evA tm) = some as) (hv : ∀ x ∈ as, Clo x)
    (hc : VCalls P f as (fun r' M' => r' = r ∧ M' = [])) (hr : Clo r) (hN : N (dput tm o.dst r) M) : OpA P o E tm M N := OpA.pop (POp.pcallT ho hy hf hn hb ha hv hc hr) hN
end
end Go.Proofs.YtacbpfbelcdeiaaGreat.Abs
