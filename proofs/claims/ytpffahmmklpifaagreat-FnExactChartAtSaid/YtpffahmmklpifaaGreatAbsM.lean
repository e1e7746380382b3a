/- Operations as they go whatever else is done beside them (POp): for regions whose order is drawn. -/
import Derived.Test.YtpffahmmklpifaaGreatAbsK
namespace Go.Proofs.YtpffahmmklpifaaGreat.Abs
open Go.RowKit
set_option linter.unusedVariables false
set_option linter.unusedSimpArgs false

structure Nx (w : World) (Fx : Nat → Prop) (β : List Hd) (M : Mem) (w' : World) (Fx' : Nat → Prop) (β' : List Hd) (M' : Mem) : Prop where
 mv : Mv w Fx β (gens M) w' Fx' β' (gens M')
 size : w.heap.size ≤ w'.heap.size
 lim : ∀ k, Fx' k → Fx k ∨ w.heap.size ≤ k ∨ ∃ (id : Nat) (b : Blk) (v : Hd), M[id]? = some (some b) ∧ β[id]? = some v ∧ v.has k
 own : ∀ (id : Nat) b v k, M'[id]? = some (some b) → β'[id]? = some v → v.has k → w.heap.size ≤ k ∨ ∃ (id' : Nat) (b' : Blk) (v' : Hd), M[id']? = some (some b') ∧ β[id']? = some v' ∧ v'.has k
def POp (P : Program) (o : Oper) (E : Env) (tm : List AV) (M : Mem) (r : AV) (M' : Mem) : Prop :=
 ∀ (a : Act) w (K : Act → World → Prop) (Q : Exit → Act → World → Prop) Fx β, HS E.base E.w0 w Fx β M → Slots w Fx β (gens M) tm a.tmps →
  (∀ v w' Fx' β', HS E.base E.w0 w' Fx' β' M' → Nx w Fx β M w' Fx' β' M' → Rep w' Fx' β' (gens M') r v → K (a.put o.dst v) w') → o.wp P a w K Q

section
variable {P : Program} {E : Env} {tm : List AV} {M : Mem} {o : Oper} {w w0 : World} {Fx : Nat → Prop} {β : List Hd} {base : Nat}
theorem Nx.refl : Nx w Fx β M w Fx β M := ⟨Mv.refl, Nat.le_refl _, fun k h => .inl h, fun id b v k h1 h2 h3 => .inr ⟨id, b, v, h1, h2, h3⟩⟩
theorem POp.quiet {r : AV} (h : QOp P o tm M r) : POp P o E tm M r M := by
 intro a w K Q Fx β hh hsl hk
 obtain ⟨v, hv, hr⟩ := h _ _ a w Fx β hh hsl
 unfold Oper.wp
 rw [hv w fun _ _ => rfl, Oper.upon_value]
 exact hk v w Fx β hh Nx.refl hr
theorem OpA.pop {N : NPost} {r : AV} {M' : Mem} (h : POp P o E tm M r M') (hN : N (dput tm o.dst r) M') : OpA P o E tm M N := by
 intro a w K Q hs hk
 obtain ⟨hd, Fx, β, hh, hout, hsl⟩ := hs
 exact h a w K Q Fx β hh hsl fun v w' Fx' β' hh' hx hr => hk _ _ _ _ hN (Sim.next hd hout hsl hh' hx.mv hx.size hx.lim hx.own o.dst hr)

theorem POp.newVar {t : TypeId} {cs : List AV} (hrun : ∀ (a : Act) (w : World) Fx β, HS E.base E.w0 w Fx β M → Slots w Fx β (gens M) tm a.tmps → ∃ us : Array Value, us.size = cs.length ∧ (∀ v ∈ us.toList, v.oneCell' = true) ∧
 (∀ (i : Nat) y v, cs[i]? = some y → us.toList[i]? = some v → Rep w Fx β (gens M) y v) ∧ (execOp a.eval o).run P w = .ok (.value (.pointer (some ⟨w.heap.size, 0, none⟩))) (w.alloc (.cells us t))) : POp P o E tm M (.ref M.length 0 cs.length 0 0) (M ++ [some ⟨t, cs.length, 0, true, [cs]⟩]) := by
 intro a w K Q Fx β hh hsl hk
 obtain ⟨us, hl, h1, hR, hr⟩ := hrun a w Fx β hh hsl
 obtain ⟨hh', m⟩ := hh.newBox t hl h1 hR
 unfold Oper.wp
 rw [hr, Oper.upon_value]
 have hlast : (β ++ [Hd.flat (Value.pointer (some ⟨w.heap.size, 0, none⟩))])[M.length]? = some (Hd.flat (.pointer (some ⟨w.heap.size, 0, none⟩))) := by simp [← hh.len]
 refine hk _ _ _ _ hh' ⟨m, by simp, fun k h => .inl h, fun id b v k g1 g2 g3 => ?_⟩ (Rep.ref rfl (by simp [gens]) (fun g1 hg => ?_) (fun _ => ⟨_, w.heap.size, hlast, rfl, by simp⟩))
 · rcases Nat.lt_or_ge id M.length with hid | hid
   · rw [List.getElem?_append_left hid] at g1
     rw [List.getElem?_append_left (by rw [hh.len]; exact hid)] at g2
     exact .inr ⟨id, b, v, g1, g2, g3⟩
   · rw [List.getElem?_append_right (by rw [hh.len]; exact hid)] at g2
     have e : id - β.length = 0 := by
      rcases Nat.eq_zero_or_pos (id - β.length) with e | e
      · exact e
      · rw [List.getElem?_eq_none (by simp; omega)] at g2; cases g2
     rw [e] at g2
     simp at g2
     subst g2
     simp [Hd.flat_has, blockOf] at g3
     exact .inl (by omega)
 · have e : gens (M ++ [some ⟨t, cs.length, 0, true, [cs]⟩]) = gens M ++ [some 0] := by simp [gens]
   rw [e, List.getElem?_append_right (by rw [gens_length]; exact Nat.le_refl _), gens_length] at hg
   simp at hg
   omega
theorem POp.alloc {t : TypeId} {z : Value} {cs : List AV} (ho : o.op = .alloc t) (hz : (P.info? t).map (·.zero) = some (some z)) (hcs : cs = z.cells.toList.map .c) (h1 : z.cells.toList.all (·.oneCell') = true) : POp P o E tm M (.ref M.length 0 cs.length 0 0) (M ++ [some ⟨t, cs.length, 0, true, [cs]⟩]) := by
 refine POp.newVar (t := t) (cs := cs) (fun a w Fx β hh hsl => ⟨z.cells, by simp [hcs], fun v hv => List.all_eq_true.1 h1 v hv, fun i y v hy hv => ?_, ?_⟩)
 · rw [hcs, List.getElem?_map, hv] at hy
   obtain rfl := Option.some.inj hy
   exact .c v
 · cases hq : P.info? t with
   | none => rw [hq] at hz; simp at hz
   | some i =>
    have hz' : i.zero = some z := by rw [hq] at hz; simpa using hz
    simp [execOp, ho, Instr.alloc, zeroValue, typeInfo, hq, hz', Go.newVar, newRow]
theorem POp.box {t : TypeId} {x : Operand} {y : AV} {cs : List AV} (ho : o.op = .box t x) (hx : evA tm x = some y) (hcs : cellsA y = some cs) : POp P o E tm M (.ref M.length 0 cs.length 0 0) (M ++ [some ⟨t, cs.length, 0, true, [cs]⟩]) := by
 refine POp.newVar (t := t) (cs := cs) (fun a w Fx β hh hsl => ?_)
 obtain ⟨h1, h2, h3⟩ := (hsl.ev hx).cells hcs
 exact ⟨(a.eval x).cells, by simpa using h1, h2, h3, by simp [execOp, ho, Instr.box, Go.newVar, newRow]⟩


theorem POp.store {x y : Operand} {id g sz i j : Nat} {b : Blk} {t : TypeId} {r cs : List AV} {z : AV} (ho : o.op = .store t x y) (hx : evA tm x = some (.ref id g sz i j)) (hM : M[id]? = some (some b)) (hg : b.gen = g) (hb : b.sz = sz)
 (hr : b.es[i]? = some r) (hy : evA tm y = some z) (hcs : cellsA z = some cs) (hn : (P.info? t).map (·.size) = some cs.length) (hj : j + cs.length ≤ r.length) (hds : o.dst = none) : POp P o E tm M (.c undef) (M.set id (some { b with es := b.es.set i (splice r j cs) })) := by
 intro a w K Q Fx β hh hsl hk
 have hrep := hsl.ev hx
 generalize hu : a.eval x = u at hrep
 cases hrep with
 | ref h1 hi hgg h =>
  obtain ⟨v, k, hv, hkb, rfl⟩ := h (by rw [← hg]; exact gens_of hM)
  subst hb
  obtain ⟨c1, c2, c3⟩ := (hsl.ev hy).cells hcs
  obtain ⟨ht, hh', m⟩ := hh.store hM hr hj hv hkb c1 c2 c3
  have hrun : (execOp a.eval o).run P w = .ok .skip (w.setCells k (i * b.sz + j) (a.eval y).cells.toList) := by
   have hst := run_storeCells_cells (P := P) k (i * b.sz + j) (a.eval y).cells.toList 0 w (fun q hq => by simpa using (ht q hq).1) (fun q hq => by simpa using (ht q hq).2) c2
   obtain ⟨i0, hi0, hs0⟩ := info_size hn
   have hsz : (a.eval y).cells.size = i0.size := by rw [hs0, ← c1]; simp
   simp only [Nat.add_zero] at hst
   simp [execOp, ho, hu, Instr.storeAt, Instr.sureAddr, storeVar, sizeOf, typeInfo, hi0, hsz, hst]
  unfold Oper.wp
  rw [hrun, Oper.upon_skip]
  have hput : a.put o.dst undef = a := by rw [hds]; rfl
  refine hk undef _ _ _ hh' ⟨m, by rw [size_setCells]; exact Nat.le_refl _, fun q hq => .inl hq, fun id' b' v' q g1 g2 g3 => ?_⟩ (.c undef)
  rw [List.getElem?_set] at g1
  by_cases e : id = id'
  · subst e
    exact .inr ⟨_, b, v', hM, g2, g3⟩
  · rw [if_neg e] at g1
    exact .inr ⟨_, b', v', g1, g2, g3⟩


theorem POp.vcall {r' : AV} {M1 : Mem} {f : FuncId} {fn : Func} {args : Array Operand} {ts : Array TypeId} {as as' : List AV} {R : AV → Mem → Prop} (seen : Bool) (ho : o.op = .call { callee := .value (.func f), args := args, argTypes := ts }) (hf : P.funcs[f]? = some fn)
 (hn : (fn.name == "runtime.NumGoroutine") = false) (hb : fn.body.isSome = true) (ha : args.toList.mapM (evA tm) = some as) (hvl : as'.length = as.length) (hv : ∀ (i : Nat) x x', as[i]? = some x → as'[i]? = some x' → View M x x' ∧ (seen = false → Clo x ∧ x' = x))
 (hc : VCalls P f as' R) (hN : ∀ r M', R r M' → RowsClo M' ∧ Free seen r M' ∧ Sh M.length r r' ∧ M1 = M ++ M') : POp P o E tm M r' M1 := by
 intro a w K Q Fx β hh hsl hk
 unfold Oper.wp
 rw [run_call ho hf hn hb, Oper.upon_enter]
 have hargs := hsl.args ha
 let Fc : Nat → Prop := fun k => Fx k ∨ (seen = true ∧ ∃ (id : Nat) (b : Blk) (v : Hd), M[id]? = some (some b) ∧ β[id]? = some v ∧ v.has k)
 have hFc : ∀ k, Fc k → k < w.heap.size := by
  rintro k (h | ⟨_, id, b, v, h1, h2, h3⟩)
  · exact hh.fx k h
  · obtain ⟨v', hv', hok⟩ := hh.blk id b h1
    rw [h2] at hv'
    obtain rfl := Option.some.inj hv'
    exact (hok.1 k h3).2.1
 have hslots : Slots w Fc [] (gens []) as' (args.map a.eval) := by
  refine ⟨by rw [hargs.1, hvl], fun i x' u hx' hu => ?_⟩
  have hlt : i < as.length := by rw [← hvl]; exact (List.getElem?_eq_some_iff.1 hx').1
  have hrx := hargs.2 i _ u (List.getElem?_eq_getElem hlt) hu
  obtain ⟨hview, hsn⟩ := hv i _ x' (List.getElem?_eq_getElem hlt) hx'
  generalize as[i] = x at hrx hview hsn
  rcases Bool.eq_false_or_eq_true seen with hse | hse
  · exact hview _ _ _ _ _ Fc u hh (fun k h => .inl h) (fun id b v k h1 h2 h3 => .inr ⟨hse, id, b, v, h1, h2, h3⟩) hrx
  · obtain ⟨hcl, rfl⟩ := hsn hse
    exact (hcl _ _ _ _ _ hrx.cr).up0 (fun k h => .inl h)
 refine (hc ⟨w.heap.size, w, w, Fc, [], []⟩ _ rfl ⟨Below.refl _ _, Nat.le_refl _, hFc, rfl, fun id b h => by simp at h, fun i1 i2 b1 b2 v1 v2 k _ h => by simp at h⟩ hslots).mono ?_
 rintro e w' ⟨v, r, M', Fx', β', rfl, hR, hh', ho', hrep⟩
 obtain ⟨hrc, hfree, hsh, rfl⟩ := hN r M' hR
 have hbel : Below w.heap.size w w' := hh'.bel
 have hβl : β.length = M.length := hh.len
 have hGl : (gens M).length = M.length := gens_length M
 have lim1 : ∀ k, Fx' k → Fc k ∨ w.heap.size ≤ k := fun k hk => by
  rcases ho'.lim k hk with h | h | ⟨id, b, v, h, _⟩
  · exact .inl h
  · exact .inr h
  · simp at h
 rcases hfree with hs0 | ⟨hp, hrows⟩
 · -- nothing of ours was seen
   have hj := hh.join hbel hh' hrc (Fx2 := Fx') (fun k hk => ho'.mv.fx k (.inl hk)) (fun k hk => by
    rcases lim1 k hk with h | h
    · rcases h with h | ⟨h, _⟩
      · exact .inl h
      · rw [hs0] at h; cases h
    · exact .inr ⟨h, hk⟩) (fun b hb e he x hx u hr => hr)
   refine hk _ _ _ _ hj.1 ⟨hj.2, hbel.size, fun k hk => ?_, fun id b v k g1 g2 g3 => ?_⟩ (by rw [gens_append]; exact hsh _ _ _ _ _ _ _ hβl hGl hrep)
   · rcases lim1 k hk with h | h
     · rcases h with h | ⟨h, _⟩
       · exact .inl h
       · rw [hs0] at h; cases h
     · exact .inr (.inl h)
   · rcases Nat.lt_or_ge id M.length with hid | hid
     · rw [List.getElem?_append_left hid] at g1
       rw [List.getElem?_append_left (by omega)] at g2
       exact .inr ⟨id, b, v, g1, g2, g3⟩
     · rw [List.getElem?_append_right hid] at g1
       rw [List.getElem?_append_right (by omega), hβl] at g2
       obtain ⟨v', hv', hok⟩ := hh'.blk _ b g1
       rw [g2] at hv'
       obtain rfl := Option.some.inj hv'
       exact .inl (hok.1 k g3).1
 · have hj := hh.join hbel hh' hrc (Fx2 := Fx) (fun k hk => hk) (fun k hk => .inl hk) (fun b hb e he x hx u hr => (hrows b hb e he x hx _ _ _ _ _ hr).mv ⟨fun _ h => h.elim, fun _ h => h.elim, Nat.le_refl _, fun id g' hi => absurd hi (by simp)⟩)
   have hrep2 : Rep w' Fx (β ++ β') (gens (M ++ M')) r' v := by
    rw [gens_append]
    exact hsh _ _ _ _ _ _ _ hβl hGl (hp _ _ _ _ _ _ hrep)
   refine hk _ _ _ _ hj.1 ⟨hj.2, hbel.size, fun k hk => .inl hk, fun id b v k g1 g2 g3 => ?_⟩ hrep2
   rcases Nat.lt_or_ge id M.length with hid | hid
   · rw [List.getElem?_append_left hid] at g1
     rw [List.getElem?_append_left (by omega)] at g2
     exact .inr ⟨id, b, v, g1, g2, g3⟩
   · rw [List.getElem?_append_right hid] at g1
     rw [List.getElem?_append_right (by omega), hβl] at g2
     obtain ⟨v', hv', hok⟩ := hh'.blk _ b g1
     rw [g2] at hv'
     obtain rfl := Option.some.inj hv'
     exact .inl (hok.1 k g3).1

theorem POp.pcall {f : FuncId} {fn : Func} {args : Array Operand} {ts : Array TypeId} {as : List AV} {r : AV} (ho : o.op = .call { callee := .value (.func f), args := args, argTypes := ts }) (hf : P.funcs[f]? = some fn)
 (hn : (fn.name == "runtime.NumGoroutine") = false) (hb : fn.body.isSome = true) (ha : args.toList.mapM (evA tm) = some as) (hv : ∀ x ∈ as, Clo x)
 (hc : VCalls P f as (fun r' M' => r' = r ∧ M' = [])) (hr : Clo r) : POp P o E tm M r M := by
 refine POp.vcall false ho hf hn hb ha rfl (fun i x x' hx hx' => ?_) hc (fun r' M' hR => ?_)
 · rw [hx] at hx'
   obtain rfl := Option.some.inj hx'
   have := hv x (List.mem_of_getElem? hx)
   exact ⟨.same this, fun _ => ⟨this, rfl⟩⟩
 · obtain ⟨rfl, rfl⟩ := hR
   exact ⟨fun b hb => by simp at hb, .inl rfl, Sh.clo hr, by rw [List.append_nil]⟩
end
end Go.Proofs.YtpffahmmklpifaaGreat.Abs
