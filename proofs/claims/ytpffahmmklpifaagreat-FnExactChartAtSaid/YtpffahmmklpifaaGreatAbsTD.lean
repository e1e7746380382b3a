/- Drawn regions in which calls give rows and rows are made and grown: each at a number that was kept for it. -/
import Derived.Test.YtpffahmmklpifaaGreatAbsTG
import Derived.Test.YtpffahmmklpifaaGreatAbsYR
namespace Go.Proofs.YtpffahmmklpifaaGreat.Abs
open Go.RowKit
set_option linter.unusedVariables false
set_option linter.unusedSimpArgs false

section
variable {P : Program} {E : Env} {tm : List AV} {M : Mem} {o : Oper} {w w0 : World} {Fx : Nat → Prop} {β : List Hd} {base : Nat}
theorem Rep.at {w' : World} {id : Nat} {v : Hd} {b : Blk} {u : Value} (hl : β.length = M.length) (hid : id < M.length) (hg : b.gen = 1) (ho : u.oneCell' = true) (hv : v.v = u) : Rep w' Fx (β.set id v) (gens (M.set id (some b))) (.own id 1) u := by
 refine .own ho (by simp [gens_length, hid]) (fun g1 h1 => ?_) (fun _ => ⟨v, by simp [hl, hid], hv⟩)
 have h2 : (gens (M.set id (some b)))[id]? = some (some b.gen) := gens_of (by simp [hid])
 rw [h2, hg] at h1
 simp at h1
 omega
theorem POp.rowAt {t : TypeId} {sz id : Nat} {es : List (List AV)} (hM : M[id]? = some (some Rsv)) (hrun : RowRun P o E tm M t sz es) : POp P o E tm M (.own id 1) (M.set id (some ⟨t, sz, 1, false, es⟩)) := by
 intro a w K Q Fx β hh hsl hk
 obtain ⟨v, w', xs, hr, hg, ho, hb, hc⟩ := hrun a w Fx β hh hsl
 have hid : id < M.length := (List.getElem?_eq_some_iff.1 hM).1
 have hbel : Below w.heap.size w w' := (Below.refl w.heap.size w).grown hg (Nat.le_refl _) (fun k h => by cases h)
 have hkl : ∀ k, blockOf v = some k → k < w'.heap.size := fun k hk => (ho.lt k (by rw [← own_blockOf ho]; exact hk)).2
 obtain ⟨hh', m⟩ := hh.newAt (b := ⟨t, sz, 1, false, es⟩) (v := Hd.flat v) hM hbel rfl (fun m => ⟨fun k hk' => by
  have hk' := Hd.flat_has.1 hk'
  exact ⟨Nat.le_trans hh.bs (hb k hk'), hkl k hk', fun hF => absurd (hh.fx _ hF) (by have := hb k hk'; omega)⟩, xs, ho, (hc.mv m).d⟩) (fun k hk' => hb k (Hd.flat_has.1 hk'))
 unfold Oper.wp
 rw [hr, Oper.upon_value]
 refine hk _ _ _ _ hh' ⟨m, hbel.size, fun k h => .inl h, fun q b v2 k g1 g2 g3 => ?_⟩ (Rep.at hh.len hid rfl ?_ rfl)
 · by_cases e : id = q
   · subst e
     rw [List.getElem?_set, if_pos rfl, if_pos (by rw [hh.len]; exact hid)] at g2
     obtain rfl := Option.some.inj g2
     exact .inl (hb k (Hd.flat_has.1 g3))
   · rw [List.getElem?_set, if_neg e] at g1 g2
     exact .inr ⟨q, b, v2, g1, g2, g3⟩
 · rcases ho.2 with ⟨rfl, _⟩ | ⟨g, cap, cur, rfl, _⟩ <;> rfl
theorem POp.koAt {f : FuncId} {fn : Func} {args : Array Operand} {ts : Array TypeId} {vs vs' : List AV} {id : Nat} {b : Blk} (hM : M[id]? = some (some Rsv)) (ho : o.op = .call { callee := .value (.func f), args := args, argTypes := ts }) (hf : P.funcs[f]? = some fn)
 (hn : (fn.name == "runtime.NumGoroutine") = false) (hb : fn.body.isSome = true) (ha : args.toList.mapM (evA tm) = some vs) (hvw : VwL M vs vs') (hc : VCalls P f vs' (fun r' M' => r' = .own 0 0 ∧ M' = [some b])) (hg : b.gen = 0) (hms : DCl b.es) :
 POp P o E tm M (.own id 1) (M.set id (some { b with gen := 1 })) := by
 intro a w K Q Fx β hh hsl hk
 have hid : id < M.length := (List.getElem?_eq_some_iff.1 hM).1
 unfold Oper.wp
 rw [run_call ho hf hn hb, Oper.upon_enter]
 have hargs := hsl.args ha
 let Fc : Nat → Prop := fun k => Fx k ∨ ∃ (id : Nat) (b : Blk) (v : Hd), M[id]? = some (some b) ∧ β[id]? = some v ∧ v.has k
 have hFc : ∀ k, Fc k → k < w.heap.size := by
  rintro k (h | ⟨id, b, v, h1, h2, h3⟩)
  · exact hh.fx k h
  · obtain ⟨v', hv', hok⟩ := hh.blk id b h1
    rw [h2] at hv'
    obtain rfl := Option.some.inj hv'
    exact (hok.1 k h3).2.1
 have hslots : Slots w Fc [] (gens []) vs' (args.map a.eval) := by
  refine ⟨by rw [hargs.1, hvw.get.1], fun i x' u hx' hu => ?_⟩
  have hlt : i < vs.length := by rw [← hvw.get.1]; exact (List.getElem?_eq_some_iff.1 hx').1
  exact hvw.get.2 i _ x' (List.getElem?_eq_getElem hlt) hx' _ _ _ _ _ Fc u hh (fun k h => .inl h) (fun id b v k h1 h2 h3 => .inr ⟨id, b, v, h1, h2, h3⟩) (hargs.2 i _ u (List.getElem?_eq_getElem hlt) hu)
 refine (hc ⟨w.heap.size, w, w, Fc, [], []⟩ _ rfl ⟨Below.refl _ _, Nat.le_refl _, hFc, rfl, fun id b h => by simp at h, fun i1 i2 b1 b2 v1 v2 k _ h => by simp at h⟩ hslots).mono ?_
 rintro e w' ⟨v, r, M', Fx', β', rfl, ⟨rfl, rfl⟩, hh', ho', hrep⟩
 have hbel : Below w.heap.size w w' := hh'.bel
 obtain ⟨hv0, hβ0, hok⟩ := hh'.blk 0 b rfl
 have hvv : hv0.v = v := by
  cases hrep with
  | own _ _ _ h =>
   obtain ⟨hd, h1, h2⟩ := h (show some (some b.gen) = _ by rw [hg])
   rw [hβ0] at h1
   obtain rfl := Option.some.inj h1
   exact h2
 have hone : v.oneCell' = true := by
  cases hrep with
  | own h _ _ _ => exact h
 have hnew : ∀ k, hv0.has k → w.heap.size ≤ k := fun k hk => (hok.1 k hk).1
 obtain ⟨hh2, m⟩ := hh.newAt (b := { b with gen := 1 }) (v := hv0) hM hbel rfl (fun m => hok.clo hms rfl fun k hk => ⟨Nat.le_trans hh.bs (hnew k hk), fun hF => by have := hh.fx k hF; have := hnew k hk; omega⟩) hnew
 refine hk _ _ _ _ hh2 ⟨m, hbel.size, fun k h => .inl h, fun q b2 v2 k g1 g2 g3 => ?_⟩ (Rep.at hh.len hid rfl hone hvv)
 by_cases e : id = q
 · subst e
   rw [List.getElem?_set, if_pos rfl, if_pos (by rw [hh.len]; exact hid)] at g2
   obtain rfl := Option.some.inj g2
   exact .inl (hnew k g3)
 · rw [List.getElem?_set, if_neg e] at g1 g2
   exact .inr ⟨q, b2, v2, g1, g2, g3⟩
end
section
variable {P : Program} {E : Env} {tm : List AV} {M Y : Mem} {o : Oper} {ops : Array Oper} {rest : List Oper} {ch : List (Option Nat)} {N : Mem → List AV → Prop}
theorem DLR.row {i id : Nat} {t : TypeId} {sz : Nat} {es : List (List AV)} (hg : o.guard = none) (hrun : ∀ Y' : Mem, RowRun P o E (msk (o.looksAt ops) tm) (M ++ Y') t sz es) (hY : Y[i]? = some (some Rsv)) (hid : id = M.length + i)
 (hN : DLR P ops E M rest ch (dput tm o.dst (.own id 1)) (Y.set i (some ⟨t, sz, 1, false, es⟩)) N) : DLR P ops E M (o :: rest) (some i :: ch) tm Y N := by
 subst hid
 exact ⟨hg, _, _, _, hY, fun Y' hY' => set_y (M := M) (Y' := Y') ▸ POp.rowAt (at_y hY') (hrun Y'), hN⟩
theorem DLR.call {f : FuncId} {fn : Func} {args : Array Operand} {ts : Array TypeId} {vs vs' : List AV} {i id : Nat} {b : Blk} (hg : o.guard = none) (ho : o.op = .call { callee := .value (.func f), args := args, argTypes := ts }) (hf : P.funcs[f]? = some fn)
 (hn : (fn.name == "runtime.NumGoroutine") = false) (hb : fn.body.isSome = true) (ha : args.toList.mapM (evA (msk (o.looksAt ops) tm)) = some vs) (hvw : ∀ Y' : Mem, VwL (M ++ Y') vs vs') (hc : VCalls P f vs' (fun r' M' => r' = .own 0 0 ∧ M' = [some b])) (hg0 : b.gen = 0) (hms : DCl b.es) (hY : Y[i]? = some (some Rsv)) (hid : id = M.length + i)
 (hN : DLR P ops E M rest ch (dput tm o.dst (.own id 1)) (Y.set i (some { b with gen := 1 })) N) : DLR P ops E M (o :: rest) (some i :: ch) tm Y N := by
 subst hid
 exact ⟨hg, _, _, _, hY, fun Y' hY' => set_y (M := M) (Y' := Y') ▸ POp.koAt (at_y hY') ho hf hn hb ha (hvw Y') hc hg0 hms, hN⟩
theorem DLR.append {s x : Operand} {t e : TypeId} {sz bytes i id g : Nat} {zs : List Value} {b : Blk} {es : List (List AV)} (hg0 : o.guard = none) (ho : o.op = .call { callee := .builtin .append, args := #[s, x], argTypes := #[t, t] }) (hr : rwk P t = some (e, sz, bytes, zs))
 (hs : evA (msk (o.looksAt ops) tm) s = some (.own id g)) (hY : Y[i]? = some (some b)) (hid : id = M.length + i) (hg : b.gen = g) (hb : b.box = false) (hty : b.ty = e) (hbs : b.sz = sz) (hx : evA (msk (o.looksAt ops) tm) x = some (.ro sz es))
 (hlen : (b.es.length + es.length) * bytes ≤ 140737488355328) (hm : b.es.length + es.length ≤ maxLen) (hN : DLR P ops E M rest ch (dput tm o.dst (.own id (g + 1))) (Y.set i (some { b with es := b.es ++ es, gen := b.gen + 1 })) N) : DLR P ops E M (o :: rest) (some i :: ch) tm Y N := by
 subst hid
 exact ⟨hg0, _, _, _, hY, fun Y' hY' => set_y (M := M) (Y' := Y') ▸ POp.append ho hr hs (at_y hY') hg hb hty hbs hx SrcA.ro hlen hm, hN⟩
end
end Go.Proofs.YtpffahmmklpifaaGreat.Abs
