/- Functions as values that hold what they have captured: a variable that is never written again stays as one may point into it. -/
import Derived.Test.YtpffahmmklpifaaGreatAbsZI
import Derived.Test.YtpffahmmklpifaaGreatAbsVF
namespace Go.Proofs.YtpffahmmklpifaaGreat.Abs
open Go.RowKit
set_option linter.unusedVariables false
set_option linter.unusedSimpArgs false

section
variable {P : Program} {E : Env} {tm : List AV} {M : Mem} {o : Oper} {w w0 : World} {Fx : Nat → Prop} {β : List Hd} {base : Nat}
theorem HS.boxRep (h : HS base w0 w Fx β M) {id : Nat} {b : Blk} (hM : M[id]? = some (some b)) (hb : b.box = true) (hc : ∀ r ∈ b.es, ∀ x ∈ r, Clo x) (h0 : 0 < b.sz) {Fx' : Nat → Prop} (hF : ∀ k, Fx k → Fx' k)
 {v : Hd} (hv : β[id]? = some v) (hk : ∀ k, v.has k → Fx' k) : Rep w Fx' [] [] (.rop b.sz b.es 0 0) v.v := by
 obtain ⟨v', hv', h1, h2⟩ := h.blk id b hM
 rw [hv] at hv'
 obtain rfl := Option.some.inj hv'
 rw [hb] at h2
 obtain ⟨v, pv⟩ := v
 obtain ⟨k, xs, hvk, hkx, hl1, hcr⟩ := h2
 obtain rfl : v = _ := hvk
 have up : ∀ {x : AV} {u : Value}, Clo x → CRep w Fx β (gens M) x u → Rep w Fx' [] [] x u := fun hx hr => (hx _ _ _ _ _ hr).mv ⟨hF, fun _ _ => rfl, Nat.le_refl _, fun id g' hi => absurd hi (by simp)⟩
 have hr : b.es[0]? = some b.es[0] := List.getElem?_eq_getElem (by omega)
 have hrl := (hcr.cel 0 _ hr).1
 have cell : ∀ (j : Nat), j < b.sz → ∃ u, xs[j]? = some u ∧ u.oneCell' = true := by
  intro j hj
  obtain ⟨u, hu, h1, _⟩ := (hcr.cel 0 _ hr).2 j (b.es[0])[j] (List.getElem?_eq_getElem (by omega))
  rw [Nat.zero_mul, Nat.zero_add] at hu
  exact ⟨u, by simpa using hu, h1⟩
 have := Rep.rop (w := w) (Fx := Fx') (β := []) (G := []) (sz := b.sz) (es := b.es) (ad := ⟨k, 0, none⟩) (i := 0) (j := 0) (r := b.es[0]) (fun q => if ((xs[q]?).getD (.bool false)).oneCell' = true then (xs[q]?).getD (.bool false) else .bool false) hr hrl h0 (hk k (.inl rfl)) (fun q hq => by
  obtain ⟨u, hu, ho1⟩ := cell q hq
  rw [hu]
  simp only [Option.getD_some, if_pos ho1]
  rw [Addr.add_mid, Nat.zero_mul, Nat.zero_add, Nat.zero_add, cell_of_row w k _ xs b.ty (0, 0) hkx]
  exact hu) (fun q => by
  split
  · assumption
  · rfl) (fun q x hx => by
  obtain ⟨u, hu, ho1, hR⟩ := (hcr.cel 0 _ hr).2 q x hx
  rw [Nat.zero_mul, Nat.zero_add] at hu
  have hu' : xs[q]? = some u := by simpa using hu
  rw [hu']
  simp only [Option.getD_some, if_pos ho1]
  exact up (hc _ (List.mem_of_getElem? hr) x (List.mem_of_getElem? hx)) hR)
 rw [Addr.add_mid] at this
 simpa using this
theorem HS.freezeBox {id : Nat} {b : Blk} {u : Hd} (hh : HS base w0 w Fx β M) (hM : M[id]? = some (some b)) (hv : β[id]? = some u) (hb : b.box = true) (hc : ∀ r ∈ b.es, ∀ x ∈ r, Clo x) (h0 : 0 < b.sz) :
 HS base w0 w (fun k => Fx k ∨ u.has k) β (M.set id none) ∧ Mv w Fx β (gens M) w (fun k => Fx k ∨ u.has k) β (gens (M.set id none)) ∧ Rep w (fun k => Fx k ∨ u.has k) β (gens (M.set id none)) (.rop b.sz b.es 0 0) u.v := by
 obtain ⟨v2, hv2, hok⟩ := hh.blk id b hM
 rw [hv] at hv2
 obtain rfl := Option.some.inj hv2
 have up : ∀ {i : Nat} {b1 : Blk}, (M.set id none)[i]? = some (some b1) → i ≠ id ∧ M[i]? = some (some b1) := fun {i b1} h => by
  rw [List.getElem?_set] at h
  by_cases e : id = i
  · subst e
    rw [if_pos rfl] at h
    split at h <;> simp at h
  · rw [if_neg e] at h
    exact ⟨fun h => e h.symm, h⟩
 have m : Mv w Fx β (gens M) w (fun k => Fx k ∨ u.has k) β (gens (M.set id none)) := ⟨fun k h => .inl h, fun k h => rfl, by simp [gens], fun i g' hi hg' => ⟨g', (gens_none hg').2, Nat.le_refl _, fun _ => rfl⟩⟩
 refine ⟨⟨hh.bel, hh.bs, fun k hk => ?_, by simp [hh.len], fun i b1 h1 => ?_, fun i1 i2 b1 b2 v1 v2 k hne h1 h2 hv1 hv2 hk1 => hh.inj i1 i2 b1 b2 v1 v2 k hne (up h1).2 (up h2).2 hv1 hv2 hk1⟩, m, (hh.boxRep hM hb hc h0 (fun k h => .inl h) hv (fun k hk => .inr hk)).of_clo⟩
 · rcases hk with hk | hk
   · exact hh.fx k hk
   · exact (hok.1 k hk).2.1
 · obtain ⟨hne, h1⟩ := up h1
   obtain ⟨v1, hv1, hok1⟩ := hh.blk i b1 h1
   refine ⟨v1, hv1, hok1.mv m (Nat.le_refl _) (fun k hk => rfl) (fun k hk hF => ?_)⟩
   rcases hF with hF | hF
   · exact (hok1.1 k hk).2.2 hF
   · exact hh.inj i id b1 b v1 u k hne h1 hM hv1 hv hk hF
theorem POp.boxF {t : TypeId} {x : Operand} {y : AV} {cs : List AV} (ho : o.op = .box t x) (hx : evA tm x = some y) (hcs : cellsA y = some cs) (hcc : ∀ x ∈ cs, Clo x) (h0 : Nat.blt 0 cs.length = true) : POp P o E tm M (.rop cs.length [cs] 0 0) (M ++ [none]) := by
 have h := POp.box (P := P) (E := E) (M := M) ho hx hcs
 intro a w K Q Fx β hh hsl hk
 refine h a w K Q Fx β hh hsl fun v w' Fx' β' hh' hx' hr => ?_
 have hM : (M ++ [some ⟨t, cs.length, 0, true, [cs]⟩])[M.length]? = some (some ⟨t, cs.length, 0, true, [cs]⟩) := by simp
 have hv : ∃ u : Hd, β'[M.length]? = some u ∧ ∃ b, blockOf u.v = some b ∧ v = .pointer (some ⟨b, 0, none⟩) := by
  cases hr with
  | ref _ _ _ h =>
   obtain ⟨u, b, h1, h2, h3⟩ := h (gens_of hM)
   exact ⟨u, h1, b, h2, by rw [h3]; simp⟩
 obtain ⟨u, hu, kb, hkb, rfl⟩ := hv
 have hbox : u.v = .pointer (some ⟨kb, 0, none⟩) := by
  obtain ⟨v2, hv2, hok⟩ := hh'.blk _ _ hM
  rw [hu] at hv2
  obtain rfl := Option.some.inj hv2
  obtain ⟨_, h2⟩ := hok
  obtain ⟨k, xs, hvk, _⟩ := h2
  rw [hvk] at hkb ⊢
  simp [blockOf] at hkb
  rw [hkb]
 obtain ⟨h1, m, h3⟩ := hh'.freezeBox hM hu rfl (fun r hr x hx => by rw [List.mem_singleton.1 hr] at hx; exact hcc x hx) (by have := Nat.le_of_ble_eq_true h0; show 0 < cs.length; omega)
 have e : (M ++ [some (⟨t, cs.length, 0, true, [cs]⟩ : Blk)]).set M.length none = M ++ [none] := by simp
 rw [e] at h1 m h3
 have hnew : ∀ k, u.has k → w.heap.size ≤ k ∨ ∃ (id' : Nat) (b' : Blk) (v' : Hd), M[id']? = some (some b') ∧ β[id']? = some v' ∧ v'.has k := fun k hk => hx'.own _ _ u k hM hu hk
 refine hk _ w' _ β' h1 ⟨hx'.mv.trans m, hx'.size, fun k hk => ?_, fun i b1 v1 k g1 g2 g3 => ?_⟩ (by rw [← hbox]; exact h3)
 · rcases hk with hk | hk
   · exact hx'.lim k hk
   · rcases hnew k hk with h | h
     · exact .inr (.inl h)
     · exact .inr (.inr h)
 · refine hx'.own i b1 v1 k ?_ g2 g3
   rw [List.getElem?_append] at g1 ⊢
   split at g1
   · rename_i hlt
     rw [if_pos hlt]
     exact g1
   · cases hq : i - M.length with
     | zero => rw [hq] at g1; simp at g1
     | succ n => rw [hq] at g1; simp at g1
theorem QOp.mkfn {f : FuncId} {caps : Array Operand} {cs : List AV} (ho : o.op = .makeFunc (.func f) #[] caps) (hc : caps.toList.mapM (evA tm) = some cs) : QOp P o tm M (.fn f cs) := fun base w0 a w Fx β hh hs => by
 have hargs := hs.args hc
 refine ⟨.func (.func f) #[] (caps.map a.eval), fun w' _ => by simp [execOp, ho, Instr.makeFunc], ?_⟩
 have := Rep.fn (w := w) (Fx := Fx) (β := β) (G := gens M) (f := f) (cs := cs) (us := (caps.map a.eval).toList) (by simpa using hargs.1) (fun i x u h1 h2 => hargs.2 i x u h1 (by simpa using h2))
 have e : (caps.map a.eval).toList.toArray = caps.map a.eval := Array.toArray_toList
 rw [e] at this
 exact this
theorem POp.vcallV {r' : AV} {M1 : Mem} {f : FuncId} {as as' : List AV} {R : AV → Mem → Prop} (seen : Bool) (hrun : ∀ (a : Act) (w : World) Fx β, HS E.base E.w0 w Fx β M → Slots w Fx β (gens M) tm a.tmps → ∃ vals : Array Value, (execOp a.eval o).run P w = .ok (.enter f vals) w ∧ Slots w Fx β (gens M) as vals)
 (hvl : as'.length = as.length) (hv : ∀ (i : Nat) x x', as[i]? = some x → as'[i]? = some x' → View M x x' ∧ (seen = false → Clo x ∧ x' = x))
 (hc : VCalls P f as' R) (hN : ∀ r M', R r M' → RowsClo M' ∧ Free seen r M' ∧ Sh M.length r r' ∧ M1 = M ++ M') : POp P o E tm M r' M1 := by
 intro a w K Q Fx β hh hsl hk
 unfold Oper.wp
 obtain ⟨vals, hrun, hargs⟩ := hrun a w Fx β hh hsl
 rw [hrun, Oper.upon_enter]
 let Fc : Nat → Prop := fun k => Fx k ∨ (seen = true ∧ ∃ (id : Nat) (b : Blk) (v : Hd), M[id]? = some (some b) ∧ β[id]? = some v ∧ v.has k)
 have hFc : ∀ k, Fc k → k < w.heap.size := by
  rintro k (h | ⟨_, id, b, v, h1, h2, h3⟩)
  · exact hh.fx k h
  · obtain ⟨v', hv', hok⟩ := hh.blk id b h1
    rw [h2] at hv'
    obtain rfl := Option.some.inj hv'
    exact (hok.1 k h3).2.1
 have hslots : Slots w Fc [] (gens []) as' vals := by
  refine ⟨by rw [hargs.1, hvl], fun i x' u hx' hu => ?_⟩
  have hlt : i < as.length := by rw [← hvl]; exact (List.getElem?_eq_some_iff.1 hx').1
  have hrx := hargs.2 i _ u (List.getElem?_eq_getElem hlt) hu
  obtain ⟨hview, hsn⟩ := hv i _ x' (List.getElem?_eq_getElem hlt) hx'
  generalize as[i] = x at hrx hview hsn
  rcases Bool.eq_false_or_eq_true seen with hse | hse
  · exact hview _ _ _ _ _ Fc u hh (fun k h => .inl h) (fun id b v k h1 h2 h3 => .inr ⟨hse, id, b, v, h1, h2, h3⟩) hrx
  · obtain ⟨hcl, rfl⟩ := hsn hse
    exact (hcl _ _ _ _ _ hrx.cr).up0 (fun k h => .inl h)
 refine (hc ⟨w.heap.size, w, w, Fc, [], []⟩ _ rfl ⟨Below.refl _ _, Nat.le_refl _, hFc, rfl, fun id b h => by simp at h, fun i1 i2 b1 b2 v1 v2 k _ h => by simp at h⟩ hslots).mono ?_
 rintro e w' ⟨v, r, M', Fx', β', rfl, hR, hh', ho', hrep⟩
 obtain ⟨hrc, hfree, hsh, rfl⟩ := hN r M' hR
 have hbel : Below w.heap.size w w' := hh'.bel
 have hβl : β.length = M.length := hh.len
 have hGl : (gens M).length = M.length := gens_length M
 have lim1 : ∀ k, Fx' k → Fc k ∨ w.heap.size ≤ k := fun k hk => by
  rcases ho'.lim k hk with h | h | ⟨id, b, v, h, _⟩
  · exact .inl h
  · exact .inr h
  · simp at h
 rcases hfree with hs0 | ⟨hp, hrows⟩
 · -- nothing of ours was seen
   have hj := hh.join hbel hh' hrc (Fx2 := Fx') (fun k hk => ho'.mv.fx k (.inl hk)) (fun k hk => by
    rcases lim1 k hk with h | h
    · rcases h with h | ⟨h, _⟩
      · exact .inl h
      · rw [hs0] at h; cases h
    · exact .inr ⟨h, hk⟩) (fun b hb e he x hx u hr => hr)
   refine hk _ _ _ _ hj.1 ⟨hj.2, hbel.size, fun k hk => ?_, fun id b v k g1 g2 g3 => ?_⟩ (by rw [gens_append]; exact hsh _ _ _ _ _ _ _ hβl hGl hrep)
   · rcases lim1 k hk with h | h
     · rcases h with h | ⟨h, _⟩
       · exact .inl h
       · rw [hs0] at h; cases h
     · exact .inr (.inl h)
   · rcases Nat.lt_or_ge id M.length with hid | hid
     · rw [List.getElem?_append_left hid] at g1
       rw [List.getElem?_append_left (by omega)] at g2
       exact .inr ⟨id, b, v, g1, g2, g3⟩
     · rw [List.getElem?_append_right hid] at g1
       rw [List.getElem?_append_right (by omega), hβl] at g2
       obtain ⟨v', hv', hok⟩ := hh'.blk _ b g1
       rw [g2] at hv'
       obtain rfl := Option.some.inj hv'
       exact .inl (hok.1 k g3).1
 · have hj := hh.join hbel hh' hrc (Fx2 := Fx) (fun k hk => hk) (fun k hk => .inl hk) (fun b hb e he x hx u hr => (hrows b hb e he x hx _ _ _ _ _ hr).mv ⟨fun _ h => h.elim, fun _ h => h.elim, Nat.le_refl _, fun id g' hi => absurd hi (by simp)⟩)
   have hrep2 : Rep w' Fx (β ++ β') (gens (M ++ M')) r' v := by
    rw [gens_append]
    exact hsh _ _ _ _ _ _ _ hβl hGl (hp _ _ _ _ _ _ hrep)
   refine hk _ _ _ _ hj.1 ⟨hj.2, hbel.size, fun k hk => .inl hk, fun id b v k g1 g2 g3 => ?_⟩ hrep2
   rcases Nat.lt_or_ge id M.length with hid | hid
   · rw [List.getElem?_append_left hid] at g1
     rw [List.getElem?_append_left (by omega)] at g2
     exact .inr ⟨id, b, v, g1, g2, g3⟩
   · rw [List.getElem?_append_right hid] at g1
     rw [List.getElem?_append_right (by omega), hβl] at g2
     obtain ⟨v', hv', hok⟩ := hh'.blk _ b g1
     rw [g2] at hv'
     obtain rfl := Option.some.inj hv'
     exact .inl (hok.1 k g3).1

theorem POp.pcallC {f : FuncId} {fn : Func} {args : Array Operand} {ts : Array TypeId} {vs cs : List AV} {r : AV} {y : Operand} (ho : o.op = .call { callee := .value y, args := args, argTypes := ts }) (hy : evA tm y = some (.fn f cs)) (hf : P.funcs[f]? = some fn)
 (hn : (fn.name == "runtime.NumGoroutine") = false) (hb : fn.body.isSome = true) (ha : args.toList.mapM (evA tm) = some vs) (hv : ∀ x ∈ vs ++ cs, Clo x)
 (hc : VCalls P f (vs ++ cs) (fun r' M' => r' = r ∧ M' = [])) (hr : Clo r) : POp P o E tm M r M := by
 refine POp.vcallV false (fun a w Fx β hh hsl => ?_) rfl (fun i x x' hx hx' => ?_) hc (fun r' M' hR => ?_)
 · have hrep := hsl.ev hy
   generalize he : a.eval y = u at hrep
   cases hrep with
   | @fn _ _ us hl h =>
    have h1 : fn.name ≠ "runtime.NumGoroutine" := by simpa using hn
    have h3 : ¬ fn.body = none := by intro h; rw [h] at hb; cases hb
    have hargs := hsl.args ha
    refine ⟨args.map a.eval ++ us.toArray, by simp [execOp, ho, resolve, he, Deferred.ofValue, invoke, callFunc, hf, h1, h3], by simp [hargs.1, hl], fun i x u hx hu => ?_⟩
    rw [Array.getElem?_append] at hu
    rw [List.getElem?_append] at hx
    have hsz : (args.map a.eval).size = vs.length := hargs.1
    by_cases hi : i < vs.length
    · rw [if_pos hi] at hx
      rw [if_pos (by omega)] at hu
      exact hargs.2 i x u hx hu
    · rw [if_neg hi] at hx
      rw [if_neg (by omega), hsz] at hu
      exact h _ x u hx (by simpa using hu)
 · rw [hx] at hx'
   obtain rfl := Option.some.inj hx'
   have := hv x (List.mem_of_getElem? hx)
   exact ⟨.same this, fun _ => ⟨this, rfl⟩⟩
 · obtain ⟨rfl, rfl⟩ := hR
   exact ⟨fun b hb => by simp at hb, .inl rfl, Sh.clo hr, by rw [List.append_nil]⟩
theorem clo_rows_app {a b : List (List AV)} (ha : ∀ r ∈ a, ∀ x ∈ r, Clo x) (hb : ∀ r ∈ b, ∀ x ∈ r, Clo x) : ∀ r ∈ a ++ b, ∀ x ∈ r, Clo x := fun r hr => (List.mem_append.1 hr).elim (ha r) (hb r)
theorem clo_rows_map {α : Type} {en : α → List AV} (h : ∀ a, ∀ x ∈ en a, Clo x) {l : List α} : ∀ r ∈ l.map en, ∀ x ∈ r, Clo x := fun r hr x hx => by
 obtain ⟨a, _, rfl⟩ := List.mem_map.1 hr
 exact h a x hx
def viewA (M : Mem) : AV → AV
 | .own id g => match M[id]? with
  | some (some b) => .ro b.sz b.es
  | _ => .own id g
 | x => x
def viewsOk (M : Mem) : List AV → Prop
 | [] => True
 | .own id g :: l => (∃ b, M[id]? = some (some b) ∧ b.gen = g ∧ b.box = false ∧ ∀ r ∈ b.es, ∀ x ∈ r, Clo x) ∧ viewsOk M l
 | _ :: l => viewsOk M l
theorem viewsOk_get : ∀ {l : List AV} {i : Nat} {x : AV}, viewsOk M l → l[i]? = some x → Clo (viewA M x) → View M x (viewA M x)
 | [], _, _, _, h, _ => by simp at h
 | y :: l, 0, x, hv, h, hc => by
  simp only [List.getElem?_cons_zero, Option.some.injEq] at h
  subst h
  cases y with
  | own id g =>
   obtain ⟨⟨b, h1, h2, h3, h4⟩, _⟩ := hv
   simp only [viewA, h1]
   exact .row h1 h2 h3 h4
  | _ => exact .same hc
 | y :: l, i + 1, x, hv, h, hc => by
  rw [List.getElem?_cons_succ] at h
  refine viewsOk_get (l := l) (i := i) ?_ h hc
  cases y with
  | own id g => exact hv.2
  | _ => exact hv
theorem POp.pcallW {f : FuncId} {fn : Func} {args : Array Operand} {ts : Array TypeId} {vs vs' : List AV} {r : AV} (ho : o.op = .call { callee := .value (.func f), args := args, argTypes := ts }) (hf : P.funcs[f]? = some fn)
 (hn : (fn.name == "runtime.NumGoroutine") = false) (hb : fn.body.isSome = true) (ha : args.toList.mapM (evA tm) = some vs) (hvw : vs.map (viewA M) = vs') (hok : viewsOk M vs) (hv : ∀ x ∈ vs', Clo x)
 (hc : VCalls P f vs' (fun r' M' => r' = r ∧ M' = [])) (hr : Pur r) : POp P o E tm M r M := by
 subst hvw
 refine POp.vcall true ho hf hn hb ha (by simp) (fun i x x' hx hx' => ?_) hc (fun r' M' hR => ?_)
 · rw [List.getElem?_map, hx] at hx'
   obtain rfl := Option.some.inj hx'
   exact ⟨viewsOk_get hok hx (hv _ (List.mem_map.2 ⟨x, List.mem_of_getElem? hx, rfl⟩)), fun h => by cases h⟩
 · obtain ⟨rfl, rfl⟩ := hR
   exact ⟨fun b hb => by simp at hb, .inr ⟨.pur hr, fun b hb => by simp at hb⟩, Sh.clo hr.clo, by rw [List.append_nil]⟩
end
end Go.Proofs.YtpffahmmklpifaaGreat.Abs
