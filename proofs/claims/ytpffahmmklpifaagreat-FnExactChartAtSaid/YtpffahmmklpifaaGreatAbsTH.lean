/- Rows that are handed to a callee: changed in their place, or given away. -/
import Derived.Test.YtpffahmmklpifaaGreatAbsTV
namespace Go.Proofs.YtpffahmmklpifaaGreat.Abs
open Go.RowKit
set_option linter.unusedVariables false
set_option linter.unusedSimpArgs false

def putAt {α : Type} : List α → List Nat → List α → List α
 | l, i :: is, x :: xs => putAt (l.set i x) is xs
 | l, _, _ => l
theorem putAt_length {α : Type} : ∀ (is : List Nat) (xs l : List α), (putAt l is xs).length = l.length
 | [], xs, l => by simp [putAt]
 | i :: is, [], l => by simp [putAt]
 | i :: is, x :: xs, l => by rw [putAt, putAt_length]; simp
theorem putAt_ne {α : Type} {q : Nat} : ∀ (is : List Nat) (xs l : List α), q ∉ is → (putAt l is xs)[q]? = l[q]?
 | [], xs, l, _ => by simp [putAt]
 | i :: is, [], l, _ => by simp [putAt]
 | i :: is, x :: xs, l, h => by
  rw [putAt, putAt_ne is xs _ (fun h2 => h (List.mem_cons_of_mem _ h2)), List.getElem?_set, if_neg (fun e => h (by rw [e]; exact List.mem_cons_self))]
theorem putAt_get {α : Type} {q : Nat} : ∀ (is : List Nat) (xs l : List α), is.Nodup → ∀ (p : Nat) (x : α), is[p]? = some q → xs[p]? = some x → q < l.length → (putAt l is xs)[q]? = some x
 | [], xs, l, _, p, x, h, _, _ => by simp at h
 | i :: is, [], l, _, p, x, _, h, _ => by simp at h
 | i :: is, y :: xs, l, hn, p, x, h, hx, hq => by
  rw [putAt]
  have hn' := List.nodup_cons.1 hn
  cases p with
  | zero =>
   simp at h hx
   subst h hx
   rw [putAt_ne is xs _ hn'.1, List.getElem?_set, if_pos rfl, if_pos hq]
  | succ p =>
   exact putAt_get is xs _ hn'.2 p x (by simpa using h) (by simpa using hx) (by simpa using hq)
def genAt (M : Mem) (id : Nat) : Nat := match M[id]? with
 | some (some b) => b.gen
 | _ => 0
theorem genAt_of {M : Mem} {id : Nat} {b : Blk} (h : M[id]? = some (some b)) : genAt M id = b.gen := by simp [genAt, h]
def handB (M : Mem) (ids : List Nat) (bs : List Blk) : Mem := putAt M ids (List.zipWith (fun id (b : Blk) => some { b with gen := genAt M id }) ids bs)
def killB (M : Mem) (ids : List Nat) : Mem := putAt M ids (ids.map fun _ => none)

section
variable {P : Program} {E : Env} {tm : List AV} {M : Mem} {o : Oper} {w w0 : World} {Fx : Nat → Prop} {β : List Hd} {base : Nat} {G : List (Option Nat)}
def Rest (w : World) (β : List Hd) (ids : List Nat) (k : Nat) : Prop := k < w.heap.size ∧ ∀ (pos id : Nat) (v : Hd), ids[pos]? = some id → β[id]? = some v → ¬ v.has k
theorem HS.rest {ids : List Nat} (hh : HS base w0 w Fx β M) (hok : pkOk M ids) : (∀ k, Fx k → Rest w β ids k) ∧ ∀ (q : Nat) (b : Blk) (v : Hd) k, M[q]? = some (some b) → β[q]? = some v → v.has k → q ∉ ids → Rest w β ids k := by
 refine ⟨fun k hk => ⟨hh.fx k hk, fun pos id v h1 h2 h3 => ?_⟩, fun q b v k hq hv hk hn => ⟨?_, fun pos id v' h1 h2 h3 => ?_⟩⟩
 · obtain ⟨b, g1, _, _⟩ := hok.get pos id h1
   obtain ⟨v', g2, g3⟩ := hh.blk id b g1
   rw [h2] at g2
   obtain rfl := Option.some.inj g2
   exact (g3.1 k h3).2.2 hk
 · obtain ⟨v', g2, g3⟩ := hh.blk q b hq
   rw [hv] at g2
   obtain rfl := Option.some.inj g2
   exact (g3.1 k hk).2.1
 · obtain ⟨b', g1, _, _⟩ := hok.get pos id h1
   exact hh.inj q id b b' v v' k (fun e => hn (by rw [e]; exact List.mem_of_getElem? h1)) hq g1 hv h2 hk h3
abbrev subH (β : List Hd) (ids : List Nat) : List Hd := ids.map fun id => (β[id]?).getD (Hd.flat undef)
theorem HS.subH_get {ids : List Nat} (hh : HS base w0 w Fx β M) (hok : pkOk M ids) {p : Nat} {b : Blk} {v : Hd} (hb : (packB M ids)[p]? = some (some b)) (hv : (subH β ids)[p]? = some v) : ∃ id b0, ids[p]? = some id ∧ M[id]? = some (some b0) ∧ β[id]? = some v := by
 obtain ⟨id, b0, h1, h2, h3, h4⟩ := packB_get hok hb
 obtain ⟨v0, hv0, _⟩ := hh.blk id b0 h2
 rw [List.getElem?_map, h1] at hv
 simp [hv0] at hv
 subst hv
 exact ⟨id, b0, h1, h2, hv0⟩
theorem Slots.hand {ids : List Nat} {vs : List AV} {us : Array Value} (hh : HS base w0 w Fx β M) (hok : pkOk M ids) (h : Slots w Fx β (gens M) vs us) (hr : ∀ x ∈ vs, rokA M ids x) : Slots w (Rest w β ids) (subH β ids) (gens (packB M ids)) (vs.map (renA ids)) us := by
 refine ⟨by rw [h.1]; simp, fun i x' u hx hu => ?_⟩
 obtain ⟨x, hx0, rfl⟩ := map_get_of hx
 rw [gens_packB hok]
 exact (Ren.a (hr x (List.mem_of_getElem? hx0)) _ _ _ _ (h.2 i x u hx0 hu)).mv ⟨(hh.rest hok).1, fun _ _ => rfl, Nat.le_refl _, fun id g' _ h => ⟨g', h, Nat.le_refl _, fun _ => rfl⟩⟩

theorem POp.hand {f : FuncId} {fn : Func} {args : Array Operand} {ts : Array TypeId} {vs vs' : List AV} {r : AV} (ids : List Nat) {bs : List Blk} (ho : o.op = .call { callee := .value (.func f), args := args, argTypes := ts }) (hf : P.funcs[f]? = some fn)
 (hn : (fn.name == "runtime.NumGoroutine") = false) (hb : fn.body.isSome = true) (ha : args.toList.mapM (evA tm) = some vs) (hid : ids.Nodup) (hok : pkOk M ids) (hren : ∀ x ∈ vs, rokA M ids x) (hvs : vs.map (renA ids) = vs') (hl : bs.length = ids.length)
 (hbs : ∀ b ∈ bs, b.gen = 0 ∧ DCl b.es) (hc : ACalls P f vs' (packB M ids) (fun r' M' => r' = r ∧ ∃ Mx, M' = bs.map some ++ Mx)) (hr : Pur r) : POp P o E tm M r (handB M ids bs) := by
 subst hvs
 intro a w K Q Fx β hh hsl hk
 unfold Oper.wp
 rw [run_call ho hf hn hb, Oper.upon_enter]
 have hargs := hsl.args ha
 obtain ⟨hr1, hr2⟩ := hh.rest hok
 refine (hc ⟨E.base, E.w0, w, Rest w β ids, subH β ids, packB M ids⟩ _ rfl (hh.pack hid hok (fun k h => h.1) (fun pos id v k h1 h2 h3 h4 => h4.2 pos id v h1 h2 h3)) (hargs.hand hh hok hren)).mono ?_
 rintro e w' ⟨v, r', M', Fx', β', rfl, ⟨rfl, Mx, rfl⟩, hh', ho', hrep⟩
 have hβl : β.length = M.length := hh.len
 have hβ'l : bs.length ≤ β'.length := by rw [hh'.len]; simp
 have hsz : w.heap.size ≤ w'.heap.size := ho'.size
 -- the handed rows, after
 have hget : ∀ {p q : Nat}, ids[p]? = some q → ∃ (b0 b : Blk) (v : Hd), M[q]? = some (some b0) ∧ bs[p]? = some b ∧ β'[p]? = some v ∧ (handB M ids bs)[q]? = some (some { b with gen := b0.gen }) ∧ (putAt β ids β')[q]? = some v ∧ BlkOk w' Fx' β' (gens (bs.map some ++ Mx)) E.base b v ∧ b.gen = 0 ∧ DCl b.es := by
  intro p q hp
  obtain ⟨b0, h1, _, _⟩ := hok.get p q hp
  have hpl : p < bs.length := by rw [hl]; exact (List.getElem?_eq_some_iff.1 hp).1
  have hbp := List.getElem?_eq_getElem hpl
  have hM' : (bs.map some ++ Mx)[p]? = some (some bs[p]) := by rw [List.getElem?_append_left (by simpa using hpl), List.getElem?_map, hbp]; rfl
  obtain ⟨v, hv, hbk⟩ := hh'.blk p _ hM'
  have hql : q < M.length := (List.getElem?_eq_some_iff.1 h1).1
  refine ⟨b0, bs[p], v, h1, hbp, hv, ?_, ?_, hbk, hbs _ (List.getElem_mem hpl)⟩
  · exact putAt_get _ _ _ hid p _ hp (by rw [List.getElem?_zipWith, hp, hbp]; simp [genAt_of h1]) hql
  · exact putAt_get _ _ _ hid p v hp hv (by omega)
 have hhas : ∀ {p q : Nat} {v : Hd} {k : Nat}, ids[p]? = some q → β'[p]? = some v → v.has k → w.heap.size ≤ k ∨ ∃ (id : Nat) (b : Blk) (v' : Hd), id ∈ ids ∧ M[id]? = some (some b) ∧ β[id]? = some v' ∧ v'.has k := by
  intro p q v k hp hv hk
  obtain ⟨b0, b, v1, g1, g2, g3, _⟩ := hget hp
  have hM' : (bs.map some ++ Mx)[p]? = some (some b) := by rw [List.getElem?_append_left (by simpa using (List.getElem?_eq_some_iff.1 g2).1), List.getElem?_map, g2]; rfl
  rcases ho'.own p b v k hM' hv hk with h | ⟨id', b', v', h1, h2, h3⟩
  · exact .inl h
  · obtain ⟨id, b2, a1, a2, a3⟩ := hh.subH_get hok h1 h2
    exact .inr ⟨id, b2, v', List.mem_of_getElem? a1, a2, a3, h3⟩
 have split : ∀ {q : Nat} {b : Blk}, (handB M ids bs)[q]? = some (some b) → (∃ p : Nat, ids[p]? = some q) ∨ (q ∉ ids ∧ M[q]? = some (some b) ∧ (putAt β ids β')[q]? = β[q]?) := by
  intro q b hq
  by_cases hm : q ∈ ids
  · exact .inl (List.getElem?_of_mem hm)
  · exact .inr ⟨hm, by rwa [handB, putAt_ne _ _ _ hm] at hq, putAt_ne _ _ _ hm⟩
 have hheap : ∀ k, Rest w β ids k → w'.heap[k]? = w.heap[k]? := fun k hk => ho'.mv.heap k hk
 have m : Mv w Fx β (gens M) w' Fx (putAt β ids β') (gens (handB M ids bs)) := ⟨fun _ h => h, fun k hk => hheap k (hr1 k hk), by simp [gens_length, handB, putAt_length], fun q g' hq hg' => by
  obtain ⟨b1, hb1, rfl⟩ := gens_get hg'
  rcases split hb1 with ⟨p, hp⟩ | ⟨hm, h1, h2⟩
  · obtain ⟨b0, b, v1, g1, g2, g3, g4, g5, g6, g7, g8⟩ := hget hp
    rw [hb1] at g4
    simp at g4
    subst g4
    refine ⟨b0.gen, gens_of g1, Nat.le_refl _, fun _ => ?_⟩
    have hpi : p < ids.length := (List.getElem?_eq_some_iff.1 hp).1
    have hM' : (bs.map some ++ Mx)[p]? = some (some b) := by rw [List.getElem?_append_left (by simpa using (List.getElem?_eq_some_iff.1 g2).1), List.getElem?_map, g2]; rfl
    obtain ⟨g, k1, k2, k3⟩ := ho'.mv.gen p 0 (by rw [gens_length]; simpa [packB] using hpi) (by rw [gens_of hM', g7])
    have e0 : g = 0 := by omega
    have k4 := k3 e0
    obtain ⟨v0, hv0, _⟩ := hh.blk q b0 g1
    rw [g3] at k4
    have e1 : (subH β ids)[p]? = some v0 := by rw [List.getElem?_map, hp]; simp [hv0]
    rw [e1] at k4
    rw [g5, hv0]
    exact k4
  · exact ⟨b1.gen, gens_of h1, Nat.le_refl _, fun _ => hd_eq h2⟩⟩
 refine hk v w' Fx (putAt β ids β') ⟨hh'.bel, Nat.le_trans hh.bs hsz, fun k hk => Nat.lt_of_lt_of_le (hh.fx k hk) hsz, by simp [handB, putAt_length, hβl], fun q b1 hq => ?_, fun q1 q2 b1 b2 v1 v2 k hne h1 h2 hv1 hv2 hk1 hk2 => ?_⟩ ⟨m, hsz, fun k hk => .inl hk, fun q b1 v1 k hq hv hk => ?_⟩ (((hr _ _ _ _ _ hrep.cr).mv ⟨fun _ h => h.elim, fun _ h => h.elim, Nat.le_refl _, fun id g' hi => absurd hi (by simp)⟩ : Rep w' Fx [] [] r' v).of_clo)
 · rcases split hq with ⟨p, hp⟩ | ⟨hm, h1, h2⟩
   · obtain ⟨b0, b, v1, g1, g2, g3, g4, g5, g6, g7, g8⟩ := hget hp
     rw [hq] at g4
     simp at g4
     subst g4
     refine ⟨v1, g5, g6.clo g8 rfl fun k hk => ⟨(g6.1 k hk).1, fun hF => ?_⟩⟩
     rcases hhas hp g3 hk with h | ⟨id, b2, v', h3, h4, h5, h6⟩
     · have := hh.fx k hF; omega
     · obtain ⟨v2, k1, k2⟩ := hh.blk id b2 h4
       rw [h5] at k1
       obtain rfl := Option.some.inj k1
       exact (k2.1 k h6).2.2 hF
   · obtain ⟨v1, hv, hbk⟩ := hh.blk q b1 h1
     exact ⟨v1, h2.trans hv, hbk.mv m hsz (fun k hk => hheap k (hr2 q b1 v1 k h1 hv hk hm)) (fun k hk => (hbk.1 k hk).2.2)⟩
 · have cross : ∀ {p q q' : Nat} {b : Blk} {v v' : Hd} {k : Nat}, ids[p]? = some q → β'[p]? = some v → v.has k → q' ∉ ids → M[q']? = some (some b) → β[q']? = some v' → v'.has k → False := by
    intro p q q' b v v' k hp hv hk hn hM hv' hk'
    rcases hhas hp hv hk with h | ⟨id, b2, v2, h3, h4, h5, h6⟩
    · obtain ⟨v3, k1, k2⟩ := hh.blk q' b hM
      rw [hv'] at k1
      obtain rfl := Option.some.inj k1
      have := (k2.1 k hk').2.1
      omega
    · exact hh.inj q' id b b2 v' v2 k (fun e => hn (by rw [e]; exact h3)) hM h4 hv' h5 hk' h6
   rcases split h1 with ⟨p1, hp1⟩ | ⟨m1, c1, e1⟩ <;> rcases split h2 with ⟨p2, hp2⟩ | ⟨m2, c2, e2⟩
   · obtain ⟨_, a2, a3, _, a5, a6, _, a8, _⟩ := hget hp1
     obtain ⟨_, d2, d3, _, d5, d6, _, d8, _⟩ := hget hp2
     rw [hv1] at a8
     obtain rfl := Option.some.inj a8
     rw [hv2] at d8
     obtain rfl := Option.some.inj d8
     have lk : ∀ {p : Nat} {b : Blk}, bs[p]? = some b → (bs.map some ++ Mx)[p]? = some (some b) := fun {p b} g2 => by rw [List.getElem?_append_left (by simpa using (List.getElem?_eq_some_iff.1 g2).1), List.getElem?_map, g2]; rfl
     exact hh'.inj p1 p2 _ _ _ _ k (fun e => hne (by rw [e, hp2] at hp1; exact (Option.some.inj hp1).symm)) (lk a5) (lk d5) a6 d6 hk1 hk2
   · obtain ⟨_, a2, a3, _, a5, a6, _, a8, _⟩ := hget hp1
     rw [hv1] at a8
     obtain rfl := Option.some.inj a8
     exact cross hp1 a6 hk1 m2 c2 (e2 ▸ hv2) hk2
   · obtain ⟨_, d2, d3, _, d5, d6, _, d8, _⟩ := hget hp2
     rw [hv2] at d8
     obtain rfl := Option.some.inj d8
     exact cross hp2 d6 hk2 m1 c1 (e1 ▸ hv1) hk1
   · exact hh.inj q1 q2 b1 b2 v1 v2 k hne c1 c2 (e1 ▸ hv1) (e2 ▸ hv2) hk1 hk2
 · rcases split hq with ⟨p, hp⟩ | ⟨hm, h1, h2⟩
   · obtain ⟨b0, b, v2, g1, g2, g3, g4, g5, _⟩ := hget hp
     rw [hv] at g5
     obtain rfl := Option.some.inj g5
     rcases hhas hp g3 hk with h | ⟨id, b2, v', h3, h4, h5, h6⟩
     · exact .inl h
     · exact .inr ⟨id, b2, v', h4, h5, h6⟩
   · exact .inr ⟨q, b1, v1, h1, h2.symm.trans hv, hk⟩

def HCalls (P : Program) (f : FuncId) (args : List AV) (M : Mem) (R : AV → Mem → Prop) : Prop :=
 ∀ (E : Env) (vals : Array Value), E.M = M → HS E.base E.w0 E.win E.Fx E.β M → Slots E.win E.Fx E.β (gens M) args vals →
  Calls P f vals E.win fun e w' => ∃ v r M' Fx β, e = .returned v ∧ R r M' ∧ HS E.base E.w0 w' Fx β M' ∧ (E.win.heap.size ≤ w'.heap.size ∧ (∀ k, E.Fx k → w'.heap[k]? = E.win.heap[k]?) ∧
   ∀ (id : Nat) b (v : Hd) k, M'[id]? = some (some b) → β[id]? = some v → v.has k → E.win.heap.size ≤ k ∨ ∃ (id' : Nat) (b' : Blk) (v' : Hd), M[id']? = some (some b') ∧ E.β[id']? = some v' ∧ v'.has k) ∧ Rep w' Fx β (gens M') r v
theorem HCalls.body {f : FuncId} {fn : Func} {c : Code} {args : List AV} {Ms : Mem} {R : AV → Mem → Prop} (hf : P.funcs[f]? = some fn) (hb : fn.body = some c) (n : Nat) (hn : fn.ntmps = args.length + n)
 (h : ∀ E : Env, E.M = Ms → AW P c E (args ++ List.replicate n (.c undef)) Ms (Fin P fn R)) : HCalls P f args Ms R := by
 have hA : ACalls P f args Ms (fun r M' => ∃ r2 M2, Pack r M' r2 M2 ∧ R r2 M2) := ACalls.enter hf hb n hn fun E hE => (h E hE).mono fun e tm' M' ⟨he, r, hr, hp⟩ => ⟨he, r, hr, hp⟩
 intro E vals hM hh hsl
 refine (hA E vals hM hh hsl).mono ?_
 rintro e w' ⟨v, r, M', Fx, β, rfl, ⟨r2, M2, hp, hR⟩, hh', ho, hr⟩
 obtain ⟨β2, hh2, hr2, hbl⟩ := hp E.base E.w0 w' Fx β v hh' hr
 refine ⟨v, r2, M2, Fx, β2, rfl, hR, hh2, ⟨ho.size, ho.mv.heap, fun id b v k g1 g2 g3 => ?_⟩, hr2⟩
 obtain ⟨id', b', v', g4, g5, g6⟩ := hbl id b v k g1 g2 g3
 rcases ho.own id' b' v' k g4 g5 g6 with h | ⟨id2, b2, v2, k1, k2, k3⟩
 · exact .inl h
 · exact .inr ⟨id2, b2, v2, by rw [← hM]; exact k1, k2, k3⟩
theorem killB_get {ids : List Nat} {q : Nat} {b : Blk} (hid : ids.Nodup) (hM : ∀ id ∈ ids, id < M.length) (h : (killB M ids)[q]? = some (some b)) : q ∉ ids ∧ M[q]? = some (some b) := by
 by_cases hm : q ∈ ids
 · obtain ⟨p, hp⟩ := List.getElem?_of_mem hm
   have := putAt_get ids (ids.map fun _ => (none : Option Blk)) M hid p none hp (by rw [List.getElem?_map, hp]; rfl) (hM q hm)
   rw [killB, this] at h
   cases h
 · exact ⟨hm, by rwa [killB, putAt_ne _ _ _ hm] at h⟩
theorem POp.move {f : FuncId} {fn : Func} {args : Array Operand} {ts : Array TypeId} {vs vs' : List AV} {r : AV} {Ms : Mem} (ids : List Nat) (ho : o.op = .call { callee := .value (.func f), args := args, argTypes := ts }) (hf : P.funcs[f]? = some fn)
 (hn : (fn.name == "runtime.NumGoroutine") = false) (hb : fn.body.isSome = true) (ha : args.toList.mapM (evA tm) = some vs) (hid : ids.Nodup) (hok : pkOk M ids) (hren : ∀ x ∈ vs, rokA M ids x) (hvs : vs.map (renA ids) = vs')
 (hc : HCalls P f vs' (packB M ids) (fun r' M' => r' = r ∧ M' = Ms)) (hr : lfA r = true) (hms : rowsOk Ms) : POp P o E tm M (shA M.length r) (killB M ids ++ Ms) := by
 subst hvs
 intro a w K Q Fx β hh hsl hk
 unfold Oper.wp
 rw [run_call ho hf hn hb, Oper.upon_enter]
 have hargs := hsl.args ha
 obtain ⟨hr1, hr2⟩ := hh.rest hok
 refine (hc ⟨E.base, E.w0, w, Rest w β ids, subH β ids, packB M ids⟩ _ rfl (hh.pack hid hok (fun k h => h.1) (fun pos id v k h1 h2 h3 h4 => h4.2 pos id v h1 h2 h3)) (hargs.hand hh hok hren)).mono ?_
 rintro e w' ⟨v, r', M', Fx', β', rfl, ⟨rfl, rfl⟩, hh', ⟨hsz, hheap, hown⟩, hrep⟩
 dsimp only at hsz hheap hown
 have hβl : β.length = M.length := hh.len
 have hkl : (killB M ids).length = M.length := putAt_length ..
 have hlt : ∀ id ∈ ids, id < M.length := fun id hm => by
  obtain ⟨p, hp⟩ := List.getElem?_of_mem hm
  obtain ⟨b, h1, _⟩ := hok.get p id hp
  exact (List.getElem?_eq_some_iff.1 h1).1
 have hhas : ∀ {p : Nat} {b : Blk} {v : Hd} {k : Nat}, M'[p]? = some (some b) → β'[p]? = some v → v.has k → w.heap.size ≤ k ∨ ∃ (id : Nat) (b : Blk) (v' : Hd), id ∈ ids ∧ M[id]? = some (some b) ∧ β[id]? = some v' ∧ v'.has k := by
  intro p b v k hp hv hk
  rcases hown p b v k hp hv hk with h | ⟨id', b', v', h1, h2, h3⟩
  · exact .inl h
  · obtain ⟨id, b2, a1, a2, a3⟩ := hh.subH_get hok h1 h2
    exact .inr ⟨id, b2, v', List.mem_of_getElem? a1, a2, a3, h3⟩
 have split : ∀ {q : Nat} {b : Blk}, (killB M ids ++ M')[q]? = some (some b) → (q < M.length ∧ q ∉ ids ∧ M[q]? = some (some b) ∧ (β ++ β')[q]? = β[q]?) ∨ (M.length ≤ q ∧ M'[q - M.length]? = some (some b) ∧ (β ++ β')[q]? = β'[q - M.length]?) := by
  intro q b hq
  rcases Nat.lt_or_ge q M.length with h | h
  · rw [List.getElem?_append_left (by rw [hkl]; exact h)] at hq
    obtain ⟨h1, h2⟩ := killB_get hid hlt hq
    exact .inl ⟨h, h1, h2, List.getElem?_append_left (by rw [hβl]; exact h)⟩
  · rw [List.getElem?_append_right (by rw [hkl]; exact h), hkl] at hq
    exact .inr ⟨h, hq, by rw [List.getElem?_append_right (by rw [hβl]; exact h), hβl]⟩
 have m : Mv w Fx β (gens M) w' Fx (β ++ β') (gens (killB M ids ++ M')) := ⟨fun _ h => h, fun k hk => hheap k (hr1 k hk), by simp [gens_length, hkl], fun q g' hq hg' => by
  rw [gens_length] at hq
  obtain ⟨b1, hb1, rfl⟩ := gens_get hg'
  rcases split hb1 with ⟨_, _, h1, h2⟩ | ⟨h, _⟩
  · exact ⟨b1.gen, gens_of h1, Nat.le_refl _, fun _ => hd_eq h2⟩
  · omega⟩
 have hG : gens (killB M ids ++ M') = gens (killB M ids) ++ gens M' := gens_append _ _
 refine hk v w' Fx (β ++ β') ⟨hh'.bel, Nat.le_trans hh.bs hsz, fun k hk => Nat.lt_of_lt_of_le (hh.fx k hk) hsz, by simp [hkl, hβl, hh'.len], fun q b1 hq => ?_, fun q1 q2 b1 b2 v1 v2 k hne h1 h2 hv1 hv2 hk1 hk2 => ?_⟩ ⟨m, hsz, fun k hk => .inl hk, fun q b1 v1 k hq hv hk => ?_⟩ ?_
 · rcases split hq with ⟨_, hm, h1, h2⟩ | ⟨_, h1, h2⟩
   · obtain ⟨v1, hv, hbk⟩ := hh.blk q b1 h1
     exact ⟨v1, h2.trans hv, hbk.mv m hsz (fun k hk => hheap k (hr2 q b1 v1 k h1 hv hk hm)) (fun k hk => (hbk.1 k hk).2.2)⟩
   · obtain ⟨v1, hv, hbk⟩ := hh'.blk _ b1 h1
     refine ⟨v1, h2.trans hv, hbk.clo (hms.get b1 (List.mem_of_getElem? h1)) rfl fun k hk => ⟨(hbk.1 k hk).1, fun hF => ?_⟩⟩
     rcases hhas h1 hv hk with h | ⟨id, b2, v', h3, h4, h5, h6⟩
     · have := hh.fx k hF; omega
     · obtain ⟨v2, k1, k2⟩ := hh.blk id b2 h4
       rw [h5] at k1
       obtain rfl := Option.some.inj k1
       exact (k2.1 k h6).2.2 hF
 · have cross : ∀ {p q' : Nat} {b b' : Blk} {v v' : Hd} {k : Nat}, M'[p]? = some (some b') → β'[p]? = some v → v.has k → q' ∉ ids → M[q']? = some (some b) → β[q']? = some v' → v'.has k → False := by
    intro p q' b b' v v' k hp hv hk hn hM hv' hk'
    rcases hhas hp hv hk with h | ⟨id, b2, v2, h3, h4, h5, h6⟩
    · obtain ⟨v3, k1, k2⟩ := hh.blk q' b hM
      rw [hv'] at k1
      obtain rfl := Option.some.inj k1
      have := (k2.1 k hk').2.1
      omega
    · exact hh.inj q' id b b2 v' v2 k (fun e => hn (by rw [e]; exact h3)) hM h4 hv' h5 hk' h6
   rcases split h1 with ⟨_, m1, c1, e1⟩ | ⟨l1, c1, e1⟩ <;> rcases split h2 with ⟨_, m2, c2, e2⟩ | ⟨l2, c2, e2⟩
   · exact hh.inj q1 q2 b1 b2 v1 v2 k hne c1 c2 (e1 ▸ hv1) (e2 ▸ hv2) hk1 hk2
   · exact cross c2 (e2 ▸ hv2) hk2 m1 c1 (e1 ▸ hv1) hk1
   · exact cross c1 (e1 ▸ hv1) hk1 m2 c2 (e2 ▸ hv2) hk2
   · exact hh'.inj _ _ _ _ _ _ k (by omega) c1 c2 (e1 ▸ hv1) (e2 ▸ hv2) hk1 hk2
 · rcases split hq with ⟨_, hm, h1, h2⟩ | ⟨_, h1, h2⟩
   · exact .inr ⟨q, b1, v1, h1, h2.symm.trans hv, hk⟩
   · rcases hhas h1 (h2.symm.trans hv) hk with h | ⟨id, b2, v', h3, h4, h5, h6⟩
     · exact .inl h
     · exact .inr ⟨id, b2, v', h4, h5, h6⟩
 · rw [hG]
   exact (lfA_ok hr).1 _ _ _ _ _ _ _ hβl (by rw [gens_length, hkl]) ((lfA_ok (n := 0) hr).2 _ _ _ _ _ _ hrep)
def FinA (P : Program) (fn : Func) (R : AV → Mem → Prop) (e : Exit) (tm : List AV) (M : Mem) : Prop := (e = .normal ∨ e = .ret) ∧ ∃ r, ResA P fn tm M r ∧ R r M
theorem ACalls.body {f : FuncId} {fn : Func} {c : Code} {args : List AV} {Ms : Mem} {R : AV → Mem → Prop} (hf : P.funcs[f]? = some fn) (hb : fn.body = some c) (n : Nat) (hn : fn.ntmps = args.length + n)
 (h : ∀ E : Env, E.M = Ms → AW P c E (args ++ List.replicate n (.c undef)) Ms (FinA P fn R)) : ACalls P f args Ms R := ACalls.enter hf hb n hn h
theorem FinA.one {fn : Func} {R : AV → Mem → Prop} {rv : ResultVar} {x : AV} (hf : fn.results = #[rv]) (hx : RV P tm M rv x) (hR : R x M) : FinA P fn R .ret tm M := ⟨.inr rfl, x, ResA.one hf hx, hR⟩
theorem Fits.agg {n : Nat} {cs : List AV} (h : ∀ x ∈ cs, Fits n x) : Fits n (.agg cs) := fun w Fx β G β2 G2 u h1 h2 hr => by
 cases hr with
 | agg hl ho h3 => exact .agg hl ho (fun i x u hx hu => h x (List.mem_of_getElem? hx) _ _ _ _ _ _ _ h1 h2 (h3 i x u hx hu))
theorem Fits.dp {n : Nat} {x : AV} : Fits n (.dp x) := fun w Fx β G β2 G2 u h1 h2 hr => by cases hr
theorem fits_dcl {n : Nat} {b : Blk} (h : DCl b.es) : FitsM n [some b] := fun b' hb r hr x hx => by
 simp at hb
 subst hb
 have := h r hr x hx
 cases x with
 | c v => exact Fits.c n v
 | dp d => exact Fits.dp
 | _ => cases this
end
end Go.Proofs.YtpffahmmklpifaaGreat.Abs
