/- Trees taken in, in the forms that walks meet: into the last element of a row, into an element that was just stored. -/
import Derived.Test.YtpffahmmklpifaaGreatAbsTH
namespace Go.Proofs.YtpffahmmklpifaaGreat.Abs
open Go.RowKit
set_option linter.unusedVariables false
set_option linter.unusedSimpArgs false

theorem setg {α : Type} {A : List α} {i : Nat} {r : α} (h : i < A.length) : (A.set i r)[i]? = some r := by simp [h]
theorem nodp_b {es : List (List AV)} (h : es.all (fun r => r.all nodp) = true) : ∀ r ∈ es, ∀ x ∈ r, nodp x = true := fun r hr x hx => List.all_eq_true.1 (List.all_eq_true.1 h r hr) x hx
theorem nodp_map {α : Type} {en : α → List AV} (h : ∀ a, (en a).all nodp = true) {l : List α} : ∀ r ∈ l.map en, ∀ x ∈ r, nodp x = true := fun r hr x hx => by
 obtain ⟨a, _, rfl⟩ := List.mem_map.1 hr
 exact List.all_eq_true.1 (h a) x hx
theorem all_nil {α : Type} {p : α → Prop} : ∀ x ∈ ([] : List α), p x := fun x h => by simp at h
theorem all_cons {α : Type} {p : α → Prop} {a : α} {l : List α} (h : p a) (hl : ∀ x ∈ l, p x) : ∀ x ∈ a :: l, p x := fun x hx => by
 rcases List.mem_cons.1 hx with rfl | hx
 · exact h
 · exact hl x hx
theorem und_nil : undpR [] = [] := rfl
theorem und_I {l : List Int} {f : Int → Value} : undpR (l.map fun n => [.c (f n)]) = l.map fun n => [.c (f n)] := by simp only [undpR, List.map_map]; rfl
section
variable {P : Program} {E : Env} {tm : List AV} {M : Mem} {o : Oper} {w w0 : World} {Fx : Nat → Prop} {β : List Hd} {base : Nat} {G : List (Option Nat)}
theorem Gh.absorb' {q id i j g : Nat} {ty : TypeId} {sz gen : Nat} {box : Bool} {es es' es2 : List (List AV)} {b : Blk} {r : List AV} (ho : M[q]? = some (some ⟨ty, sz, gen, box, es⟩)) (hM : M[id]? = some (some b)) (hne : Nat.beq q id = false) (hr : es[i]? = some r) (hc : r[j]? = some (.own id g)) (hg : b.gen = g)
 (hb : b.box = false) (hd : DCl b.es) (he : undpR b.es = es') (h2 : es.set i (r.set j (.dp (.ro b.sz es'))) = es2) : Gh M ((M.set q (some ⟨ty, sz, gen, box, es2⟩)).set id none) := by
 subst he h2
 exact Gh.absorb ho hM hne hr hc hg hb hd
theorem Gh.absorbA {q id j g : Nat} {ty : TypeId} {sz gen : Nat} {box : Bool} {A es' : List (List AV)} {b : Blk} {r : List AV} (ho : M[q]? = some (some ⟨ty, sz, gen, box, A ++ [r]⟩)) (hM : M[id]? = some (some b)) (hne : Nat.beq q id = false) (hc : r[j]? = some (.own id g)) (hg : b.gen = g)
 (hb : b.box = false) (hd : DCl b.es) (he : undpR b.es = es') : Gh M ((M.set q (some ⟨ty, sz, gen, box, A ++ [r.set j (.dp (.ro b.sz es'))]⟩)).set id none) :=
 Gh.absorb' (i := A.length) ho hM hne (by simp) hc hg hb hd he (by simp)
theorem Gh.absorbS {q id i j g : Nat} {ty : TypeId} {sz gen : Nat} {box : Bool} {A es' : List (List AV)} {b : Blk} {r : List AV} (ho : M[q]? = some (some ⟨ty, sz, gen, box, A.set i r⟩)) (hi : i < A.length) (hM : M[id]? = some (some b)) (hne : Nat.beq q id = false) (hc : r[j]? = some (.own id g)) (hg : b.gen = g)
 (hb : b.box = false) (hd : DCl b.es) (he : undpR b.es = es') : Gh M ((M.set q (some ⟨ty, sz, gen, box, A.set i (r.set j (.dp (.ro b.sz es')))⟩)).set id none) :=
 Gh.absorb' (i := i) ho hM hne (by simp [hi]) hc hg hb hd he (by simp)
theorem POp.stoS {x y : Operand} {id g sz i j n gen : Nat} {ty : TypeId} {box bb : Bool} {A : List (List AV)} {t : TypeId} {r cs : List AV} {z : AV} (ho : o.op = .store t x y) (hx : evA tm x = some (.ref id g sz i j)) (hM : M[id]? = some (some ⟨ty, sz, gen, box, A.set i r⟩)) (hg : gen = g) (hi : i < A.length)
 (hy : evA tm y = some z) (hcs : cellsA z = some cs) (hl : ldk P t = some (bb, n)) (hn : n = cs.length) (hj : j + cs.length ≤ r.length) (hds : o.dst = none) : POp P o E tm M (.c undef) (M.set id (some ⟨ty, sz, gen, box, A.set i (splice r j cs)⟩)) := by
 obtain ⟨d, _, _, h3⟩ := ldk_inv hl
 have h := POp.store (P := P) (E := E) (b := ⟨ty, sz, gen, box, A.set i r⟩) ho hx hM hg rfl (r := r) (by simp [hi]) hy hcs (by rw [h3, hn]) hj hds
 simpa using h
theorem GhE.exposeS {q i j sz2 : Nat} {ty : TypeId} {sz gen : Nat} {box : Bool} {A es es2 : List (List AV)} {r : List AV} (ho : M[q]? = some (some ⟨ty, sz, gen, box, A.set i r⟩)) (hi : i < A.length) (hc : r[j]? = some (.dp (.ro sz2 es))) (he : dpR es = es2) :
 GhE M (fun ty2 => M.set q (some ⟨ty, sz, gen, box, A.set i (r.set j (.own M.length 0))⟩) ++ [some ⟨ty2, sz2, 0, false, es2⟩]) := by
 subst he
 have h := GhE.expose (i := i) (r := r) ho (by simp [hi]) hc
 simpa using h
theorem run_eq_nil (P : Program) (w : World) (d : Nat) (t e : TypeId) (a : Option Addr) (n c : Nat) (h : P.underlying t = some (.slice e)) : (Op.equalIn (d + 1) t (.slice a n c) (.slice none 0 0)).run P w = .ok a.isNone w := by
 cases a <;> simp [Op.equalIn, run_underlying h]
theorem OpA.isnil {N : NPost} {t t' e : TypeId} {n : Nat} {x : Operand} {sz : Nat} {es : List (List AV)} (ho : o.op = .binOp .eql t x (.const (.slice none 0 0)) t') (ht : slk P t = some (e, n)) (hx : evA tm x = some (.ro sz es)) (hN : ∀ b : Bool, (b = true → es = []) → N (dput tm o.dst (.c (.bool b))) M) : OpA P o E tm M N := by
 intro a w K Q hs hk
 obtain ⟨hd, Fx, β, hh, hout, hsl⟩ := id hs
 have hrep := hsl.ev hx
 generalize hu : a.eval x = u at hrep
 cases hrep with
 | @ro _ _ ad cap f hc hm hA hl h1 h =>
  have hrun : (execOp a.eval o).run P w = .ok (.value (.bool ad.isNone)) w := by
   have h3 : a.eval (.const (.slice none 0 0)) = .slice none 0 0 := rfl
   have h4 := run_eq_nil P w 9999 t e ad es.length cap (slk_inv ht).1
   have h5 : (Op.equal t (.slice ad es.length cap) (.slice none 0 0)).run P w = .ok ad.isNone w := h4
   simp [execOp, ho, hu, h3, eqGuard, binOp, h5]
  unfold Oper.wp
  rw [hrun, Oper.upon_value]
  refine hk _ _ _ _ (hN ad.isNone fun hb => ?_) (hs.put o.dst fun _ _ _ _ => .c _)
  cases ad with
  | some ad => cases hb
  | none =>
   rcases Nat.eq_zero_or_pos es.length with h0 | h0
   · exact List.length_eq_zero_iff.1 h0
   · obtain ⟨ad, h2, _⟩ := hA h0
     cases h2
theorem AL.isnil {ops : Array Oper} {rest : List Oper} {N : NPost} {t t' e : TypeId} {n : Nat} {x : Operand} {sz : Nat} {es : List (List AV)} (hg : o.guard = none) (ho : o.op = .binOp .eql t x (.const (.slice none 0 0)) t') (ht : slk P t = some (e, n)) (hx : evA tm x = some (.ro sz es))
 (hN : ∀ b : Bool, (b = true → es = []) → AL P ops rest E (dput tm o.dst (.c (.bool b))) M N) : AL P ops (o :: rest) E tm M N := AL.step hg (OpA.isnil ho ht hx hN)
theorem AW.adoptRet {t : Nat} {x x' : AV} {Qx : XPost} (ty : TypeId) (sz : Nat) (ht : tm[t]? = some x) (hx : Adopt M.length x x') (h : AW P .ret E (tm.set t x') (M ++ [some ⟨ty, sz, 0, false, []⟩]) Qx) : AW P .ret E tm M Qx := AW.adopt ty sz ht hx h
theorem VCalls.frz {f : FuncId} {args : List AV} {r0 r1 : AV} {Ms : Mem} (h : VCalls P f args (fun r M => r = r0 ∧ M = Ms)) (hv : VwL Ms [r0] [r1]) : VCalls P f args (fun r M => r = r1 ∧ M = []) := by
 intro E vals hM hh hsl
 refine (h E vals hM hh hsl).mono ?_
 rintro e w' ⟨v, r, M', Fx, β, rfl, ⟨rfl, rfl⟩, hh', ho, hrep⟩
 have hview := hv.get.2 0 r r1 rfl rfl
 have hE0 : gens E.M = [] := by rw [hM]; rfl
 have hmem : ∀ (id : Nat) (b : Blk) (v : Hd) k, M'[id]? = some (some b) → β[id]? = some v → v.has k → E.win.heap.size ≤ k := fun id b v k h1 h2 h3 => by
  rcases ho.own id b v k h1 h2 h3 with h | ⟨id', b', v', h4, _⟩
  · exact h
  · rw [hM] at h4; simp at h4
 refine ⟨v, r1, [], fun k => Fx k ∨ ∃ (id : Nat) (b : Blk) (v : Hd), M'[id]? = some (some b) ∧ β[id]? = some v ∧ v.has k, [], rfl, ⟨rfl, rfl⟩, ⟨hh'.bel, hh'.bs, fun k hk => ?_, rfl, fun id b h => by simp at h, fun i1 i2 b1 b2 v1 v2 k _ h => by simp at h⟩,
  ⟨⟨fun k hk => .inl (ho.mv.fx k hk), ho.mv.heap, by rw [hE0]; exact Nat.zero_le _, fun id g' hid => by rw [hE0] at hid; simp at hid⟩, ho.size, fun k hk => ?_, fun id b v k h => by simp at h⟩, ?_⟩
 · rcases hk with hk | ⟨id, b, v, h1, h2, h3⟩
   · exact hh'.fx k hk
   · obtain ⟨v2, h4, h5⟩ := hh'.blk id b h1
     rw [h2] at h4
     obtain rfl := Option.some.inj h4
     exact (h5.1 k h3).2.1
 · rcases hk with hk | ⟨id, b, v, h1, h2, h3⟩
   · exact ho.lim k hk
   · exact .inr (.inl (hmem id b v k h1 h2 h3))
 · exact hview _ _ _ _ _ _ _ hh' (fun k h => .inl h) (fun id b v k h1 h2 h3 => .inr ⟨id, b, v, h1, h2, h3⟩) hrep
theorem RepD.nil {S : Nat → Prop} {sz : Nat} : RepD w S (.ro sz []) (.slice none 0 0) :=
 .ro (ty := 0) (xs := []) (fun _ _ _ => False) (fun _ _ => undef) ⟨by simp, .inl ⟨rfl, rfl⟩⟩ (fun k h => by simp [blockOf] at h) (fun _ _ _ h => h.elim) (fun _ _ _ _ _ h => h.elim) (fun i r h => by simp at h) (fun i r j x h => by simp at h) (fun i r j x h => by simp at h)
theorem Gh.nil {q i j sz2 : Nat} {ty : TypeId} {sz gen : Nat} {box : Bool} {es es2 : List (List AV)} {r : List AV} (ho : M[q]? = some (some ⟨ty, sz, gen, box, es⟩)) (hr : es[i]? = some r) (hc : r[j]? = some (.c (.slice none 0 0))) (h2 : es.set i (r.set j (.dp (.ro sz2 []))) = es2) :
 Gh M (M.set q (some ⟨ty, sz, gen, box, es2⟩)) := by
 subst h2
 intro base w0 w Fx β hh
 obtain ⟨vo, hvo, hoko⟩ := hh.blk q _ ho
 have hql : q < M.length := (List.getElem?_eq_some_iff.1 ho).1
 have hG : gens (M.set q (some ⟨ty, sz, gen, box, es.set i (r.set j (.dp (.ro sz2 [])))⟩)) = gens M := gens_set ho rfl
 have up : ∀ {p : Nat} {b1 : Blk}, (M.set q (some ⟨ty, sz, gen, box, es.set i (r.set j (.dp (.ro sz2 [])))⟩))[p]? = some (some b1) → (p = q ∧ b1 = ⟨ty, sz, gen, box, es.set i (r.set j (.dp (.ro sz2 [])))⟩) ∨ (p ≠ q ∧ M[p]? = some (some b1)) := fun {p b1} h => by
  rcases set_get h with ⟨e, e2, _⟩ | h
  · exact .inl ⟨e, Option.some.inj e2⟩
  · exact .inr h
 have old : ∀ {p : Nat} {b1 : Blk}, (M.set q (some ⟨ty, sz, gen, box, es.set i (r.set j (.dp (.ro sz2 [])))⟩))[p]? = some (some b1) → ∃ b0, M[p]? = some (some b0) := fun h => by
  rcases up h with ⟨rfl, _⟩ | ⟨_, h⟩
  · exact ⟨_, ho⟩
  · exact ⟨_, h⟩
 refine ⟨β, ⟨hh.bel, hh.bs, hh.fx, by simp [hh.len], fun p b1 h1 => ?_, fun p1 p2 b1 b2 v1 v2 k hne2 h1 h2 hv1 hv2 hk1 hk2 => ?_⟩, by rw [hG]; exact Mv.refl, fun p b1 v k h1 hv hk => ?_⟩
 · rw [hG]
   rcases up h1 with ⟨rfl, rfl⟩ | ⟨n2, h2⟩
   · obtain ⟨xs, hcd, mk⟩ := hoko.open
     refine ⟨vo, hvo, mk _ vo _ _ rfl rfl rfl rfl (by simp) hoko.1 ?_⟩
     have := hcd.absorb (S := fun _ => False) (d := .ro sz2 []) hr hc (fun k hk => hk.elim) (fun u hu => by
      obtain ⟨u', hu', _, hR⟩ := (hcd.cel i r hr).2 j _ hc
      rw [hu] at hu'
      obtain rfl := Option.some.inj hu'
      obtain rfl := (hR rfl).c_inv
      exact RepD.nil)
     obtain ⟨c1, c2, pc, c3, c4, c5⟩ := this
     exact ⟨c1, c2, pc, fun i' j' k hp => ⟨(c3 i' j' k hp).1.elim id False.elim, (c3 i' j' k hp).2⟩, c4, c5⟩
   · exact hh.blk p b1 h2
 · obtain ⟨c1, a1⟩ := old h1
   obtain ⟨c2, a2⟩ := old h2
   exact hh.inj p1 p2 c1 c2 v1 v2 k hne2 a1 a2 hv1 hv2 hk1 hk2
 · obtain ⟨c1, a1⟩ := old h1
   exact ⟨p, c1, v, a1, hv, hk⟩
theorem View.nil {sz : Nat} : View M (.c (.slice none 0 0)) (.ro sz []) := fun base w0 w Fx β Fc u hh hF hown hr => by
 obtain rfl := hr.c_inv
 exact RepD.nil.rep (S := fun _ => False) (fun _ h => h.elim)
end
end Go.Proofs.YtpffahmmklpifaaGreat.Abs
