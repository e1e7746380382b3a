/- Part C of the walk over abstract states and of the functions' walks. -/
import Derived.Test.YtpffahmmklpifaaGreatWkStep
import Derived.Test.YtpffahmmklpifaaGreatAbsSU
import Derived.Test.YtpffahmmklpifaaGreatAbsTD
import Derived.Test.YtpffahmmklpifaaGreatBnB
import Derived.Test.YtpffahmmklpifaaGreatShelf
import Derived.WalkKit
import Derived.Deep.LoopGhost
import Derived.Deep.Draws
import Derived.Shelf.RegionOpenPlain
import Derived.Shelf.SlSortCmp.NoneTotal
import Derived.Test.YtpffahmmklpifaaGreatWkMark
import Derived.Lib.AppendZerosOnto
import Derived.Lib.Walk
import Derived.Lib.SliceRun
/- A row's trees told as lists that stay; parts of rows lent and copied. -/
namespace Go.Proofs.YtpffahmmklpifaaGreat.Abs
open Go.Proofs Go.RowKit
set_option linter.unusedVariables false
set_option linter.unusedSimpArgs false
set_option maxRecDepth 100000
set_option maxHeartbeats 2000000
section
variable {P : Program} {E : Env} {tm : List AV} {M : Mem} {o : Oper} {w w0 : World} {Fx : Nat → Prop} {β : List Hd} {base : Nat}
theorem HS.ice {id : Nat} {b : Blk} {es2 : List (List AV)} (hh : HS base w0 w Fx β M) (hM : M[id]? = some (some b)) (hb : b.box = false) (hc : DCl b.es) (he : undpR b.es = es2) :
    ∃ (Fx' : Nat → Prop) (β' : List Hd), HS base w0 w Fx' β' (M.set id (some { b with es := es2 })) ∧ Mv w Fx β (gens M) w Fx' β' (gens (M.set id (some { b with es := es2 }))) ∧
      (∀ k, Fx' k → Fx k ∨ ∃ v : Hd, β[id]? = some v ∧ v.has k) ∧ (∀ (i : Nat) (b1 : Blk) (v1 : Hd) (k : Nat), (M.set id (some { b with es := es2 }))[i]? = some (some b1) → β'[i]? = some v1 → v1.has k → ∃ (b0 : Blk) (v0 : Hd), M[i]? = some (some b0) ∧ β[i]? = some v0 ∧ v0.has k) := by
  subst he
  obtain ⟨u, hv, hok⟩ := hh.blk id b hM
  have hok2 := hok.2
  rw [hb] at hok2
  obtain ⟨xs, ho, c1, c2, pc, c3, c4, c5⟩ := hok2
  have hil : id < β.length := (List.getElem?_eq_some_iff.1 hv).1
  have hG : gens (M.set id (some { b with es := undpR b.es })) = gens M := gens_set hM rfl
  have old : ∀ {i : Nat} {b1 : Blk}, (M.set id (some { b with es := undpR b.es }))[i]? = some (some b1) → (i = id ∧ b1 = { b with es := undpR b.es }) ∨ (i ≠ id ∧ M[i]? = some (some b1)) := fun {i b1} h => by
    rcases set_get h with ⟨e, e2, _⟩ | h
    · exact .inl ⟨e, Option.some.inj e2⟩
    · exact .inr h
  have hβ : ∀ {i : Nat}, i ≠ id → (β.set id (Hd.flat u.v))[i]? = β[i]? := fun {i} h => List.getElem?_set_ne (fun e => h e.symm)
  have hβi : (β.set id (Hd.flat u.v))[id]? = some (Hd.flat u.v) := by rw [List.getElem?_set_self hil]
  have m : Mv w Fx β (gens M) w (fun k => Fx k ∨ ∃ i j, pc i j k) (β.set id (Hd.flat u.v)) (gens (M.set id (some { b with es := undpR b.es }))) := by
    rw [hG]
    refine ⟨fun k h => .inl h, fun k h => rfl, Nat.le_refl _, fun i g' hi hg' => ⟨g', hg', Nat.le_refl _, fun _ => ?_⟩⟩
    by_cases e : i = id
    · subst e; rw [hβi, hv]; rfl
    · rw [hβ e]
  have hpc : ∀ i j k, pc i j k → u.has k := fun i j k h => .inr (c3 i j k h).1
  have lift : ∀ {i : Nat} {v1 : Hd} {k : Nat}, (β.set id (Hd.flat u.v))[i]? = some v1 → v1.has k → ∃ v0, β[i]? = some v0 ∧ v0.has k := fun {i v1 k} h hk => by
    by_cases e : i = id
    · subst e
      rw [hβi] at h
      obtain rfl := Option.some.inj h
      exact ⟨u, hv, .inl (Hd.flat_has.1 hk)⟩
    · rw [hβ e] at h
      exact ⟨v1, h, hk⟩
  refine ⟨_, _, ⟨hh.bel, hh.bs, fun k hk => ?_, by simp [hh.len], fun i b1 h1 => ?_, fun i1 i2 b1 b2 v1 v2 k hne h1 h2 hv1 hv2 hk1 hk2 => ?_⟩, m, fun k hk => hk.imp (fun x => x) fun ⟨i, j, hp⟩ => ⟨u, hv, hpc i j k hp⟩, fun i b1 v1 k h1 hv1 hk => ?_⟩
  · rcases hk with hk | ⟨i, j, hp⟩
    · exact hh.fx k hk
    · exact (hok.1 k (hpc i j k hp)).2.1
  · rw [hG]
    rcases old h1 with ⟨rfl, rfl⟩ | ⟨hne, h1⟩
    · refine ⟨_, hβi, fun k hk => ?_, ?_⟩
      · have hk := Hd.flat_has.1 hk
        refine ⟨(hok.1 k (.inl hk)).1, (hok.1 k (.inl hk)).2.1, fun hF => ?_⟩
        rcases hF with hF | ⟨p, q, hp⟩
        · exact (hok.1 k (.inl hk)).2.2 hF
        · exact (c3 p q k hp).2 hk
      · show if b.box = true then _ else _
        rw [if_neg (by rw [hb]; decide)]
        refine ⟨xs, by rw [undpR_length]; exact ho, by rw [undpR_length]; exact c1, fun q r hr => ?_, fun _ _ _ => False, fun _ _ _ h => h.elim, fun _ _ _ _ _ h => h.elim, fun q r j d hr hx => ?_⟩
        · obtain ⟨r0, hr0, rfl⟩ := undpR_get hr
          refine ⟨by rw [List.length_map]; exact (c2 q r0 hr0).1, fun j x hx => ?_⟩
          obtain ⟨x0, hx0, rfl⟩ := map_get_of hx
          obtain ⟨y, hy, h1y, hR⟩ := (c2 q r0 hr0).2 j x0 hx0
          refine ⟨y, hy, h1y, fun _ => ?_⟩
          have hcd := hc r0 (List.mem_of_getElem? hr0) x0 (List.mem_of_getElem? hx0)
          cases x0 with
          | c z => exact (hR rfl).mv (hG ▸ m)
          | dp d =>
            obtain ⟨y', hy', hRD⟩ := c5 q r0 j d hr0 hx0
            rw [hy] at hy'
            obtain rfl := Option.some.inj hy'
            exact (hRD.strip.rep (Fc := fun k => Fx k ∨ ∃ i j, pc i j k) fun k hk => .inr ⟨q, j, hk⟩).of_clo
          | _ => simp [isCD] at hcd
        · obtain ⟨r0, hr0, rfl⟩ := undpR_get hr
          obtain ⟨x0, hx0, e⟩ := map_get_of hx
          have hcd := hc r0 (List.mem_of_getElem? hr0) x0 (List.mem_of_getElem? hx0)
          cases x0 with
          | c z => simp [undp] at e
          | dp d =>
            obtain ⟨y', hy', hRD⟩ := c5 q r0 j d hr0 hx0
            have h2 := hRD.strip
            rw [← e] at h2
            cases h2
          | _ => simp [isCD] at hcd
    · obtain ⟨v1, hv1, hok1⟩ := hh.blk i b1 h1
      refine ⟨v1, (hβ hne).trans hv1, hok1.mv (hG ▸ m) (Nat.le_refl _) (fun k hk => rfl) (fun k hk hF => ?_)⟩
      rcases hF with hF | ⟨p, q, hp⟩
      · exact (hok1.1 k hk).2.2 hF
      · exact hh.inj i id b1 b v1 u k hne h1 hM hv1 hv hk (hpc p q k hp)
  · obtain ⟨v1', g1, k1⟩ := lift hv1 hk1
    obtain ⟨v2', g2, k2⟩ := lift hv2 hk2
    have m1 : ∃ c1, M[i1]? = some (some c1) := by rcases old h1 with ⟨rfl, _⟩ | ⟨_, h⟩ <;> first | exact ⟨_, hM⟩ | exact ⟨_, h⟩
    have m2 : ∃ c2, M[i2]? = some (some c2) := by rcases old h2 with ⟨rfl, _⟩ | ⟨_, h⟩ <;> first | exact ⟨_, hM⟩ | exact ⟨_, h⟩
    obtain ⟨d1, m1⟩ := m1
    obtain ⟨d2, m2⟩ := m2
    exact hh.inj i1 i2 d1 d2 v1' v2' k hne m1 m2 g1 g2 k1 k2
  · obtain ⟨v0, g, k0⟩ := lift hv1 hk
    rcases old h1 with ⟨rfl, _⟩ | ⟨_, h⟩
    · exact ⟨b, v0, hM, g, k0⟩
    · exact ⟨b1, v0, h, g, k0⟩
theorem Sim.ice {a : Act} {id : Nat} {b : Blk} {es2 : List (List AV)} (h : Sim E tm M a w) (hM : M[id]? = some (some b)) (hb : b.box = false) (hc : DCl b.es) (he : undpR b.es = es2) : Sim E tm (M.set id (some { b with es := es2 })) a w := by
  obtain ⟨hd, Fx, β, hh, ho, hsl⟩ := h
  obtain ⟨Fx', β', hh', m, lim, own⟩ := hh.ice hM hb hc he
  refine ⟨hd, Fx', β', hh', ⟨ho.mv.trans m, ho.size, fun k hk => ?_, fun i b1 v1 k g1 g2 g3 => ?_⟩, hsl.1, fun t x u hx hu => (hsl.2 t x u hx hu).mv m⟩
  · rcases lim k hk with hk | ⟨v, hv, hk⟩
    · exact ho.lim k hk
    · exact .inr (ho.own id b v k hM hv hk)
  · obtain ⟨b0, v0, q1, q2, q3⟩ := own i b1 v1 k g1 g2 g3
    exact ho.own i b0 v0 k q1 q2 q3
theorem AW.ice {id : Nat} {b : Blk} {es2 : List (List AV)} {c : Code} {Qx : XPost} (hM : M[id]? = some (some b)) (hb : b.box = false) (hc : DCl b.es) (he : undpR b.es = es2) (h : AW P c E tm (M.set id (some { b with es := es2 })) Qx) : AW P c E tm M Qx :=
  fun a w Q hs k => h a w Q (hs.ice hM hb hc he) k
theorem AL.ice {ops : Array Oper} {rest : List Oper} {N : NPost} {id : Nat} {b : Blk} {es2 : List (List AV)} (hM : M[id]? = some (some b)) (hb : b.box = false) (hc : DCl b.es) (he : undpR b.es = es2) (h : AL P ops rest E tm (M.set id (some { b with es := es2 })) N) : AL P ops rest E tm M N :=
  fun a w Q hs k => h a w Q (hs.ice hM hb hc he) k
theorem View.subC {id g sz i m : Nat} {b : Blk} {es' : List (List AV)} (hM : M[id]? = some (some b)) (hg : b.gen = g) (hb : b.box = false) (hsz : b.sz = sz) (hc : ∀ r ∈ b.es, ∀ x ∈ r, Clo x) (him : i + m ≤ b.es.length) (he : (b.es.drop i).take m = es') : View M (.sub id g sz i m) (.ro sz es') := he ▸ fun base w0 w Fx β Fc u hh hF hown hr => by
  cases hr with
  | sub ho1 hi hg1 h =>
    obtain ⟨v, ad, cap, hvv, rfl, hmc, hm, ha⟩ := h (by rw [← hg]; exact gens_of hM)
    obtain ⟨v', hv', hok⟩ := hh.blk id b hM
    rw [hvv] at hv'
    obtain rfl := Option.some.inj hv'
    have hR := hh.rowRep (Fx' := Fc) hM hb hc hF hvv fun k hk => hown id b v k hM hvv hk
    have hlen : ((b.es.drop i).take m).length = m := by rw [List.length_take, List.length_drop]; omega
    subst hsz
    obtain ⟨_, h2⟩ := hok
    rw [hb] at h2
    obtain ⟨xs, hown', _⟩ := h2
    have get : ∀ {q : Nat} {r : List AV}, ((b.es.drop i).take m)[q]? = some r → q < m ∧ b.es[q + i]? = some r := fun {q r} hq => by
      have hlt : q < m := by rw [← hlen]; exact (List.getElem?_eq_some_iff.1 hq).1
      refine ⟨hlt, ?_⟩
      rw [List.getElem?_take, if_pos hlt, List.getElem?_drop] at hq
      rw [Nat.add_comm q i]
      exact hq
    generalize hvd : v.v = vv at hR ha hown'
    cases hR with
    | @ro _ _ A cap' f hc' hm' hA hl h1c h =>
      have : Rep w Fc [] [] (.ro b.sz ((b.es.drop i).take m)) (.slice ad ((b.es.drop i).take m).length cap) := by
        refine .ro (fun q j => f (q + i) j) (by rw [hlen]; exact hmc) (by rw [hlen]; exact hm) (fun hp => ?_) (fun q r hq => hl (q + i) r (get hq).2) (fun q j => h1c _ _) (fun q r j z hq hz => h (q + i) r j z (get hq).2 hz)
        rw [hlen] at hp
        obtain ⟨bk, hbk, rfl⟩ := ha hp
        obtain ⟨ad0, e0, hF0, hcell⟩ := hA (by omega)
        rcases hown'.2 with ⟨e, _⟩ | ⟨g', cap2, cur, e, _⟩
        · simp only [Value.slice.injEq] at e
          rw [e0] at e
          cases e.1
        · simp only [Value.slice.injEq] at e
          rw [e0] at e
          cases e.1
          rw [e0] at hbk
          simp [blockOf] at hbk
          subst hbk
          refine ⟨_, rfl, hF0, fun q r j hq hj => ?_⟩
          have := hcell (q + i) r j (get hq).2 hj
          rw [Addr.add_mid, Nat.zero_add] at this
          rw [Addr.add_mid, show i * b.sz + (q * b.sz + j) = (q + i) * b.sz + j by rw [Nat.add_mul]; omega]
          exact this
      rwa [hlen] at this
theorem DLR.appendSub {ops : Array Oper} {rest : List Oper} {ch : List (Option Nat)} {Y : Mem} {N : Mem → List AV → Prop} {s x : Operand} {t e : TypeId} {sz bytes i id g id2 g2 i2 m2 : Nat} {zs : List Value} {b b2 : Blk} {es : List (List AV)} (hg0 : o.guard = none) (ho : o.op = .call { callee := .builtin .append, args := #[s, x], argTypes := #[t, t] }) (hr : rwk P t = some (e, sz, bytes, zs))
    (hs : evA (msk (o.looksAt ops) tm) s = some (.own id g)) (hY : Y[i]? = some (some b)) (hid : id = M.length + i) (hg : b.gen = g) (hb : b.box = false) (hty : b.ty = e) (hbs : b.sz = sz) (hx : evA (msk (o.looksAt ops) tm) x = some (.sub id2 g2 sz i2 m2))
    (hM2 : M[id2]? = some (some b2)) (hg2 : b2.gen = g2) (hb2 : b2.box = false) (hs2 : b2.sz = sz) (him : i2 + m2 ≤ b2.es.length) (hnd : ∀ r ∈ b2.es, ∀ x ∈ r, rdb x = true) (hes : ((b2.es.drop i2).take m2).map (·.map Abs.cpy) = es)
    (hlen : (b.es.length + es.length) * bytes ≤ 140737488355328) (hm : b.es.length + es.length ≤ maxLen) (hN : DLR P ops E M rest ch (dput tm o.dst (.own id (g + 1))) (Y.set i (some { b with es := b.es ++ es, gen := b.gen + 1 })) N) : DLR P ops E M (o :: rest) (some i :: ch) tm Y N := by
  subst hid hes
  exact ⟨hg0, _, _, _, hY, fun Y' hY' => set_y (M := M) (Y' := Y') ▸ POp.append ho hr hs (at_y hY') hg hb hty hbs hx (SrcA.sub (by rw [List.getElem?_append_left (List.getElem?_eq_some_iff.1 hM2).1]; exact hM2) hg2 hb2 hs2 him hnd) hlen hm, hN⟩
theorem SrcA.subE {sz id g i m : Nat} {b : Blk} {es : List (List AV)} (hM : M[id]? = some (some b)) (hg : b.gen = g) (hb : b.box = false) (hs : b.sz = sz) (him : i + m ≤ b.es.length) (hnd : ∀ r ∈ b.es, ∀ x ∈ r, rdb x = true) (hes : ((b.es.drop i).take m).map (·.map Abs.cpy) = es) : SrcA M sz (.sub id g sz i m) es := hes ▸ SrcA.sub hM hg hb hs him hnd
end

end Go.Proofs.YtpffahmmklpifaaGreat.Abs

/- All features shrunk: plain. -/
namespace Go.Proofs.YtpffahmmklpifaaGreat.Abs
open Go.Proofs Go.RowKit
set_option linter.unusedVariables false
set_option linter.unusedSimpArgs false
set_option maxRecDepth 100000
set_option maxHeartbeats 2000000
attribute [local irreducible] OpA AL AW DL DLM DLR DLS QOp POp VCalls VCallsI
theorem shr_ind {os : List TFeature} {least : Int} {Q : TFeature → Prop} (h : ∀ x i, Q x → Q (dfF x i)) : ∀ (n : Nat) (x : TFeature), x.points.length ≤ n → Q x → Q (shr os least x)
  | n, x, hn, hx => by
    rw [shr]
    split
    · rename_i hc
      cases n with
      | zero => omega
      | succ n => exact shr_ind h n _ (by omega) (h _ _ hx)
    · exact hx
theorem shr_gd {x : TFeature} (os : List TFeature) (least : Int) (h : x.gd) : (shr os least x).gd := shr_ind (Q := fun x => x.gd) (fun _ i h => dfF_gd h i) _ x (Nat.le_refl _) h
theorem shr_feat {x : TFeature} (os : List TFeature) (least : Int) (h : isFeat x = true) : isFeat (shr os least x) = true := shr_ind (Q := fun x => isFeat x = true) (fun _ i h => dfF_feat h i) _ x (Nat.le_refl _) h
theorem shr_same (x : TFeature) (os : List TFeature) (least : Int) : (shr os least x).id = x.id ∧ (shr os least x).kind = x.kind ∧ (shr os least x).rank = x.rank ∧ (shr os least x).name = x.name :=
  shr_ind (Q := fun y => y.id = x.id ∧ y.kind = x.kind ∧ y.rank = x.rank ∧ y.name = x.name) (fun y i h => by
    obtain ⟨a, b, c, d⟩ := dfF_same y i
    exact ⟨a.trans h.1, b.trans h.2.1, c.trans h.2.2.1, d.trans h.2.2.2⟩) _ x (Nat.le_refl _) ⟨rfl, rfl, rfl, rfl⟩
def oth (s : List TFeature) (i : Nat) : List TFeature := s.take i ++ s.drop (i + 1)
def skA (l : List TFeature) (least : Int) : Nat → List TFeature
  | 0 => l
  | i + 1 => match (skA l least i)[i]? with
    | some x => (skA l least i).set i (shr (oth (skA l least i) i) least x)
    | none => skA l least i
theorem skA_succ {l : List TFeature} {least : Int} {i : Nat} {x : TFeature} (hx : (skA l least i)[i]? = some x) : skA l least (i + 1) = (skA l least i).set i (shr (oth (skA l least i) i) least x) := by rw [skA, hx]
theorem skA_len (l : List TFeature) (least : Int) : ∀ i, (skA l least i).length = l.length
  | 0 => rfl
  | i + 1 => by
    rw [skA]
    split
    · rw [List.length_set]; exact skA_len l least i
    · exact skA_len l least i
theorem skA_all {l : List TFeature} {least : Int} {Q : TFeature → Prop} (h : ∀ x os, Q x → Q (shr os least x)) (h0 : ∀ x ∈ l, Q x) : ∀ i, ∀ x ∈ skA l least i, Q x
  | 0 => h0
  | i + 1 => fun x hx => by
    rw [skA] at hx
    split at hx
    · rename_i y hy
      rcases List.mem_or_eq_of_mem_set hx with hx | rfl
      · exact skA_all h h0 i x hx
      · exact h _ _ (skA_all h h0 i y (List.mem_of_getElem? hy))
    · exact skA_all h h0 i x hx
theorem skA_gd {l : List TFeature} (least : Int) (h : ∀ x ∈ l, x.gd) (i : Nat) : ∀ x ∈ skA l least i, x.gd := skA_all (fun _ os h => shr_gd os least h) h i
theorem skA_feat {l : List TFeature} (least : Int) (h : ∀ x ∈ l, isFeat x = true) (i : Nat) : ∀ x ∈ skA l least i, isFeat x = true := skA_all (Q := fun x => isFeat x = true) (fun _ os h => shr_feat os least h) h i
theorem skA_map {α : Type} (f : TFeature → α) (hf : ∀ x y : TFeature, y.id = x.id → y.kind = x.kind → y.rank = x.rank → y.name = x.name → f y = f x) (l : List TFeature) (least : Int) : ∀ i, (skA l least i).map f = l.map f
  | 0 => rfl
  | i + 1 => by
    rw [skA]
    split
    · rename_i y hy
      rw [List.map_set, ← skA_map f hf l least i]
      obtain ⟨a, b, c, d⟩ := shr_same y (oth (skA l least i) i) least
      rw [hf y _ a b c d]
      refine List.ext_getElem? fun j => ?_
      rw [List.getElem?_set]
      split
      · rename_i e
        subst e
        rw [List.getElem?_map, hy]
        have := (List.getElem?_eq_some_iff.1 hy).1
        rw [List.length_map, if_pos this]; rfl
      · rfl
    · exact skA_map f hf l least i
theorem skA_src {l : List TFeature} (least : Int) (h : isSource l = true) (i : Nat) : isSource (skA l least i) = true := by
  obtain ⟨h1, h2, h3⟩ := (src_iff l).1 h
  refine (src_iff _).2 ⟨by rw [skA_len]; exact h1, skA_feat least h2 i, ?_⟩
  have e := skA_map (·.id) (fun _ _ a _ _ _ => a) l least i
  have h4 : (l.map (·.id)).Pairwise (· < ·) := List.pairwise_map.2 h3
  rw [← e] at h4
  exact List.pairwise_map.1 h4
theorem oth_map (s : List TFeature) (i : Nat) : (s.take i).map TFeature.en ++ (s.drop (i + 1)).map TFeature.en = (oth s i).map TFeature.en := by rw [oth, List.map_append]
theorem oth_mem {s : List TFeature} {i : Nat} {x : TFeature} (h : x ∈ oth s i) : x ∈ s := by
  rw [oth, List.mem_append] at h
  exact h.elim List.mem_of_mem_take List.mem_of_mem_drop
theorem oth_len (s : List TFeature) (i : Nat) : (oth s i).length ≤ s.length := by rw [oth, List.length_append, List.length_take, List.length_drop]; omega
theorem skA_set {l : List TFeature} {least : Int} {i : Nat} {x : TFeature} (hx : (skA l least i)[i]? = some x) : (skA l least (i + 1)).map TFeature.en = ((skA l least i).map TFeature.en).set i (shr (oth (skA l least i) i) least x).en := by
  rw [skA_succ hx, List.map_set]
def shAll (l : List TFeature) (least : Int) : List TFeature := if isSource l = true then skA l least l.length else l
theorem shAll_t {l : List TFeature} {least : Int} (h : isSource l = true) : shAll l least = skA l least l.length := by rw [shAll, if_pos h]
theorem shAll_f {l : List TFeature} {least : Int} (h : isSource l = false) : shAll l least = l := by rw [shAll, if_neg (by rw [h]; decide)]
theorem shAll_src {l : List TFeature} (least : Int) (h : isSource l = true) : isSource (shAll l least) = true := by rw [shAll_t h]; exact skA_src least h _
theorem shAll_gd {l : List TFeature} (least : Int) (h : ∀ x ∈ l, x.gd) : ∀ x ∈ shAll l least, x.gd := by
  unfold shAll
  split
  · exact skA_gd least h _
  · exact h
theorem sub_cpy (s : List TFeature) (i m : Nat) : ((((s.map TFeature.en).drop i).take m).map (·.map Abs.cpy)) = ((s.drop i).take m).map TFeature.en := by
  rw [← List.map_drop, ← List.map_take, List.map_map]; rfl
theorem sub_cpy0 (s : List TFeature) (m : Nat) : ((((s.map TFeature.en).drop 0).take m).map (·.map Abs.cpy)) = (s.take m).map TFeature.en := sub_cpy s 0 m
theorem sub_cpyE (s : List TFeature) (i : Nat) : ((((s.map TFeature.en).drop i).take ((s.map TFeature.en).length - i)).map (·.map Abs.cpy)) = (s.drop i).map TFeature.en := by
  rw [sub_cpy, List.take_of_length_le]
  rw [List.length_map, List.length_drop]; omega
theorem sub_en0 (s : List TFeature) (m : Nat) : (((s.map TFeature.en).drop 0).take m) = (s.take m).map TFeature.en := by rw [List.drop_zero, List.map_take]
theorem sub_enE (s : List TFeature) (i : Nat) : (((s.map TFeature.en).drop i).take ((s.map TFeature.en).length - i)) = (s.drop i).map TFeature.en := by
  rw [List.map_drop, List.take_of_length_le]
  rw [List.length_drop]; exact Nat.le_refl _
theorem rdb_en {s : List TFeature} : ∀ r ∈ s.map TFeature.en, ∀ x ∈ r, rdb x = true := fun r hr x hx => by
  obtain ⟨y, _, rfl⟩ := List.mem_map.1 hr
  simp only [TFeature.en, List.mem_cons, List.not_mem_nil, or_false] at hx
  rcases hx with rfl | rfl | rfl | rfl | rfl <;> rfl

theorem ix_dn {k : Nat} (h0 : 0 < k) (hk : k ≤ 1073741824) : 0 ≤ IntKind.i64.wrap ((k : Int) - 1) ∧ IntKind.i64.wrap ((k : Int) - 1) = ((k - 1 : Nat) : Int) ∧ (IntKind.i64.wrap ((k : Int) - 1)).toNat = k - 1 := by
  rw [w64 (by omega) (by omega)]
  omega
end Go.Proofs.YtpffahmmklpifaaGreat.Abs

/- Sorts of rows of ours, by the library's contracts. -/
namespace Go.Proofs.YtpffahmmklpifaaGreat.Abs
open Go.Proofs Go.RowKit
set_option linter.unusedVariables false
set_option linter.unusedSimpArgs false
set_option maxRecDepth 100000
set_option maxHeartbeats 2000000
attribute [local irreducible] OpA AL AW DL DLM DLR DLS QOp POp VCalls VCallsI
open Go.Shelf Go.Lib Go.Sort
section
variable {α : Type} [Inhabited α] {P : Program} {w : World} {base : Nat} {ty : TypeId} {sz n cap blk : Nat} {xs : List Value}
theorem heap_mapBlock (w : World) (blk : Nat) (f : Array Value → Array Value) (k : Nat) : (Sort.mapBlock w blk f).heap[k]? = if blk = k then (w.heap[k]?).map (Sort.onCells f) else w.heap[k]? := by
  unfold Sort.mapBlock
  simp only [Array.getElem?_modify]
theorem put_own (enc : α → Value) (hown : w.ownsRow base ty sz (.slice (some ⟨blk, 0, none⟩) n cap) n xs) (d : Array α) (hd : d.size = n * sz) (m : Nat) (os : Array Obj) :
    w.grownBy (Sort.grow (Sort.putRow enc (Sort.ahead w m) blk 0 d) os) (some blk) ∧ (Sort.grow (Sort.putRow enc (Sort.ahead w m) blk 0 d) os).ownsRow base ty sz (.slice (some ⟨blk, 0, none⟩) n cap) n (d.toList.map enc) := by
  obtain ⟨hx, h⟩ := hown
  rcases h with ⟨e, _⟩ | ⟨g, cap', cur, e, hb, hg, hnc, hcm, hcs, ht⟩
  · cases e
  · cases e
    have hlt : blk < w.heap.size := (Array.getElem?_eq_some_iff.1 hg).1
    have hh : ∀ k, k < w.heap.size → (Sort.grow (Sort.putRow enc (Sort.ahead w m) blk 0 d) os).heap[k]? = if blk = k then (w.heap[k]?).map (Sort.onCells (Sort.putCells enc 0 d)) else w.heap[k]? := fun k hk => by
      have e1 : (Sort.grow (Sort.putRow enc (Sort.ahead w m) blk 0 d) os).heap[k]? = (Sort.putRow enc (Sort.ahead w m) blk 0 d).heap[k]? := by
        unfold Sort.grow
        exact Array.getElem?_append_left (by rw [Sort.size_putRow]; exact hk)
      rw [e1]
      exact heap_mapBlock (Sort.ahead w m) blk _ k
    refine ⟨⟨rfl, rfl, rfl, by rw [Sort.size_grow, Sort.size_putRow]; exact Nat.le_add_right _ _, fun k hk hne => by rw [hh k hk, if_neg (fun e => hne (by rw [e]))]⟩, by rw [List.length_map, Array.length_toList, hd], .inr ⟨blk, cap, Sort.putCells enc 0 d cur, rfl, hb, by rw [hh blk hlt, if_pos rfl, hg]; rfl, hnc, hcm, by simp [Sort.putCells, hcs], ?_⟩⟩
    refine List.ext_getElem? fun j => ?_
    have hnz : n * sz ≤ cap * sz := Nat.mul_le_mul_right _ hnc
    rw [List.getElem?_take, List.getElem?_map]
    by_cases hj : j < n * sz
    · rw [if_pos hj]
      have hjd : j < d.size := by omega
      have hjc : j < cur.size := by omega
      simp only [Sort.putCells, Array.toList_mapIdx, List.getElem?_mapIdx, Array.getElem?_toList, Array.getElem?_eq_getElem hjc, Array.getElem?_eq_getElem hjd, Option.map_some]
      rw [if_pos ⟨by omega, by omega⟩, Nat.sub_zero, getElem!_pos d j hjd]
    · rw [if_neg hj, Array.getElem?_toList, Array.getElem?_eq_none (by omega)]
      rfl
theorem own_holds (enc : α → Value) (d : Array α) (hd : d.size = n * sz) (hown : w.ownsRow base ty sz (.slice (some ⟨blk, 0, none⟩) n cap) n (d.toList.map enc)) : Sort.Holds enc w blk 0 d ∧ blk < w.heap.size := by
  obtain ⟨hx, h⟩ := hown
  rcases h with ⟨e, _⟩ | ⟨g, cap', cur, e, hb, hg, hnc, hcm, hcs, ht⟩
  · cases e
  · cases e
    have hlt : blk < w.heap.size := (Array.getElem?_eq_some_iff.1 hg).1
    refine ⟨fun j hj => ⟨?_, by simp [World.frozen?, hg]⟩, hlt⟩
    rw [Nat.zero_add, cell_of_row w blk j cur ty (0, 0) hg]
    have h2 : (cur.toList.take (n * sz))[j]? = (d.toList.map enc)[j]? := by rw [ht]
    rw [List.getElem?_take, if_pos (by omega), List.getElem?_map, Array.getElem?_toList, Array.getElem?_toList, Array.getElem?_eq_getElem hj] at h2
    rw [h2, getElem!_pos d j hj]
    rfl
theorem flatV_map {β : Type} (en : β → List AV) (vl : β → List Value) (h : ∀ x, en x = (vl x).map .c) (l : List β) : flatV (l.map en) = (l.map vl).flatten := by
  unfold flatV
  rw [List.map_map]
  congr 1
  refine List.map_congr_left fun x _ => ?_
  show (en x).map valOf = vl x
  rw [h x, List.map_map]
  exact (List.map_congr_left (g := id) fun _ _ => rfl).trans (List.map_id _)
theorem PlR.map {β : Type} {k : Nat} (en : β → List AV) (vl : β → List Value) (h : ∀ x, en x = (vl x).map .c) (hk : ∀ x, (vl x).length = k) (h1 : ∀ x, ∀ v ∈ vl x, v.oneCell' = true) (l : List β) : PlR k (l.map en) :=
  ⟨fun r hr => by
    obtain ⟨x, _, rfl⟩ := List.mem_map.1 hr
    rw [h, List.length_map, hk], fun r hr y hy => by
    obtain ⟨x, _, rfl⟩ := List.mem_map.1 hr
    rw [h] at hy
    obtain ⟨v, hv, rfl⟩ := List.mem_map.1 hy
    exact ⟨v, rfl, h1 x v hv⟩⟩
theorem flatK_toList (enc : α → List Value) (k : Nat) (hk : ∀ x, (enc x).length = k) (l : List α) : (Go.Sort.flatK enc k l.toArray).toList = (l.map enc).flatten := by
  obtain ⟨f1, f2⟩ := flat_get (sz := k) (l.map enc) (fun r hr => by
    obtain ⟨x, _, rfl⟩ := List.mem_map.1 hr
    exact hk x)
  have hs : (Go.Sort.flatK enc k l.toArray).size = l.length * k := by rw [Go.Sort.size_flatK]; simp
  refine List.ext_getElem? fun j => ?_
  by_cases hj : j < l.length * k
  · have h0 : 0 < k := by
      rcases Nat.eq_zero_or_pos k with e | e
      · subst e; omega
      · exact e
    have hi : j / k < l.length := (Nat.div_lt_iff_lt_mul h0).2 hj
    have e := f2 (j / k) (j % k) (enc l[j / k]) (by rw [List.getElem?_map, List.getElem?_eq_getElem hi]; rfl) (Nat.mod_lt _ h0)
    rw [Nat.div_add_mod'] at e
    have hi2 : j / k < l.toArray.size := by simpa using hi
    have hm : j % k < (enc l[j / k]).length := by rw [hk]; exact Nat.mod_lt _ h0
    have hg := Go.Sort.get_flatK enc k l.toArray j (by simpa using hj)
    have hj2 : j < (Go.Sort.flatK enc k l.toArray).size := by rw [hs]; exact hj
    rw [getElem!_pos (Go.Sort.flatK enc k l.toArray) j hj2, getElem!_pos l.toArray (j / k) hi2] at hg
    simp only [List.getElem_toArray] at hg
    rw [getElem!_pos (enc l[j / k]) (j % k) hm] at hg
    rw [e, Array.getElem?_toList, Array.getElem?_eq_getElem hj2, hg, List.getElem?_eq_getElem hm]
  · rw [List.getElem?_eq_none (by rw [Array.length_toList, hs]; omega), List.getElem?_eq_none (by rw [f1, List.length_map]; omega)]
end

theorem flat1 {α β : Type} (f : α → β) (l : List α) : (l.map fun x => [f x]).flatten = l.map f := by
  induction l with
  | nil => rfl
  | cons a l ih => rw [List.map_cons, List.flatten_cons, ih]; rfl
abbrev vI (x : Int) : List Value := [.int .i64 x]
theorem plI (l : List Int) : PlR 1 (l.map enI) := PlR.map enI vI (fun _ => rfl) (fun _ => rfl) (fun x v hv => by simp [vI] at hv; subst hv; rfl) l
theorem flI (l : List Int) : flatV (l.map enI) = l.toArray.toList.map (Value.int .i64) := by rw [flatV_map enI vI (fun _ => rfl) l]; exact flat1 _ l
section
variable {P : Program} {f : FuncId} {ty : TypeId}
theorem sort_ints (hs : ∀ (blk off cap : Nat) (zs : List Int) (w : World), Sort.Holds (Value.int .i64) w blk off zs.toArray → blk < w.heap.size → zs.length < 4611686018427387904 → Calls P f #[.slice (some ⟨blk, off, none⟩) zs.length cap] w fun e w' => e = .returned (.tuple #[]) ∧ ∃ n os, w' = Sort.grow (Sort.putRow (Value.int .i64) (Sort.ahead w n) blk off (zs.mergeSort fun x y => decide (x ≤ y)).toArray) os)
    (h0 : ∀ (p : Option Addr) (cap : Nat) (w : World), Calls P f #[.slice p 0 cap] w fun e w' => e = .returned (.tuple #[]) ∧ w' = w) (l : List Int) (hl : l.length ≤ 1073741824) :
    ACalls P f [.own 0 0] [some ⟨ty, 1, 0, false, l.map enI⟩] (fun r M' => r = .c (.tuple #[]) ∧ ∃ Mx, M' = [⟨ty, 1, 0, false, (l.mergeSort fun x y => decide (x ≤ y)).map enI⟩].map some ++ Mx) := by
  refine acalls_put (extra := []) (ex := []) (plI l) (plI _) (by simp [List.length_mergeSort]) (fun w Fx β G us h => Array.eq_empty_of_size_eq_zero h.1) (fun w base v hown hb => ?_)
  rw [flI] at hown
  rw [flI]
  rcases hown.2 with ⟨rfl, hn⟩ | ⟨g, cap, cur, rfl, _⟩
  · have e : l = [] := by simpa using hn
    subst e
    refine (h0 none 0 w).mono ?_
    rintro e w' ⟨rfl, rfl⟩
    exact ⟨rfl, ⟨rfl, rfl, rfl, Nat.le_refl _, fun _ _ _ => rfl⟩, by simpa using hown⟩
  · obtain ⟨h1, h2⟩ := own_holds (Value.int .i64) l.toArray (by simp) hown
    rw [List.length_map] at *
    refine (hs g 0 cap l w h1 h2 (by omega)).mono ?_
    rintro e w' ⟨rfl, n, os, rfl⟩
    obtain ⟨q1, q2⟩ := put_own (Value.int .i64) hown (l.mergeSort fun x y => decide (x ≤ y)).toArray (by simp [List.length_mergeSort]) n os
    exact ⟨rfl, q1, q2⟩
end
section
variable {P : Program} {f g : FuncId} {ty : TypeId} {α : Type} [Inhabited α] {k : Nat}
theorem sort_k (en : α → List AV) (vl : α → List Value) (hen : ∀ x, en x = (vl x).map .c) (hk : ∀ x, (vl x).length = k) (h1v : ∀ x, ∀ v ∈ vl x, v.oneCell' = true) (l l' : List α) (hll : l'.length = l.length) (hl : l.length ≤ 1073741824)
    (hs : ∀ (blk cap : Nat) (w : World), Sort.HoldsK vl k w blk 0 l.toArray → blk < w.heap.size → Calls P f #[.slice (some ⟨blk, 0, none⟩) l.length cap, .func (.func g) #[] #[]] w fun e w' => e = .returned (.tuple #[]) ∧ ∃ n os, w' = sortWorldK vl k w blk 0 n l'.toArray os)
    (h0 : ∀ (p : Option Addr) (cap : Nat) (fv : Value) (w : World), Calls P f #[.slice p 0 cap, fv] w fun e w' => e = .returned (.tuple #[]) ∧ w' = w) :
    ACalls P f [.own 0 0, .fn g []] [some ⟨ty, k, 0, false, l.map en⟩] (fun r M' => r = .c (.tuple #[]) ∧ ∃ Mx, M' = [⟨ty, k, 0, false, l'.map en⟩].map some ++ Mx) := by
  refine acalls_put (extra := [.fn g []]) (ex := [.func (.func g) #[] #[]]) (PlR.map en vl hen hk h1v l) (PlR.map en vl hen hk h1v l') (by simp [hll]) (fun w Fx β G us h => ?_) (fun w base v hown hb => ?_)
  · obtain ⟨h1, h2⟩ := h
    obtain ⟨ul, rfl⟩ : ∃ ul : List Value, us = ul.toArray := ⟨us.toList, by simp⟩
    match ul, h1 with
    | [u], _ =>
      have := h2 0 _ u rfl (by simp)
      cases this with
      | @fn _ _ us2 hl2 _ =>
        obtain rfl : us2 = [] := List.eq_nil_of_length_eq_zero (by simpa using hl2)
        rfl
  · rw [flatV_map en vl hen, ← flatK_toList vl k hk] at hown
    rw [flatV_map en vl hen, ← flatK_toList vl k hk]
    rw [List.length_map] at *
    have hmid : ∀ L : List Value, L.map id = L := List.map_id
    rcases hown.2 with ⟨rfl, hn⟩ | ⟨b, cap, cur, rfl, _⟩
    · have e : l = [] := List.eq_nil_of_length_eq_zero hn
      subst e
      have e2 : l' = [] := List.eq_nil_of_length_eq_zero (by simpa using hll)
      subst e2
      refine (h0 none 0 (.func (.func g) #[] #[]) w).mono ?_
      rintro e w' ⟨rfl, rfl⟩
      exact ⟨rfl, ⟨rfl, rfl, rfl, Nat.le_refl _, fun _ _ _ => rfl⟩, hown⟩
    · rw [← hmid (Go.Sort.flatK vl k l.toArray).toList] at hown
      obtain ⟨h1, h2⟩ := own_holds id (Go.Sort.flatK vl k l.toArray) (by rw [Go.Sort.size_flatK]; simp) hown
      refine (hs b cap w h1 h2).mono ?_
      rintro e w' ⟨rfl, n, os, rfl⟩
      obtain ⟨q1, q2⟩ := put_own id hown (Go.Sort.flatK vl k l'.toArray) (by rw [Go.Sort.size_flatK]; simp [hll]) n os
      rw [hmid] at q2
      exact ⟨rfl, q1, q2⟩
end

theorem sortI (l : List Int) (hl : l.length ≤ 1073741824) : ACalls Tryz.prog 62 [.own 0 0] [some ⟨3, 1, 0, false, l.map enI⟩] (fun r M' => r = .c (.tuple #[]) ∧ ∃ Mx, M' = [⟨3, 1, 0, false, (l.mergeSort fun x y => decide (x ≤ y)).map enI⟩].map some ++ Mx) :=
  sort_ints (fun blk off cap zs w h1 h2 h3 => Tryz.slices_Sort_int blk off cap zs w h1 h2 h3) (fun p cap w => Tryz.slices_Sort_int_none p cap w) l hl
theorem aboveR (x y : TPlace) (W : World) : Calls Tryz.prog 161 #[.agg #[.int .i64 x.id, .int .i64 x.at_.x, .int .i64 x.at_.y, .int .i64 x.rank], .agg #[.int .i64 y.id, .int .i64 y.at_.x, .int .i64 y.at_.y, .int .i64 y.rank]] W fun e w' => e = .returned (.bool (above x y)) ∧ w' = (W.alloc (.cells #[.int .i64 x.id, .int .i64 x.at_.x, .int .i64 x.at_.y, .int .i64 x.rank] 187)).alloc (.cells #[.int .i64 y.id, .int .i64 y.at_.x, .int .i64 y.at_.y, .int .i64 y.rank] 187) := by
  have mixed : Tryz.prog.follows .mixedOrders = true := by kernel_rfl
  rcases Bool.eq_false_or_eq_true (decide (x.rank > y.rank)) with h1 | h1
  rotate_left 1
  rcases Bool.eq_false_or_eq_true (x.rank == y.rank) with h2 | h2
  all_goals
    go_enter Tryz.func161, Tryz.ntmps161
    go_wp2
    go_ret
    refine ⟨?_, rfl⟩
    unfold above
    simp only [*, Bool.true_or, Bool.false_or, Bool.true_and, Bool.false_and]
    rfl
def cmpA (x y : TPlace) : Int := if above x y = true then -1 else if above y x = true then 1 else 0
theorem cmpA_calls (x y : TPlace) (W : World) : Calls Tryz.prog 280 #[.agg #[.int .i64 x.id, .int .i64 x.at_.x, .int .i64 x.at_.y, .int .i64 x.rank], .agg #[.int .i64 y.id, .int .i64 y.at_.x, .int .i64 y.at_.y, .int .i64 y.rank]] W fun e w' => e = .returned (.int .i64 (cmpA x y)) ∧ ∃ q os', w' = grow (W.drewN q) os' := by
  have mixed : Tryz.prog.follows .mixedOrders = true := by kernel_rfl
  have e161 : ∀ args w, (callFunc 161 args).run Tryz.prog w = .ok (.enter 161 args) w := enters_of Tryz.func161 (by kernel_rfl) rfl
  rcases Bool.eq_false_or_eq_true (above x y) with h1 | h1
  rotate_left 1
  rcases Bool.eq_false_or_eq_true (above y x) with h2 | h2
  all_goals
    go_enter Tryz.func280, Tryz.ntmps280
    go_wp2_with (go_at_fn 161; first | (with_reducible refine (aboveR x y _).mono ?_; rintro e w' ⟨rfl, rfl⟩; rw [h1]) | (with_reducible refine (aboveR y x _).mono ?_; rintro e w' ⟨rfl, rfl⟩; rw [h2]))
    go_ret
    refine ⟨?_, 0, _, by simp only [alloc_eq_grow, grow_grow, World.drewN_zero]; rfl⟩
    unfold cmpA
    simp only [*]
    rfl
theorem ltA_iff (x y : TPlace) : ltOf cmpA x y = above x y := by
  unfold ltOf cmpA
  cases h : above x y
  · cases above y x <;> simp
  · simp
theorem swoA : SWO (ltOf cmpA) where
  irrefl x := by
    rw [ltA_iff]
    cases h : above x x
    · rfl
    · exact (above_anti h h).elim
  trans x y z h1 h2 := by rw [ltA_iff] at *; exact above_tr h1 h2
  ntrans x y z h1 h2 := by
    rw [ltA_iff] at *
    cases h : above x z
    · rfl
    · have h3 := (above_iff _ _).1 h
      have h4 : ¬ above x y = true := by rw [h1]; decide
      have h5 : ¬ above y z = true := by rw [h2]; decide
      rw [above_iff] at h4 h5
      omega
abbrev vPl (x : TPlace) : List Value := [.int .i64 x.id, .int .i64 x.at_.x, .int .i64 x.at_.y, .int .i64 x.rank]
instance : Inhabited TPlace := ⟨⟨0, ⟨0, 0⟩, 0⟩⟩
theorem ins_srtA {l : List TPlace} (hp : PlOk l) : Sort.insertionSort (ltOf cmpA) l.toArray 0 l.length = (srtA l).toArray := by
  obtain ⟨⟨h1, _, h2⟩, h3⟩ := insertionSort_holds swoA l.toArray 0 l.length (Nat.zero_le _) (by simp)
  generalize Sort.insertionSort (ltOf cmpA) l.toArray 0 l.length = d at *
  have hs : d.size = l.length := by simpa using h1
  have e1 : d.extract 0 l.length = d := by rw [← hs]; simp
  have e2 : l.toArray.extract 0 l.length = l.toArray := by simp
  rw [e1, e2] at h2
  have hpw : d.toList.Pairwise fun x y => above y x = false := by
    rw [List.pairwise_iff_getElem]
    intro i j hi hj hij
    have := h3 i j (Nat.zero_le _) hij (by simp at hj; omega)
    rw [ltA_iff] at this
    rw [getElem!_pos d j (by simpa using hj), getElem!_pos d i (by simpa using hi)] at this
    simpa using this
  have := srtA_uni hp.ne (by simpa using h2) hpw
  rw [← this]
theorem insP (l : List TPlace) (hp : PlOk l) : ACalls Tryz.prog 330 [.own 0 0, I 0, I ((l.map TPlace.en).length : Int), .fn 280 []] [some ⟨187, 4, 0, false, l.map TPlace.en⟩] (fun r M' => r = .c (.tuple #[]) ∧ ∃ Mx, M' = [⟨187, 4, 0, false, (srtA l).map TPlace.en⟩].map some ++ Mx) := by
  have hlen := hp.len
  have hll := srtA_len l
  refine acalls_put (extra := [I 0, I ((l.map TPlace.en).length : Int), .fn 280 []]) (ex := [.int .i64 0, .int .i64 ((l.map TPlace.en).length : Int), .func (.func 280) #[] #[]]) (PlR.map TPlace.en vPl (fun _ => rfl) (fun _ => rfl) (fun x v hv => by simp [vPl] at hv; rcases hv with rfl | rfl | rfl | rfl <;> rfl) l) (PlR.map TPlace.en vPl (fun _ => rfl) (fun _ => rfl) (fun x v hv => by simp [vPl] at hv; rcases hv with rfl | rfl | rfl | rfl <;> rfl) (srtA l)) (by simp [hll]) (fun w Fx β G us h => ?_) (fun w base v hown hb => ?_)
  · obtain ⟨h1, h2⟩ := h
    obtain ⟨ul, rfl⟩ : ∃ ul : List Value, us = ul.toArray := ⟨us.toList, by simp⟩
    match ul, h1 with
    | [u0, u1, u2], _ =>
      have e0 := (h2 0 _ u0 rfl (by simp)).c_inv
      have e1 := (h2 1 _ u1 rfl (by simp)).c_inv
      have := h2 2 _ u2 rfl (by simp)
      cases this with
      | @fn _ _ us2 hl2 _ =>
        obtain rfl : us2 = [] := List.eq_nil_of_length_eq_zero (by simpa using hl2)
        rw [e0, e1]
  · rw [flatV_map TPlace.en vPl (fun _ => rfl), ← flatK_toList vPl 4 (fun _ => rfl)] at hown
    rw [flatV_map TPlace.en vPl (fun _ => rfl), ← flatK_toList vPl 4 (fun _ => rfl)]
    rw [List.length_map] at *
    have hmid : ∀ L : List Value, L.map id = L := List.map_id
    rcases hown.2 with ⟨rfl, hn⟩ | ⟨b, cap, cur, rfl, _⟩
    · have e : l = [] := List.eq_nil_of_length_eq_zero hn
      subst e
      refine (AnyF.insertionSortCmpFunc_none Tryz.laysInsP none 0 (.func (.func 280) #[] #[]) w).mono ?_
      rintro e w' ⟨rfl, rfl⟩
      exact ⟨rfl, ⟨rfl, rfl, rfl, Nat.le_refl _, fun _ _ _ => rfl⟩, hown⟩
    · rw [← hmid (Go.Sort.flatK vPl 4 l.toArray).toList] at hown
      obtain ⟨h1, h2⟩ := own_holds id (Go.Sort.flatK vPl 4 l.toArray) (by rw [Go.Sort.size_flatK]; simp) hown
      have hc := AnyQ.insertionSortCmpFunc Tryz.laysInsP 4 Tryz.isAgg187 Tryz.sizeOf187 vPl (fun _ => rfl) (fun x v hv => by simp [vPl] at hv; rcases hv with rfl | rfl | rfl | rfl <;> rfl) cmpA 280 #[] b 0 cap 0 l.length l.toArray w (enters_of Tryz.func280 (by kernel_rfl) rfl) (fun _ _ _ _ x y => cmpA_calls x y _) h1 h2 (Nat.zero_le _) (by simp) (by simp; omega)
      rw [ins_srtA hp] at hc
      refine hc.mono ?_
      rintro e w' ⟨rfl, n, os, rfl⟩
      obtain ⟨q1, q2⟩ := put_own id hown (Go.Sort.flatK vPl 4 (srtA l).toArray) (by rw [Go.Sort.size_flatK]; simp [hll]) n os
      rw [hmid] at q2
      exact ⟨rfl, q1, q2⟩
theorem ACalls.unit {P : Program} {f : FuncId} {args : List AV} {Ms : Mem} {Q : Mem → Prop} (h : ACalls P f args Ms (fun r M => r = .tup [] ∧ Q M)) : ACalls P f args Ms (fun r M => r = .c (.tuple #[]) ∧ Q M) := by
  intro E vals hM hh hs
  refine (h E vals hM hh hs).mono ?_
  rintro e w' ⟨v, r, M', Fx, β, rfl, ⟨rfl, hq⟩, hh', ho, hrep⟩
  cases hrep with
  | @tup _ us hl _ =>
    obtain rfl : us = [] := List.eq_nil_of_length_eq_zero (by simpa using hl)
    exact ⟨_, .c (.tuple #[]), M', Fx, β, rfl, ⟨rfl, hq⟩, hh', ho, .c _⟩

end Go.Proofs.YtpffahmmklpifaaGreat.Abs

/- The walks of the clones. -/
namespace Go.Proofs.YtpffahmmklpifaaGreat.Abs
open Go.Proofs Go.RowKit
set_option linter.unusedVariables false
set_option linter.unusedSimpArgs false
set_option maxRecDepth 100000
set_option maxHeartbeats 2000000
attribute [local irreducible] OpA AL AW DL DLM DLR DLS QOp POp VCalls VCallsI
theorem clonePoint (l : List TPoint) (hl : l.length ≤ 1048576) : VCalls Tryz.prog 178 [.ro 2 (l.map TPoint.en)] (fun r M => r = .own 0 0 ∧ M = [some ⟨141, 2, 0, false, l.map TPoint.en⟩]) := by
  refine VB Tryz.func178 7 (fun E hE => ?_)
  have hclo : Clo (.ro 2 (l.map TPoint.en)) := clo_list TPoint.clo_en
  repeat' ((first
    | (refine iAL ?_; first | refine AL.any ?_ | refine AL.nil ?_)
    | (refine iAW ?_; first | (refine AW.adoptRet (t := 2) 141 2 rfl Adopt.nil ?_) | (refine AW.c0 ?_; constructor) | refine AW.cT ?_ | refine AW.cF ?_ | (refine AW.c2 ?_ ?_ <;> (intro h; try simp only [bT, bF] at h)))
    | ((refine AL.isnil (by rfl) (by rfl) (TT_ok.sl _ _ (by rfl)) (by rfl) (fun bn hbn => ?_)); dsimp only [sh0_own, sh0_c, sh1_own, sh1_c, sh1_agg, shA_own, shA_c, shA_agg, shA_tup, dput, List.set, cond_true, cond_false, Nat.zero_add, Nat.add_zero, Nat.reduceAdd, splice, List.take, List.drop, List.length, List.nil_append, List.cons_append, List.append, TPoint.en, TSegment.en, TBox.en, TFeature.en, TMeet.en, TPlace.en, TCover.en, TLabel.en, TPiece.en, TLevel.en, TChart.en, TReason.en, TEdit.en, TEntry.en, TEdition.en, TListing.en, TAtlas.en, TEvent.en, TWindow.en])) <;> (try dsimp only))
  all_goals exact Fin.r1 [0] rfl (RV.tmp (by rfl)) ⟨rfl, by first | rfl | (rw [hbn (by assumption)] <;> rfl)⟩

theorem cloneF (x : TFeature) (hs : x.sm) : VCalls Tryz.prog 118 [.agg x.en] (fun r M => r = .agg x.eo ∧ M = x.rw) := by
  refine VB Tryz.func118 7 (fun E hE => ?_)
  have hclo0 : Clo (.ro 2 (x.points.map TPoint.en)) := clo_list TPoint.clo_en
  have hcle : Clo (.agg x.en) := Clo.agg x.clo_en
  have hsl : x.points.length ≤ 1048576 := hs
  dsimp only [TFeature.en]
  repeat' ((first
    | (refine iAL ?_; first | refine AL.any ?_ | refine AL.any (h := POp.O Tryz.func178 (hc := clonePoint _ (by assumption))) ?_ | refine AL.nil ?_)
    | (refine iAW ?_; first | (refine AW.c0 ?_; constructor))) <;> (try dsimp only))
  all_goals exact Fin.r1 [2] rfl (RV.cell (QOp.quietA TT_ok (by rfl))) ⟨rfl, rfl⟩

theorem cloneF_s (x : TFeature) (hs : x.sm) : VCalls Tryz.prog 108 [.agg x.en] (fun r M => r = .agg x.eo ∧ M = x.rw) := by
  refine VB Tryz.func108 8 (fun E hE => ?_)
  have hclo0 : Clo (.ro 2 (x.points.map TPoint.en)) := clo_list TPoint.clo_en
  have hcle : Clo (.agg x.en) := Clo.agg x.clo_en
  have hsl : x.points.length ≤ 1048576 := hs
  dsimp only [TFeature.en]
  repeat' ((first
    | (refine iAL ?_; first | refine AL.any ?_ | refine AL.nil ?_)
    | (refine iAW ?_; first | (refine AW.c0 ?_; constructor))) <;> (try dsimp only))
  all_goals exact Fin.r1 [2] rfl (RV.cell (QOp.quietA TT_ok (by rfl))) ⟨rfl, rfl⟩

theorem cloneF_s' (x : TFeature) (hs : x.sm) : VCalls Tryz.prog 108 [.agg x.en] (fun r M => r = .agg x.en ∧ M = []) := VCalls.frz (cloneF_s x hs) (by repeat' (first | exact VwL.nil | refine VwL.cons ?_ ?_ | (refine View.own (by rfl) (by rfl) (by rfl) (by rfl) ?_ ?_ <;> first | exact DCl.b rfl | exact DCl.map (fun _ => rfl) | assumption | rfl | exact TPoint.und | exact TSegment.und | exact TBox.und | exact TFeature.und | exact TMeet.und | exact TPlace.und | exact TCover.und | exact TLabel.und | exact TPiece.und | exact TLevel.und | exact TChart.und | exact TReason.und | exact TEdit.und | exact TEntry.und | exact TEdition.und | exact TListing.und | exact TAtlas.und | exact TEvent.und | exact TWindow.und | exact und_nil | exact und_I | assumption) | refine View.agg' ?_ | exact View.same (by first | exact clo_of (by rfl) | assumption | exact clo_fn _) | exact View.nil))
theorem stbP (l : List TPlace) (hp : PlOk l) : ACalls Tryz.prog 311 [.own 0 0, I ((l.map TPlace.en).length : Int), .fn 280 []] [some ⟨187, 4, 0, false, (l).map TPlace.en⟩] (fun r M => r = .c (.tuple #[]) ∧ ∃ Mx, M = [⟨187, 4, 0, false, (srtA l).map TPlace.en⟩].map some ++ Mx) := by
  refine ACalls.unit ?_
  have hpl := hp.len
  have a1 := True.intro
  refine ACalls.body Tryz.func311 rfl 60 rfl (fun E hE => ?_)
  simp only [List.reduceReplicate, List.cons_append, List.nil_append]
  repeat' ((first
    | (refine iAL ?_; first | refine AL.any ?_ | refine AL.any (h := POp.H [0] Tryz.func330 (hc := insP l (by assumption))) ?_ | refine AL.nil ?_)
    | (refine iAW ?_; first | (refine AW.c0 ?_; constructor) | refine AW.cT ?_ | refine AW.cF ?_ | (refine AW.c2 ?_ ?_ <;> (intro h; try simp only [bT, bF] at h)))
    | (have _ := a1
       clear a1
       refine AW.loopE (fun s_ : Nat => [.own 0 0, I ((l.map TPlace.en).length : Int), .fn 280 [], .any, .any, .any, I 20, I 0, I 20, .any, .any, .any, .any, .any, .any, .any, .any, .any, .any, .any, .any, .any, .any, .any, .any, .any, .any, .any, .any, .any, .any, .any, .any, .any, .any, .any, .any, .any, .any, .any, .any, .any, .any, .any, .any, .any, .any, .any, .any, .any, .any, .any, .any, .any, .any, .any, .any, .any, .any, .any, .any, .any, .any]) (fun s_ => [some ⟨187, 4, 0, false, (l).map TPlace.en⟩]) (fun s_ => by rw [hE]; exact Nat.le_refl _) (fun s_ => 0) (fun s_ => True) 0 trivial ?_ (by first | rfl | (rfl)) ?_
       (focus (exact wkI))
       rintro q hJ
       try dsimp only at hJ
       try dsimp only
       by_cases hlt : False
       case' pos =>
         have b1 := True.intro
         exact hlt.elim
       case' neg =>
         have a2 := True.intro
         have ht : decide ((20 : Int) ≤ ((l.map TPlace.en).length : Int)) = false := by rw [List.length_map]; simp; omega)
    | (have _ := a2
       clear a2
       refine AW.loopE (fun s_ : Nat => [.own 0 0, I ((l.map TPlace.en).length : Int), .fn 280 [], .any, .any, .any, I 20, I 0, I 20, .any, .any, .any, .any, .any, .any, .any, .any, .any, .any, .any, .any, .any, .any, .any, .any, .any, .any, .any, .any, .any, .any, .any, .any, .any, .any, .any, .any, .any, .any, .any, .any, .any, .any, .any, .any, .any, .any, .any, .any, .any, .any, .any, .any, .any, .any, .any, .any, .any, .any, .any, .any, .any, .any]) (fun s_ => [some ⟨187, 4, 0, false, (srtA l).map TPlace.en⟩]) (fun s_ => by rw [hE]; exact Nat.le_refl _) (fun s_ => 0) (fun s_ => True) 0 trivial ?_ (by first | rfl | (rfl)) ?_
       (focus (exact wkI))
       rintro q hJ
       try dsimp only at hJ
       try dsimp only
       by_cases hlt : False
       case' pos =>
         have b2 := True.intro
         exact hlt.elim
       case' neg =>
         have c2 := True.intro
         have ht : decide ((20 : Int) < ((l.map TPlace.en).length : Int)) = false := by rw [List.length_map]; simp; omega)
    | with_reducible refine ifP ?_
    | with_reducible refine ifN ?_) <;> (try dsimp only))
  all_goals exact ⟨by first | exact .inl rfl | exact .inr rfl, _, ResA.none rfl, rfl, [], rfl⟩

theorem ssfP (l : List TPlace) (hp : PlOk l) : ACalls Tryz.prog 279 [.own 0 0, .fn 280 []] [some ⟨187, 4, 0, false, (l).map TPlace.en⟩] (fun r M => r = .c (.tuple #[]) ∧ ∃ Mx, M = [⟨187, 4, 0, false, (srtA l).map TPlace.en⟩].map some ++ Mx) := by
  refine ACalls.unit ?_
  have hpl := hp.len
  have a1 := True.intro
  refine ACalls.body Tryz.func279 rfl 7 rfl (fun E hE => ?_)
  simp only [List.reduceReplicate, List.cons_append, List.nil_append]
  repeat' ((first
    | (refine iAL ?_; first | refine AL.any ?_ | refine AL.any (h := POp.H [0] Tryz.func311 (hc := stbP l (by assumption))) ?_ | refine AL.nil ?_)
    | (refine iAW ?_; first | (refine AW.c0 ?_; constructor))) <;> (try dsimp only))
  all_goals exact ⟨by first | exact .inl rfl | exact .inr rfl, _, ResA.none rfl, rfl, [], rfl⟩

theorem clonePlace (l : List TPlace) (hl : l.length ≤ 1048576) : VCalls Tryz.prog 278 [.ro 4 (l.map TPlace.en)] (fun r M => r = .own 0 0 ∧ M = [some ⟨187, 4, 0, false, l.map TPlace.en⟩]) := by
  refine VB Tryz.func278 7 (fun E hE => ?_)
  have hclo : Clo (.ro 4 (l.map TPlace.en)) := clo_list TPlace.clo_en
  repeat' ((first
    | (refine iAL ?_; first | refine AL.any ?_ | refine AL.nil ?_)
    | (refine iAW ?_; first | (refine AW.adoptRet (t := 2) 187 4 rfl Adopt.nil ?_) | (refine AW.c0 ?_; constructor) | refine AW.cT ?_ | refine AW.cF ?_ | (refine AW.c2 ?_ ?_ <;> (intro h; try simp only [bT, bF] at h)))
    | ((refine AL.isnil (by rfl) (by rfl) (TT_ok.sl _ _ (by rfl)) (by rfl) (fun bn hbn => ?_)); dsimp only [sh0_own, sh0_c, sh1_own, sh1_c, sh1_agg, shA_own, shA_c, shA_agg, shA_tup, dput, List.set, cond_true, cond_false, Nat.zero_add, Nat.add_zero, Nat.reduceAdd, splice, List.take, List.drop, List.length, List.nil_append, List.cons_append, List.append, TPoint.en, TSegment.en, TBox.en, TFeature.en, TMeet.en, TPlace.en, TCover.en, TLabel.en, TPiece.en, TLevel.en, TChart.en, TReason.en, TEdit.en, TEntry.en, TEdition.en, TListing.en, TAtlas.en, TEvent.en, TWindow.en])) <;> (try dsimp only))
  all_goals exact Fin.r1 [0] rfl (RV.tmp (by rfl)) ⟨rfl, by first | rfl | (rw [hbn (by assumption)] <;> rfl)⟩

theorem frAb (l : List TPlace) (hp : PlOk l) : VCalls Tryz.prog 211 [.ro 4 (l.map TPlace.en)] (fun r M => r = .own 0 0 ∧ M = [some ⟨187, 4, 0, false, (srtA l).map TPlace.en⟩]) := by
  refine VB Tryz.func211 8 (fun E hE => ?_)
  have hclo : Clo (.ro 4 (l.map TPlace.en)) := clo_list TPlace.clo_en
  have hpl := hp.len
  have hl1 : l.length ≤ 1048576 := by omega
  repeat' ((first
    | (refine iAL ?_; first | refine AL.any ?_ | refine AL.any (h := POp.O Tryz.func278 (hc := clonePlace _ (by assumption))) ?_ | refine AL.any (h := POp.H [0] Tryz.func279 (hc := ssfP l (by assumption))) ?_ | refine AL.nil ?_)
    | (refine iAW ?_; first | (refine AW.c0 ?_; constructor))) <;> (try dsimp only))
  all_goals exact Fin.r1 [0] rfl (RV.tmp (by rfl)) ⟨rfl, rfl⟩

theorem frAb' (l : List TPlace) (hp : PlOk l) : VCalls Tryz.prog 211 [.ro 4 (l.map TPlace.en)] (fun r M => r = .ro 4 ((srtA l).map TPlace.en) ∧ M = []) := VCalls.frz (frAb l hp) vwlT
theorem kept_s (l : List TPlace) (far : Int) (hp : PlOk l) (hfar : inr far 0 200 = true) : VCalls Tryz.prog 203 [.ro 4 (l.map TPlace.en), I far] (fun r M => r = .ro 4 ((kept (srtA l) far).map TPlace.en) ∧ M = []) := by
  refine VB Tryz.func203 90 (fun E hE => ?_)
  have a1 := True.intro
  have hpl := hp.len
  have hclo : Clo (.ro 4 (l.map TPlace.en)) := clo_list TPlace.clo_en
  repeat' ((first
    | (refine iAL ?_; first | refine AL.any ?_ | refine AL.U ?_ | refine AL.F ?_ | refine AL.T ?_ | refine AL.T (h := POp.k Tryz.func227 (hc := above_s x y)) ?_ | refine AL.W ?_ | refine AL.W (h := fun h => by (try rw [h]); exact POp.k Tryz.func227 (hc := above_s x y)) ?_ | refine AL.nil ?_)
    | ((with_reducible show DL ..); first | refine DL.any ?_ | refine DL.U ?_ | refine DL.F ?_ | refine DL.T ?_ | refine DL.T (h := POp.k Tryz.func228 (hc := far_s y.at_ x.at_ (by assumption) (by assumption))) ?_ | refine DL.W ?_ | refine DL.W (h := fun h => by (try rw [h]); exact POp.k Tryz.func228 (hc := far_s y.at_ x.at_ (by assumption) (by assumption))) ?_ | refine DL.nil ?_)
    | ((with_reducible show DLR ..); first | refine DLR.any ?_ | refine DLR.alloc rfl rfl (by first | exact ze2 | exact ze3 | exact ze4 | exact ze5 | exact ze6 | exact ze7 | exact ze8 | exact ze9 | exact ze10 | exact ze11 | exact ze12 | exact ze13 | exact ze15 | exact ze17 | exact ze18 | exact ze21 | exact ze22 | exact ze23 | exact ze24 | exact ze25 | exact ze26 | exact ze28 | exact ze31 | exact ze32 | exact ze33 | exact ze34 | exact ze35 | exact ze36 | exact ze42 | exact ze45 | exact ze63 | exact ze64 | exact ze65 | exact ze79 | exact ze80 | exact ze81 | exact ze86 | exact ze87 | exact ze129 | exact ze132 | exact ze135 | exact ze141 | exact ze151 | exact ze174 | exact ze183 | exact ze187) rfl rfl ?_ | refine DLR.box rfl rfl (by rfl) (by rfl) rfl rfl ?_ | refine DLR.store rfl rfl (by rfl) rfl rfl rfl rfl rfl (by rfl) (by rfl) (TT_ok.ld _ _ (by rfl)) (by rfl) (by rfl) rfl ?_ | refine DLR.row rfl (fun Y => RowRun.empty (by rfl) (by rfl) (by first | exact rwk22 | exact rwk23 | exact rwk24 | exact rwk31 | exact rwk32 | exact rwk33 | exact rwk45 | exact rwk63 | exact rwk79 | exact rwk183)) rfl rfl ?_ | refine DLR.row rfl (fun Y => RowRun.literal (by rfl) (by first | exact rwk22 | exact rwk23 | exact rwk24 | exact rwk31 | exact rwk32 | exact rwk33 | exact rwk45 | exact rwk63 | exact rwk79 | exact rwk183) (by rfl) (by rfl) (by rfl) (by rfl) (by rfl) (by rfl)) rfl rfl ?_ | refine DLR.append rfl (by rfl) (by first | exact rwk22 | exact rwk23 | exact rwk24 | exact rwk31 | exact rwk32 | exact rwk33 | exact rwk45 | exact rwk63 | exact rwk79 | exact rwk183) (by rfl) rfl rfl rfl rfl rfl rfl (by rfl) (by first | (simp <;> omega) | omega) (by first | (simp [maxLen] <;> omega) | (simp_all [maxLen] <;> omega)) ?_ | refine DLR.W ?_ | refine DLR.W (h := fun h Y => by (try rw [h]); exact POp.k Tryz.func228 (hc := far_s y.at_ x.at_ (by assumption) (by assumption))) ?_ | refine DLR.nil ?_)
    | (refine iAW ?_; first | (refine AW.freeze /-Ret-/ (t := 5) (id := 0) rfl rfl rfl rfl clo_rows_nil ?_; try dsimp only [dput, List.set, cond_true, cond_false, Nat.zero_add, Nat.add_zero, Nat.reduceAdd, splice, List.take, List.drop, List.length, List.nil_append, List.cons_append, List.append, TPoint.en, TSegment.en, TBox.en, TFeature.en, TMeet.en, TPlace.en, TCover.en, TLabel.en, TPiece.en, TLevel.en, TChart.en, TReason.en, TEdit.en, TEntry.en, TEdition.en, TListing.en, TAtlas.en, TEvent.en, TWindow.en]) | (refine AW.freeze /-Ret-/ (t := 5) (id := 1) rfl rfl rfl rfl hcr ?_; try dsimp only [dput, List.set, cond_true, cond_false, Nat.zero_add, Nat.add_zero, Nat.reduceAdd, splice, List.take, List.drop, List.length, List.nil_append, List.cons_append, List.append, TPoint.en, TSegment.en, TBox.en, TFeature.en, TMeet.en, TPlace.en, TCover.en, TLabel.en, TPiece.en, TLevel.en, TChart.en, TReason.en, TEdit.en, TEntry.en, TEdition.en, TListing.en, TAtlas.en, TEvent.en, TWindow.en]) | (refine AW.freezeRet (t := 4) (id := 1) rfl rfl rfl rfl (clo_rows TPlace.clo_en) ?_; (try simp only [List.take_length]); try dsimp only [dput, List.set, cond_true, cond_false, Nat.zero_add, Nat.add_zero, Nat.reduceAdd, splice, List.take, List.drop, List.length, List.nil_append, List.cons_append, List.append, TPoint.en, TSegment.en, TBox.en, TFeature.en, TMeet.en, TPlace.en, TCover.en, TLabel.en, TPiece.en, TLevel.en, TChart.en, TReason.en, TEdit.en, TEntry.en, TEdition.en, TListing.en, TAtlas.en, TEvent.en, TWindow.en]) | (refine AW.c0 ?_; constructor) | refine AW.dr (id := 6) 12 ?_ | refine AW.drawnR (id := 8) 14 1 [some 0, none, none, none, some 0, none, none, none, none, none, some 0, none, none, none] [some Rsv] rfl (by kernel_rfl) (by kernel_rfl) (by kernel_rfl) (by rfl) ?_ | refine AW.dr (id := 17) 16 ?_ | refine AW.cT ?_ | refine AW.cF ?_ | (refine AW.c2 ?_ ?_ <;> (intro h; try simp only [bT, bF] at h)))
    | ((with_reducible show DL ..); first | refine DL.T (h := POp.quiet (QOp.fld_ref (off := 1) (n := 1) (by rfl) (by rfl) (by rfl) (by rfl) (by kernel_rfl))) ?_)
    | ((with_reducible show DLR ..); first | refine DLR.any (h := fun Y => POp.quiet (QOp.cut_h (by rfl) slk183 (by rfl) (by rfl) (by first | decide | omega) (by first | assumption | omega) (by assumption))) ?_ | refine DLR.any (h := fun Y => POp.quiet (QOp.cut_l (by rfl) slk183 (by rfl) (by rfl) (by first | decide | omega) (by first | assumption | omega) (by assumption))) ?_ | refine DLR.any (h := fun Y => POp.lit0 (RowRun.literal (by rfl) rwk183 (by rfl) (by rfl) (by rfl) (by rfl) (by rfl) (by rfl)) (clo_rows_b rfl)) ?_)
    | (have _ := a1
       clear a1
       refine AW.loopD hE (fun s_ : Nat => (.ro 4 (l.map TPlace.en) :: I far :: .any :: .any :: .any :: .ro 4 ((srtTo l s_).map TPlace.en) :: I (s_ : Int) :: .any :: .any :: .any :: .any :: .any :: .any :: .any :: .any :: .any :: .any :: .any :: .any :: .any :: .any :: .any :: .any :: .any :: .any :: .any :: .any :: .any :: .any :: .any :: .any :: .any :: .any :: .any :: .any :: .any :: .any :: .any :: .any :: .any :: .any :: .any :: .any :: .any :: .any :: .any :: .any :: .any :: .any :: .any :: .any :: .any :: .any :: .any :: .any :: .any :: .any :: .any :: .any :: .any :: .any :: .any :: .any :: .any :: .any :: .any :: .any :: .any :: .any :: .any :: .any :: .any :: .any :: .any :: .any :: .any :: .any :: .any :: .any :: .any :: .any :: .any :: .any :: .any :: .any :: .any :: .any :: .any :: .any :: .any :: .any :: .any :: [])) (fun s_ => [none]) (fun s_ => l.length - s_) (fun s_ => s_ ≤ l.length) 0 (Nat.zero_le _) ?_ (by first | rfl | (rfl)) ?_
       (focus ((repeat' (first | exact Wk.nil | refine Wk.any ?_ | (with_reducible refine Wk.same ?_) | refine Wk.of ?_ ?_)) <;> first | rfl | (simp [srtTo])))
       rintro i hJ
       try dsimp only at hJ
       try dsimp only
       by_cases hlt : i < l.length
       case' pos =>
         have a2 := True.intro
         obtain ⟨x, hx⟩ := getD_some (l := l) (i := i) hlt
         have hg := map_get (f := TPlace.en) hx
         have ht := lt_true (f := TPlace.en) hlt
         have hn := next_ix hlt (by omega)
         have hxm := List.mem_of_getElem? hx
         have hxo := (hp.ok x hxm).2.1
         have hcle : Clo (.agg x.en) := Clo.agg x.clo_en
         have hsl := srtTo_len (l := l) (i := i) (by omega)
         have hclS : Clo (.ro 4 ((srtTo l i).map TPlace.en)) := clo_list TPlace.clo_en
       case' neg =>
         have a3 := True.intro
         have ht := lt_false (f := TPlace.en) hlt
         obtain rfl : i = l.length := by omega
         rw [srtTo_all]
         have hsl := srtA_len l
         have hclS : Clo (.ro 4 ((srtA l).map TPlace.en)) := clo_list TPlace.clo_en)
    | (have _ := a2
       clear a2
       refine AW.loopD hE (fun s_ : Nat => (.ro 4 (l.map TPlace.en) :: I far :: .any :: .any :: .any :: .ro 4 ((srtTo l i).map TPlace.en) :: I (i : Int) :: I (s_ : Int) :: .any :: .any :: .any :: .any :: .any :: .any :: .any :: .any :: .any :: .any :: .any :: .any :: .any :: .any :: .any :: .any :: .any :: .any :: .any :: .any :: .any :: .any :: .any :: .any :: .any :: .any :: .any :: .any :: .any :: .any :: .any :: .any :: .any :: .any :: .any :: .any :: .any :: .any :: .any :: .any :: .any :: .any :: .any :: .any :: .any :: .any :: .any :: .any :: .any :: .any :: .any :: .any :: .any :: .any :: .any :: .any :: .any :: .any :: .any :: .any :: .any :: .any :: .any :: .any :: .any :: .any :: .any :: .any :: .any :: .any :: .any :: .any :: .any :: .any :: .any :: .any :: .any :: .any :: .any :: .any :: .any :: .any :: .any :: .any :: [])) (fun s_ => [none]) (fun s_ => s_ - posR (fun y => above x y) (srtTo l i)) (fun s_ => posR (fun y => above x y) (srtTo l i) ≤ s_ ∧ s_ ≤ (srtTo l i).length) (srtTo l i).length ⟨posR_le _ _, Nat.le_refl _⟩ ?_ (by first | rfl | (rfl)) ?_
       (focus ((repeat' (first | exact Wk.nil | refine Wk.any ?_ | (with_reducible refine Wk.same ?_) | refine Wk.of ?_ ?_)) <;> first | rfl | simp))
       rintro k hJ
       try dsimp only at hJ
       try dsimp only
       by_cases hlt : posR (fun y => above x y) (srtTo l i) < k
       case' pos =>
         have p2 := True.intro
         obtain ⟨y, hy⟩ := getD_some (l := (srtTo l i)) (i := k - 1) (by omega)
         obtain ⟨z1, z2, z3⟩ := ix_dn (k := k) (by omega) (by omega)
         have hgy : ((srtTo l i).map TPlace.en)[(IntKind.i64.wrap ((k : Int) - 1)).toNat]? = some y.en := by rw [z3, List.getElem?_map, hy]; rfl
         have hk : decide ((k : Int) > 0) = true := by simp; omega
         have hpy := posR_ge (p := (fun y => above x y)) (l := (srtTo l i)) (i := k - 1) (by omega) hy
         try dsimp only at hpy
       case' neg =>
         have q2 := True.intro
         have ek : posR (fun y => above x y) (srtTo l i) = k := by omega
         have hK1 : ((k : Nat) : Int) ≤ (((srtTo l i).map TPlace.en).length : Int) := by rw [List.length_map]; omega
         have hd0 : ((srtTo l i).map TPlace.en).drop ((k : Nat) : Int).toNat = ((srtTo l i).drop k).map TPlace.en := by rw [Int.toNat_natCast, List.map_drop]
         have ht0 : ((srtTo l i).map TPlace.en).take ((k : Nat) : Int).toNat = ((srtTo l i).take k).map TPlace.en := by rw [Int.toNat_natCast, List.map_take]
         have hc1 : Clo (.ro 4 (((srtTo l i).take k).map TPlace.en)) := clo_list TPlace.clo_en
         have hc2 : Clo (.ro 4 (((srtTo l i).drop k).map TPlace.en)) := clo_list TPlace.clo_en
         have hl1 : ((srtTo l i).take k).length ≤ 1048576 := by rw [List.length_take]; omega
         have hl2 : ((srtTo l i).drop k).length ≤ 1048576 := by rw [List.length_drop]; omega
         have hap : (srtTo l (i + 1)).map TPlace.en = ((srtTo l i).take k).map TPlace.en ++ [[I x.id, I x.at_.x, I x.at_.y, I x.rank]] ++ ((srtTo l i).drop k).map TPlace.en := by rw [srtTo_succ hx, insA_map, ek]; rfl
         have hclT : Clo (.ro 4 ((srtTo l (i + 1)).map TPlace.en)) := clo_list TPlace.clo_en
         have hcr : ∀ r ∈ ((srtTo l i).take k).map TPlace.en ++ [[I x.id, I x.at_.x, I x.at_.y, I x.rank]] ++ ((srtTo l i).drop k).map TPlace.en, ∀ y ∈ r, Clo y := hap ▸ clo_rows TPlace.clo_en
         rcases Nat.eq_zero_or_pos k with h0 | h0
         case' inl =>
           subst h0
           have hk : decide (((0 : Nat) : Int) > 0) = false := by decide
         case' inr =>
           obtain ⟨y, hy⟩ := getD_some (l := (srtTo l i)) (i := k - 1) (by omega)
           obtain ⟨z1, z2, z3⟩ := ix_dn (k := k) (by omega) (by omega)
           have hgy : ((srtTo l i).map TPlace.en)[(IntKind.i64.wrap ((k : Int) - 1)).toNat]? = some y.en := by rw [z3, List.getElem?_map, hy]; rfl
           have hk : decide ((k : Int) > 0) = true := by simp; omega
           have hpy := posR_lt (p := (fun y => above x y)) (l := (srtTo l i)) (y := y) (by omega) (by rw [ek]; exact hy)
           try dsimp only at hpy)
    | (have _ := a3
       clear a3
       refine AW.loopD hE (fun s_ : Nat => (.any :: I far :: .any :: .any :: .any :: .ro 4 ((srtA l).map TPlace.en) :: .any :: .any :: .own 1 (keptTo (srtA l) far s_).length :: I (s_ : Int) :: .any :: .any :: .any :: .any :: .any :: .any :: .any :: .any :: .any :: .any :: .any :: .any :: .any :: .any :: .any :: .any :: .any :: .any :: .any :: .any :: .any :: .any :: .any :: .any :: .any :: .any :: .any :: .any :: .any :: .any :: .any :: .any :: .any :: .any :: .any :: .any :: .any :: .any :: .any :: .any :: .any :: .any :: .any :: .any :: .any :: .any :: .any :: .any :: .any :: .any :: .any :: .any :: .any :: .any :: .any :: .any :: .any :: .any :: .any :: .any :: .any :: .any :: .any :: .any :: .any :: .any :: .any :: .any :: .any :: .any :: .any :: .any :: .any :: .any :: .any :: .any :: .any :: .any :: .any :: .any :: .any :: .any :: [])) (fun s_ => [none, some ⟨187, 4, (keptTo (srtA l) far s_).length, false, (keptTo (srtA l) far s_).map TPlace.en⟩]) (fun s_ => l.length - s_) (fun s_ => s_ ≤ l.length) 0 (Nat.zero_le _) ?_ (by first | rfl | (rfl)) ?_
       (focus ((repeat' (first | exact Wk.nil | refine Wk.any ?_ | (with_reducible refine Wk.same ?_) | refine Wk.of ?_ ?_)) <;> first | rfl | (simp [keptTo])))
       rintro j hJ
       try dsimp only at hJ
       try dsimp only
       by_cases hlt : j < l.length
       case' pos =>
         have a4 := True.intro
         obtain ⟨x, hx⟩ := getD_some (l := srtA l) (i := j) (by omega)
         have hg := map_get (f := TPlace.en) hx
         have ht : decide ((j : Int) < (((srtA l).map TPlace.en).length : Int)) = true := by simp; omega
         have hn := next_ix hlt (by omega)
         have hxm := (srtA_perm l).mem_iff.1 (List.mem_of_getElem? hx)
         have hxo := (hp.ok x hxm).2.1
         have hcle : Clo (.agg x.en) := Clo.agg x.clo_en
         have hkl := keptTo_len (srtA l) far j
       case' neg =>
         have q3 := True.intro
         have ht : decide ((j : Int) < (((srtA l).map TPlace.en).length : Int)) = false := by simp; omega
         obtain rfl : j = l.length := by omega
         have hka : keptTo (srtA l) far l.length = kept (srtA l) far := by rw [← srtA_len l, keptTo_all])
    | (have _ := a4
       clear a4
       refine AW.loopD hE (fun s_ : Nat => (.any :: I far :: .any :: .any :: .any :: .ro 4 ((srtA l).map TPlace.en) :: .any :: .any :: .own 1 (keptTo (srtA l) far j).length :: I (j : Int) :: B (((keptTo (srtA l) far j).take s_).all (farOk far x)) :: I (s_ : Int) :: .any :: .any :: .any :: .any :: .any :: .any :: .any :: .any :: .any :: .any :: .any :: .any :: .any :: .any :: .any :: .any :: .any :: .any :: .any :: .any :: .any :: .any :: .any :: .any :: .any :: .any :: .any :: .any :: .any :: .any :: .any :: .any :: .any :: .any :: .any :: .any :: .any :: .any :: .any :: .any :: .any :: .any :: .any :: .any :: .any :: .any :: .any :: .any :: .any :: .any :: .any :: .any :: .any :: .any :: .any :: .any :: .any :: .any :: .any :: .any :: .any :: .any :: .any :: .any :: .any :: .any :: .any :: .any :: .any :: .any :: .any :: .any :: .any :: .any :: .any :: .any :: .any :: .any :: .any :: .any :: [])) (fun s_ => [none, some ⟨187, 4, (keptTo (srtA l) far j).length, false, (keptTo (srtA l) far j).map TPlace.en⟩]) (fun s_ => (keptTo (srtA l) far j).length - s_) (fun s_ => s_ ≤ (keptTo (srtA l) far j).length) 0 (Nat.zero_le _) ?_ (by first | rfl | (rfl)) ?_
       (focus ((repeat' (first | exact Wk.nil | refine Wk.any ?_ | (with_reducible refine Wk.same ?_) | refine Wk.of ?_ ?_)) <;> first | rfl | simp))
       rintro k hJ
       try dsimp only at hJ
       try dsimp only
       by_cases hlt : k < (keptTo (srtA l) far j).length
       case' pos =>
         have p4 := True.intro
         obtain ⟨y, hy⟩ := getD_some (l := (keptTo (srtA l) far j)) (i := k) hlt
         have hgy : ((keptTo (srtA l) far j).map TPlace.en)[((k : Int)).toNat]? = some y.en := by rw [Int.toNat_natCast, List.getElem?_map, hy]; rfl
         have hty := lt_true (f := TPlace.en) hlt
         have hny := next_ix hlt (by omega)
         have hyo := (hp.ok y ((srtA_perm l).mem_iff.1 (keptTo_mem (List.mem_of_getElem? hy)))).2.1
         have hky : decide (far2 y.at_ x.at_ ≥ IntKind.i64.wrap (far * far)) = farOk far x y := by rw [(far_sq hfar).1]; rfl
         have hcly : Clo (.agg y.en) := Clo.agg y.clo_en
         have hixk : (k : Int) < (((keptTo (srtA l) far j).map TPlace.en).length : Int) := by rw [List.length_map]; omega
         rcases Bool.eq_false_or_eq_true (((keptTo (srtA l) far j).take k).all (farOk far x)) with hb | hb
         case' inl => have hat := (all_take_y (p := farOk far x) hy hb).trans hky.symm
         case' inr => have hat := all_take_n (p := farOk far x) hy hb
       case' neg =>
         have q4 := True.intro
         have hty := lt_false (f := TPlace.en) hlt
         obtain rfl : k = (keptTo (srtA l) far j).length := by omega
         rw [List.take_length]
         rcases Bool.eq_false_or_eq_true ((keptTo (srtA l) far j).all (farOk far x)) with hb | hb
         case' inl => obtain ⟨hm, hm2⟩ := keptTo_y (far := far) hx hb
         case' inr => obtain ⟨hm, hm2⟩ := keptTo_n (far := far) hx hb)
    | with_reducible refine ifP ?_
    | with_reducible refine ifN ?_) <;> (try dsimp only))
  all_goals first
    | (have _ := p2; refine ⟨k - 1, _, ⟨by omega, by omega⟩, by omega, ?_, rfl, ?_, ?_⟩; (focus ((repeat' (first | exact Wk.nil | refine Wk.any ?_ | (with_reducible refine Wk.same ?_) | refine Wk.of ?_ ?_)) <;> first | rfl | (rw [z2]; done))); (focus (exact fitsA)); (focus (exact fitsM_none (FitsM.nil _))))
    | (have _ := q2; refine ⟨i + 1, _, (by assumption), by omega, ?_, rfl, ?_, ?_⟩; (focus ((repeat' (first | exact Wk.nil | refine Wk.any ?_ | (with_reducible refine Wk.same ?_) | refine Wk.of ?_ ?_)) <;> first | rfl | (rw [hap] <;> rfl) | (rw [hn]; done))); (focus (exact fitsA)); (focus (exact fitsM_none (FitsM.nil _))))
    | (have _ := p4; refine ⟨k + 1, _, hlt, by omega, ?_, rfl, ?_, ?_⟩; (focus ((repeat' (first | exact Wk.nil | refine Wk.any ?_ | (with_reducible refine Wk.same ?_) | refine Wk.of ?_ ?_)) <;> first | rfl | (rw [hat]; done) | (rw [hny]; done))); (focus (exact fitsA)); (focus (exact fitsM_none (fitsM_cons (clo_rows TPlace.clo_en) (FitsM.nil _)))))
    | (have _ := q4; refine ⟨j + 1, _, (by assumption), by omega, ?_, by rw [hm, hm2] <;> rfl, ?_, ?_⟩; (focus ((repeat' (first | exact Wk.nil | refine Wk.any ?_ | (with_reducible refine Wk.same ?_) | refine Wk.of ?_ ?_)) <;> first | rfl | (rw [hm2]; done) | (rw [hn]; done))); (focus (exact fitsA)); (focus (exact fitsM_none (fitsM_cons (clo_rows TPlace.clo_en) (FitsM.nil _)))))
    | (have _ := q3; exact Fin.one rfl (RV.tmp (by rfl)) (clo_list TPlace.clo_en) ⟨by rw [hka], rfl⟩)

theorem far_i' (x y : TPlace) (hx : isp x.at_.x x.at_.y = true) (hy : isp y.at_.x y.at_.y = true) : VCalls Tryz.prog 162 [.agg x.at_.en, .agg y.at_.en] (fun r M => r = I (far2 y.at_ x.at_) ∧ M = []) := far2_comm x.at_ y.at_ ▸ far_i x.at_ y.at_ hx hy
theorem kept_i (l : List TPlace) (far : Int) (hp : PlOk l) (hfar : inr far 0 200 = true) : VCalls Tryz.prog 231 [.ro 4 (l.map TPlace.en), I far] (fun r M => r = .own 0 0 ∧ M = [some ⟨187, 4, 0, false, (kept (srtA l) far).map TPlace.en⟩]) := by
  refine VB Tryz.func231 52 (fun E hE => ?_)
  have a3 := True.intro
  have hclS : Clo (.ro 4 ((srtA l).map TPlace.en)) := clo_list TPlace.clo_en
  have hclo : Clo (.ro 4 (l.map TPlace.en)) := clo_list TPlace.clo_en
  have hpl := hp.len
  have hsl := srtA_len l
  repeat' ((first
    | (refine iAL ?_; first | refine AL.any ?_ | refine AL.any (h := POp.k Tryz.func211 (hc := frAb' _ (by assumption))) ?_ | refine AL.any (h := POp.k Tryz.func288 (hc := arePl_i _ (by assumption))) ?_ | refine AL.U ?_ | refine AL.F ?_ | refine AL.T ?_ | refine AL.T (h := POp.k Tryz.func145 (hc := inr_v _ _ _)) ?_ | refine AL.T (h := POp.k Tryz.func162 (hc := far_i' x y (by assumption) (by assumption))) ?_ | refine AL.W ?_ | refine AL.W (h := fun h => by (try rw [h]); exact POp.k Tryz.func145 (hc := inr_v _ _ _)) ?_ | refine AL.W (h := fun h => by (try rw [h]); exact POp.k Tryz.func162 (hc := far_i' x y (by assumption) (by assumption))) ?_ | refine AL.nil ?_)
    | (refine iAW ?_; first | (refine AW.c0 ?_; constructor) | refine AW.cT ?_ | refine AW.cF ?_ | (refine AW.c2 ?_ ?_ <;> (intro h; try simp only [bT, bF] at h)))
    | ((with_reducible show DL ..); first | refine DL.T (h := POp.quiet (QOp.fld_ref (off := 1) (n := 1) (by rfl) (by rfl) (by rfl) (by rfl) (by kernel_rfl))) ?_)
    | (have _ := a3
       clear a3
       refine AW.loopD hE (fun s_ : Nat => [.any, I far, .any, .any, .any, .own 0 (keptTo (srtA l) far s_).length, .any, .any, .any, .any, .any, .any, .any, .any, .any, .any, .any, .any, .any, .any, .any, .any, .ro 4 ((srtA l).map TPlace.en), I (((srtA l).map TPlace.en).length : Int), I (s_ : Int), .any, .any, .any, .any, .any, .any, .any, .any, .any, .any, .any, .any, .any, .any, .any, .any, .any, .any, .any, .any, .any, .any, .any, .any, .any, .any, .any, .any, .any]) (fun s_ => [some ⟨187, 4, (keptTo (srtA l) far s_).length, false, (keptTo (srtA l) far s_).map TPlace.en⟩]) (fun s_ => l.length - s_) (fun s_ => s_ ≤ l.length) 0 (Nat.zero_le _) ?_ (by first | rfl | (rfl)) ?_
       (focus ((repeat' (first | exact Wk.nil | refine Wk.any ?_ | (with_reducible refine Wk.same ?_) | refine Wk.of ?_ ?_)) <;> first | rfl | (simp [keptTo])))
       rintro j hJ
       try dsimp only at hJ
       try dsimp only
       by_cases hlt : j < l.length
       case' pos =>
         have a4 := True.intro
         obtain ⟨x, hx⟩ := getD_some (l := srtA l) (i := j) (by omega)
         have hg := map_get (f := TPlace.en) hx
         have ht : decide ((j : Int) < (((srtA l).map TPlace.en).length : Int)) = true := by simp; omega
         have hn := next_ix hlt (by omega)
         have hxm := (srtA_perm l).mem_iff.1 (List.mem_of_getElem? hx)
         have hxo := (hp.ok x hxm).2.1
         have hcle : Clo (.agg x.en) := Clo.agg x.clo_en
         have hkl := keptTo_len (srtA l) far j
       case' neg =>
         have q3 := True.intro
         have ht : decide ((j : Int) < (((srtA l).map TPlace.en).length : Int)) = false := by simp; omega
         obtain rfl : j = l.length := by omega
         have hka : keptTo (srtA l) far l.length = kept (srtA l) far := by rw [← srtA_len l, keptTo_all])
    | (have _ := a4
       clear a4
       refine AW.loopD hE (fun s_ : Nat => [.any, I far, .any, .any, .any, .own 0 (keptTo (srtA l) far j).length, .any, .ref 1 0 4 0 0, B (((keptTo (srtA l) far j).take s_).all (farOk far x)), .any, .any, .any, .any, .any, .any, .any, .any, .any, .any, .any, .any, .any, .ro 4 ((srtA l).map TPlace.en), I (((srtA l).map TPlace.en).length : Int), I (j : Int), .any, .any, .any, .own 0 (keptTo (srtA l) far j).length, I (((keptTo (srtA l) far j).map TPlace.en).length : Int), I (s_ : Int), .any, .any, .any, .any, .any, .any, .any, .any, .any, .any, .any, .any, .any, .any, .any, .any, .any, .any, .any, .any, .any, .any, .any]) (fun s_ => [some ⟨187, 4, (keptTo (srtA l) far j).length, false, (keptTo (srtA l) far j).map TPlace.en⟩, some ⟨187, 4, 0, true, [x.en]⟩]) (fun s_ => (keptTo (srtA l) far j).length - s_) (fun s_ => s_ ≤ (keptTo (srtA l) far j).length) 0 (Nat.zero_le _) ?_ (by first | rfl | (rfl)) ?_
       (focus ((repeat' (first | exact Wk.nil | refine Wk.any ?_ | (with_reducible refine Wk.same ?_) | refine Wk.of ?_ ?_)) <;> first | rfl | simp))
       rintro k hJ
       try dsimp only at hJ
       try dsimp only
       by_cases hlt : k < (keptTo (srtA l) far j).length
       case' pos =>
         have p4 := True.intro
         obtain ⟨y, hy⟩ := getD_some (l := (keptTo (srtA l) far j)) (i := k) hlt
         have hgy : ((keptTo (srtA l) far j).map TPlace.en)[((k : Int)).toNat]? = some y.en := by rw [Int.toNat_natCast, List.getElem?_map, hy]; rfl
         have hty := lt_true (f := TPlace.en) hlt
         have hny := next_ix hlt (by omega)
         have hyo := (hp.ok y ((srtA_perm l).mem_iff.1 (keptTo_mem (List.mem_of_getElem? hy)))).2.1
         have hky : decide (far2 y.at_ x.at_ ≥ IntKind.i64.wrap (far * far)) = farOk far x y := by rw [(far_sq hfar).1]; rfl
         have hcly : Clo (.agg y.en) := Clo.agg y.clo_en
         have hixk : (k : Int) < (((keptTo (srtA l) far j).map TPlace.en).length : Int) := by rw [List.length_map]; omega
         rcases Bool.eq_false_or_eq_true (((keptTo (srtA l) far j).take k).all (farOk far x)) with hb | hb
         case' inl => have hat := (all_take_y (p := farOk far x) hy hb).trans hky.symm
         case' inr => have hat := all_take_n (p := farOk far x) hy hb
       case' neg =>
         have q4 := True.intro
         have hty := lt_false (f := TPlace.en) hlt
         obtain rfl : k = (keptTo (srtA l) far j).length := by omega
         rw [List.take_length]
         rcases Bool.eq_false_or_eq_true ((keptTo (srtA l) far j).all (farOk far x)) with hb | hb
         case' inl => obtain ⟨hm, hm2⟩ := keptTo_y (far := far) hx hb
         case' inr => obtain ⟨hm, hm2⟩ := keptTo_n (far := far) hx hb)
    | with_reducible refine ifP ?_
    | with_reducible refine ifN ?_) <;> (try dsimp only))
  all_goals first
    | (have _ := p4; refine ⟨k + 1, _, hlt, by omega, ?_, rfl, ?_, ?_⟩; (focus ((repeat' (first | exact Wk.nil | refine Wk.any ?_ | (with_reducible refine Wk.same ?_) | refine Wk.of ?_ ?_)) <;> first | rfl | (rw [hat]; done) | (rw [hny]; done))); (focus (exact fitsA)); (focus (exact fitsM_cons (clo_rows TPlace.clo_en) (fitsM_cons (clo_one x.clo_en) (FitsM.nil _)))))
    | (have _ := q4; refine ⟨j + 1, _, (by assumption), by omega, ?_, by rw [hm, hm2] <;> rfl, ?_, ?_⟩; (focus ((repeat' (first | exact Wk.nil | refine Wk.any ?_ | (with_reducible refine Wk.same ?_) | refine Wk.of ?_ ?_)) <;> first | rfl | (rw [hm2]; done) | (rw [hn]; done))); (focus (exact fitsA)); (focus (exact fitsM_cons (clo_rows TPlace.clo_en) (FitsM.nil _))))
    | (have _ := q3; exact Fin.r1 [0] rfl (RV.tmp (by rfl)) ⟨rfl, by rw [hka] <;> rfl⟩)

theorem kept_i' (l : List TPlace) (far : Int) (hp : PlOk l) (hfar : inr far 0 200 = true) : VCalls Tryz.prog 231 [.ro 4 (l.map TPlace.en), I far] (fun r M => r = .ro 4 ((kept (srtA l) far).map TPlace.en) ∧ M = []) := VCalls.frz (kept_i l far hp hfar) vwlT
theorem thin_i (l : List TPlace) (far : Int) (hp : PlOk l) (hfar : inr far 0 200 = true) : VCalls Tryz.prog 208 [.ro 4 (l.map TPlace.en), I far] (fun r M => r = .own 0 0 ∧ M = [some ⟨3, 1, 0, false, (thinI l far).map enI⟩]) := by
  refine VB Tryz.func208 24 (fun E hE => ?_)
  have hclo : Clo (.ro 4 (l.map TPlace.en)) := clo_list TPlace.clo_en
  have hpl := hp.len
  have hkl := thin_len l far
  have hclK : Clo (.ro 4 (((kept (srtA l) far)).map TPlace.en)) := clo_list TPlace.clo_en
  repeat' ((first
    | (refine iAL ?_; first | refine AL.any ?_ | refine AL.any (h := POp.H [0] Tryz.func62 (hc := sortI ((kept (srtA l) far).map (·.id)) (by rw [List.length_map]; omega))) ?_ | refine AL.any (h := POp.k Tryz.func231 (hc := kept_i' _ _ (by assumption) (by assumption))) ?_ | refine AL.nil ?_)
    | (refine iAW ?_; first | (refine AW.c0 ?_; constructor) | refine AW.cT ?_ | refine AW.cF ?_ | (refine AW.c2 ?_ ?_ <;> (intro h; try simp only [bT, bF] at h)))
    | (refine AW.loopD hE (fun i : Nat => [.any, .any, .any, .any, .any, .own 0 i, .any, .any, .any, .any, .any, .ro 4 (((kept (srtA l) far)).map TPlace.en), I (((kept (srtA l) far).map TPlace.en).length : Int), I (i : Int), .any, .any, .any, .any, .any, .any, .any, .any, .any, .any, .any, .any]) (fun i => [some ⟨3, 1, i, false, (((kept (srtA l) far).map (·.id)).take i).map enI⟩]) (fun i => (kept (srtA l) far).length - i) (fun i => i ≤ (kept (srtA l) far).length) 0 (by simp) ?_ (by first | rfl | (simp [fil_zero]; done)) ?_
       (focus ((repeat' (first | exact Wk.nil | refine Wk.any ?_ | (with_reducible refine Wk.same ?_) | refine Wk.of ?_ ?_)) <;> first | rfl | (rfl)))
       intro i hi
       by_cases hlt : i < (kept (srtA l) far).length
       case' pos =>
         have hP := True.intro
         obtain ⟨x, hx⟩ : ∃ x, (kept (srtA l) far)[i]? = some x := ⟨_, List.getElem?_eq_getElem hlt⟩
         have hg := map_get (f := TPlace.en) hx
         have ht := lt_true (f := TPlace.en) hlt
         have hn := next_ix hlt (by omega)
         have hid : ((kept (srtA l) far).map (·.id))[i]? = some x.id := by rw [List.getElem?_map, hx]; rfl
         have hm : (((kept (srtA l) far).map (·.id)).take (i + 1)).map enI = (((kept (srtA l) far).map (·.id)).take i).map enI ++ [[I x.id]] := by rw [take_succ_of hid, List.map_append]; rfl
       case' neg =>
         have hQ := True.intro
         have ht := lt_false (f := TPlace.en) hlt
         have e : i = (kept (srtA l) far).length := by omega
         subst e
         try rw [List.take_length]
         have htk : ((kept (srtA l) far).map (·.id)).take (kept (srtA l) far).length = ((kept (srtA l) far).map (·.id)) := by rw [← List.length_map (f := fun x : TPlace => x.id), List.take_length]
         rw [htk])
    | with_reducible refine ifP ?_
    | with_reducible refine ifN ?_) <;> (try dsimp only))
  all_goals first
    | (have _ := hP; (refine ⟨i + 1, _, hlt, by omega, ?_, by rw [hm] <;> rfl, ?_, ?_⟩; (focus ((repeat' (first | exact Wk.nil | refine Wk.any ?_ | (with_reducible refine Wk.same ?_) | refine Wk.of ?_ ?_)) <;> (first | rfl | (rw [hn]; done)))); (focus (exact fitsA)); (focus (exact fits_row (clo_rows clo_enI)))))
    | (have _ := hQ; exact Fin.r1 [0] rfl (RV.tmp (by rfl)) ⟨rfl, by unfold thinI; rw [← merge_put (thin_nodup hp far)] <;> rfl⟩)

theorem thin_s (l : List TPlace) (far : Int) (hp : PlOk l) (hfar : inr far 0 200 = true) : VCalls Tryz.prog 200 [.ro 4 (l.map TPlace.en), I far] (fun r M => r = .ro 1 ((thinI l far).map enI) ∧ M = []) := by
  refine VB Tryz.func200 33 (fun E hE => ?_)
  have hclo : Clo (.ro 4 (l.map TPlace.en)) := clo_list TPlace.clo_en
  have hpl := hp.len
  have hkl := thin_len l far
  have hclK : Clo (.ro 4 (((kept (srtA l) far)).map TPlace.en)) := clo_list TPlace.clo_en
  repeat' ((first
    | (refine iAL ?_; first | refine AL.any (h := POp.lit0 (RowRun.empty (by rfl) (by rfl) rwk56) clo_rows_nil) ?_ | refine AL.any ?_ | refine AL.any (h := POp.k Tryz.func54 (hc := put14_s' (putIs [] (((kept (srtA l) far).map (·.id)).take i)) x.id (by omega))) ?_ | refine AL.any (h := POp.k Tryz.func203 (hc := kept_s _ _ (by assumption) (by assumption))) ?_ | refine AL.any (h := POp.k Tryz.func268 (hc := arePl_s _ (by assumption))) ?_ | refine AL.U ?_ | refine AL.F ?_ | refine AL.T ?_ | refine AL.T (h := POp.k Tryz.func96 (hc := inr_s _ _ _)) ?_ | refine AL.W ?_ | refine AL.W (h := fun h => by (try rw [h]); exact POp.k Tryz.func96 (hc := inr_s _ _ _)) ?_ | refine AL.nil ?_)
    | (refine iAW ?_; first | (refine AW.c0 ?_; constructor) | refine AW.cT ?_ | refine AW.cF ?_ | (refine AW.c2 ?_ ?_ <;> (intro h; try simp only [bT, bF] at h)))
    | (refine AW.loopD hE (fun i : Nat => [.any, .any, .any, .any, .any, .ro 1 ((putIs [] (((kept (srtA l) far).map (·.id)).take i)).map enI), .ro 4 (((kept (srtA l) far)).map TPlace.en), I (i : Int), .any, .any, .any, .any, .any, .any, .any, .any, .any, .any, .any, .any, .any, .any, .any, .any, .any, .any, .any, .any, .any, .any, .any, .any, .any, .any, .any]) (fun i => []) (fun i => (kept (srtA l) far).length - i) (fun i => i ≤ (kept (srtA l) far).length) 0 (by simp) ?_ (by first | rfl | (simp [fil_zero]; done)) ?_
       (focus ((repeat' (first | exact Wk.nil | refine Wk.any ?_ | (with_reducible refine Wk.same ?_) | refine Wk.of ?_ ?_)) <;> first | rfl | (rfl)))
       intro i hi
       by_cases hlt : i < (kept (srtA l) far).length
       case' pos =>
         have hP := True.intro
         obtain ⟨x, hx⟩ : ∃ x, (kept (srtA l) far)[i]? = some x := ⟨_, List.getElem?_eq_getElem hlt⟩
         have hg := map_get (f := TPlace.en) hx
         have ht := lt_true (f := TPlace.en) hlt
         have hn := next_ix hlt (by omega)
         have hid : ((kept (srtA l) far).map (·.id))[i]? = some x.id := by rw [List.getElem?_map, hx]; rfl
         have hm : (((kept (srtA l) far).map (·.id)).take (i + 1)).map enI = (((kept (srtA l) far).map (·.id)).take i).map enI ++ [[I x.id]] := by rw [take_succ_of hid, List.map_append]; rfl
         have hps := putIs_take1 hid
         have hpl2 := putIs_len (((kept (srtA l) far).map (·.id)).take i) []
         have htl : (((kept (srtA l) far).map (·.id)).take i).length ≤ i := by rw [List.length_take]; omega
         have hpl3 : (putIs [] (((kept (srtA l) far).map (·.id)).take i)).length ≤ 1048576 := by simp only [List.length_nil] at hpl2; omega
         have hclA : Clo (.ro 1 ((putIs [] (((kept (srtA l) far).map (·.id)).take i)).map enI)) := clo_list clo_enI
         have hclB : Clo (.ro 1 ((putI (putIs [] (((kept (srtA l) far).map (·.id)).take i)) x.id).map enI)) := clo_list clo_enI
         have hclC : Clo (.ro 1 ((putIs [] (((kept (srtA l) far).map (·.id)).take (i + 1))).map enI)) := clo_list clo_enI
       case' neg =>
         have hQ := True.intro
         have ht := lt_false (f := TPlace.en) hlt
         have e : i = (kept (srtA l) far).length := by omega
         subst e
         try rw [List.take_length]
         have htk : ((kept (srtA l) far).map (·.id)).take (kept (srtA l) far).length = ((kept (srtA l) far).map (·.id)) := by rw [← List.length_map (f := fun x : TPlace => x.id), List.take_length]
         rw [htk])
    | with_reducible refine ifP ?_
    | with_reducible refine ifN ?_) <;> (try dsimp only))
  all_goals first
    | (have _ := hP; (refine ⟨i + 1, _, hlt, by omega, ?_, rfl, ?_, ?_⟩; (focus ((repeat' (first | exact Wk.nil | refine Wk.any ?_ | (with_reducible refine Wk.same ?_) | refine Wk.of ?_ ?_)) <;> (first | rfl | (rw [hn]; done) | (rw [hps]; done)))); (focus (exact fitsA)); (focus (exact FitsM.nil _))))
    | (have _ := hQ; exact Fin.one rfl (RV.tmp (by rfl)) (clo_list clo_enI) ⟨rfl, rfl⟩)

def has (l : List Int) (n : Int) : Bool := l.any fun y => y == n
theorem has_iff {l : List Int} {n : Int} : has l n = true ↔ n ∈ l := by simp [has]
theorem any_take_n {α : Type} {l : List α} {p : α → Bool} {i : Nat} {x : α} (hx : l[i]? = some x) (h : (l.take i).any p = false) (hp : p x = false) : (l.take (i + 1)).any p = false := by
  rw [take_succ_of hx, List.any_append, h]
  simp [hp]
theorem any_yes {α : Type} {l : List α} {p : α → Bool} {i : Nat} {x : α} (hx : l[i]? = some x) (hp : p x = true) : l.any p = true := List.any_eq_true.2 ⟨x, List.mem_of_getElem? hx, hp⟩
def ixI (l : List Int) (n : Int) : Int := if has l n = true then ((l.findIdx fun y => y == n : Nat) : Int) else -1
theorem findIdx_at {α : Type} {p : α → Bool} : ∀ {l : List α} {i : Nat} {x : α}, l[i]? = some x → p x = true → (l.take i).any p = false → l.findIdx p = i
  | [], i, x, hx, _, _ => by simp at hx
  | a :: l, 0, x, hx, hp, _ => by
    simp at hx
    subst hx
    rw [List.findIdx_cons, hp]
    rfl
  | a :: l, i + 1, x, hx, hp, hn => by
    rw [List.take_succ_cons, List.any_cons, Bool.or_eq_false_iff] at hn
    rw [List.findIdx_cons, hn.1, findIdx_at (by simpa using hx) hp hn.2]
    rfl
theorem ixI_y {l : List Int} {n : Int} {i : Nat} {x : Int} (hx : l[i]? = some x) (hp : (x == n) = true) (hn : ((l.take i).any fun y => y == n) = false) : ixI l n = (i : Int) := by
  rw [ixI, if_pos (show has l n = true from any_yes hx hp), findIdx_at hx hp hn]
theorem ixI_n {l : List Int} {n : Int} (hn : ((l.take l.length).any fun y => y == n) = false) : ixI l n = -1 := by
  rw [List.take_length] at hn
  rw [ixI, if_neg (by rw [has, hn]; decide)]
theorem ixI_ge (l : List Int) (n : Int) : decide (ixI l n ≥ 0) = has l n := by
  unfold ixI
  cases h : has l n
  · rw [if_neg (by decide)]; decide
  · rw [if_pos rfl]; simp
theorem beq_symm (a b : Int) : (a == b) = (b == a) := by
  rw [Bool.eq_iff_iff]
  simp
  exact ⟨fun h => h.symm, fun h => h.symm⟩
def rkdTo (l : List TFeature) (r : Int) (i : Nat) : List TFeature := (l.take i).filter fun x => decide (x.rank ≥ r)
def rkd (l : List TFeature) (r : Int) : List TFeature := l.filter fun x => decide (x.rank ≥ r)
theorem rkdTo_all (l : List TFeature) (r : Int) : rkdTo l r l.length = rkd l r := by rw [rkdTo, List.take_length]; rfl
theorem filt_y {α : Type} {l : List α} {p : α → Bool} {i : Nat} {x : α} (hx : l[i]? = some x) (h : p x = true) : (l.take (i + 1)).filter p = (l.take i).filter p ++ [x] := by
  rw [take_succ_of hx, List.filter_append]
  simp [List.filter_cons, h]
theorem filt_n {α : Type} {l : List α} {p : α → Bool} {i : Nat} {x : α} (hx : l[i]? = some x) (h : p x = false) : (l.take (i + 1)).filter p = (l.take i).filter p := by
  rw [take_succ_of hx, List.filter_append]
  simp [List.filter_cons, h]
theorem filt_len {α : Type} (l : List α) (p : α → Bool) (i : Nat) : ((l.take i).filter p).length ≤ i := Nat.le_trans (List.length_filter_le _ _) (by rw [List.length_take]; omega)
theorem rkd_src {l : List TFeature} (hS : isSource l = true) (r : Int) : isSource (rkd l r) = true := src_filter hS _
theorem rkd_gd {l : List TFeature} (hg : ∀ x ∈ l, x.gd) (r : Int) : ∀ x ∈ rkd l r, x.gd := fun x hx => hg x (List.mem_filter.1 hx).1
def thn (l : List TFeature) (v : TLevel) : List Int := thinI (plsOf (rkd l v.rank)) v.far
def shP (l : List TFeature) (v : TLevel) (x : TFeature) : Bool := (x.kind != 1) || has (thn l v) x.id
def shTo (l : List TFeature) (v : TLevel) (i : Nat) : List Int := (((rkd l v.rank).take i).filter (shP l v)).map (·.id)
def shown (l : List TFeature) (v : TLevel) : List Int := ((rkd l v.rank).filter (shP l v)).map (·.id)
theorem shTo_all (l : List TFeature) (v : TLevel) : shTo l v (rkd l v.rank).length = shown l v := by rw [shTo, List.take_length]; rfl
theorem shTo_y {l : List TFeature} {v : TLevel} {i : Nat} {x : TFeature} (hx : (rkd l v.rank)[i]? = some x) (h : shP l v x = true) : (shTo l v (i + 1)).map enI = (shTo l v i).map enI ++ [[I x.id]] ∧ (shTo l v (i + 1)).length = (shTo l v i).length + 1 := by
  unfold shTo
  rw [filt_y hx h]
  simp
theorem shTo_n {l : List TFeature} {v : TLevel} {i : Nat} {x : TFeature} (hx : (rkd l v.rank)[i]? = some x) (h : shP l v x = false) : (shTo l v (i + 1)).map enI = (shTo l v i).map enI ∧ (shTo l v (i + 1)).length = (shTo l v i).length := by
  unfold shTo
  rw [filt_n hx h]
  exact ⟨rfl, rfl⟩
theorem shTo_len (l : List TFeature) (v : TLevel) (i : Nat) : (shTo l v i).length ≤ i := by
  unfold shTo
  rw [List.length_map]
  exact filt_len _ _ _
theorem thn_len {l : List TFeature} (hS : isSource l = true) (v : TLevel) : (thn l v).length ≤ 16 := by
  have h1 := putIs_len ((kept (srtA (plsOf (rkd l v.rank))) v.far).map (·.id)) []
  have h2 := thin_len (plsOf (rkd l v.rank)) v.far
  have h3 := (plsOf_ok (rkd_src hS v.rank)).len
  unfold thn thinI
  simp at h1
  omega
def npTo (l : List TFeature) (v : TLevel) (i : Nat) : List Int := thn l v ++ (((rkd l v.rank).take i).filter fun x => x.kind != 1).map (·.id)
theorem npTo_y {l : List TFeature} {v : TLevel} {i : Nat} {x : TFeature} (hx : (rkd l v.rank)[i]? = some x) (h : (x.kind != 1) = true) : (npTo l v (i + 1)).map enI = (npTo l v i).map enI ++ [[I x.id]] := by
  unfold npTo
  rw [filt_y hx h]
  simp
theorem npTo_n {l : List TFeature} {v : TLevel} {i : Nat} {x : TFeature} (hx : (rkd l v.rank)[i]? = some x) (h : (x.kind != 1) = false) : npTo l v (i + 1) = npTo l v i := by
  unfold npTo
  rw [filt_n hx h]
theorem npTo_len {l : List TFeature} (hS : isSource l = true) (v : TLevel) (i : Nat) : (npTo l v i).length ≤ 16 + i := by
  have h1 := thn_len hS v
  have h2 := filt_len (rkd l v.rank) (fun x => x.kind != 1) i
  unfold npTo
  simp only [List.length_append, List.length_map]
  omega
theorem thn_mem {l : List TFeature} {v : TLevel} {n : Int} (h : n ∈ thn l v) : ∃ x ∈ rkd l v.rank, (x.kind == 1) = true ∧ x.id = n := by
  obtain ⟨_, h2⟩ := putIs_asc (xs := (kept (srtA (plsOf (rkd l v.rank))) v.far).map (·.id)) (l := []) List.Pairwise.nil
  have hm := (h2 n).1 h
  simp only [List.not_mem_nil, or_false] at hm
  obtain ⟨p, hp, rfl⟩ := List.mem_map.1 hm
  have hp2 := (srtA_perm _).mem_iff.1 ((kept_sub _ _).subset hp)
  unfold plsOf at hp2
  obtain ⟨x, hx, rfl⟩ := List.mem_map.1 hp2
  obtain ⟨hx1, hx2⟩ := List.mem_filter.1 hx
  exact ⟨x, hx1, hx2, rfl⟩
theorem shown_merge {l : List TFeature} (hS : isSource l = true) (v : TLevel) : ((npTo l v (rkd l v.rank).length).mergeSort fun x y => decide (x ≤ y)) = shown l v := by
  obtain ⟨h1, h2, h3⟩ := (src_iff _).1 (rkd_src hS v.rank)
  have hid : ∀ x ∈ rkd l v.rank, ∀ y ∈ rkd l v.rank, x.id = y.id → x = y := fun x hx y hy e => by
    obtain ⟨i, hi, rfl⟩ := List.mem_iff_getElem.1 hx
    obtain ⟨j, hj, rfl⟩ := List.mem_iff_getElem.1 hy
    rcases Nat.lt_trichotomy i j with h | h | h
    · have := List.pairwise_iff_getElem.1 h3 i j hi hj h; omega
    · subst h; rfl
    · have := List.pairwise_iff_getElem.1 h3 j i hj hi h; omega
  have hnd : (npTo l v (rkd l v.rank).length).Pairwise (· ≠ ·) := by
    unfold npTo
    rw [List.take_length]
    refine List.pairwise_append.2 ⟨?_, ?_, fun a ha b hb e => ?_⟩
    · obtain ⟨g, _⟩ := putIs_asc (xs := (kept (srtA (plsOf (rkd l v.rank))) v.far).map (·.id)) (l := []) List.Pairwise.nil
      exact g.imp fun h => by omega
    · rw [List.pairwise_map]
      exact (h3.filter _).imp fun h => by omega
    · obtain ⟨x, hx, hk, rfl⟩ := thn_mem ha
      obtain ⟨y, hy, hye⟩ := List.mem_map.1 hb
      obtain ⟨hy1, hy2⟩ := List.mem_filter.1 hy
      have := hid x hx y hy1 (by rw [e, hye])
      subst this
      simp at hk hy2
      exact hy2 hk
  have hsh : (shown l v).Pairwise (· < ·) := by
    unfold shown
    rw [List.pairwise_map]
    exact h3.filter _
  refine asc_ext sto_int (merge_asc hnd) hsh fun n => ?_
  rw [(List.mergeSort_perm _ _).mem_iff]
  unfold npTo shown
  rw [List.take_length, List.mem_append, List.mem_map, List.mem_map]
  constructor
  · rintro (h | ⟨x, hx, rfl⟩)
    · obtain ⟨x, hx, hk, rfl⟩ := thn_mem h
      exact ⟨x, List.mem_filter.2 ⟨hx, by unfold shP; rw [Bool.or_eq_true]; exact .inr (has_iff.2 h)⟩, rfl⟩
    · obtain ⟨hx1, hx2⟩ := List.mem_filter.1 hx
      exact ⟨x, List.mem_filter.2 ⟨hx1, by unfold shP; rw [Bool.or_eq_true]; exact .inl hx2⟩, rfl⟩
  · rintro ⟨x, hx, rfl⟩
    obtain ⟨hx1, hx2⟩ := List.mem_filter.1 hx
    unfold shP at hx2
    rw [Bool.or_eq_true] at hx2
    rcases hx2 with h | h
    · exact .inr ⟨x, List.mem_filter.2 ⟨hx1, h⟩, rfl⟩
    · exact .inl (has_iff.1 h)

theorem has_s (l : List Int) (n : Int) (hl : l.length ≤ 1048576) : VCalls Tryz.prog 135 [.ro 1 (l.map enI), I n] (fun r M => r = B (has l n) ∧ M = []) := by
  refine VB Tryz.func135 16 (fun E hE => ?_)
  have hclo : Clo (.ro 1 (l.map enI)) := clo_list clo_enI
  repeat' ((first
    | (refine iAL ?_; first | refine AL.any ?_ | refine AL.nil ?_)
    | (refine iAW ?_; first | (refine AW.c0 ?_; constructor) | refine AW.cT ?_ | refine AW.cF ?_ | (refine AW.c2 ?_ ?_ <;> (intro h; try simp only [bT, bF] at h)))
    | (refine AW.loopD hE (fun i : Nat => [.ro 1 (l.map enI), I n, .any, .any, .any, I (i : Int), .any, .any, .any, .any, .any, .any, .any, .any, .any, .any, .any, .any]) (fun i => []) (fun i => l.length - i) (fun i => i ≤ l.length ∧ (l.take i).any (fun y => y == n) = false) 0 ⟨Nat.zero_le _, rfl⟩ ?_ (by first | rfl | (simp [fil_zero]; done)) ?_
       (focus ((repeat' (first | exact Wk.nil | refine Wk.any ?_ | (with_reducible refine Wk.same ?_) | refine Wk.of ?_ ?_)) <;> first | rfl | (rfl)))
       intro i hi
       have hi2 := hi.2
       by_cases hlt : i < l.length
       case' pos =>
         have hP := True.intro
         obtain ⟨x, hx⟩ : ∃ x, l[i]? = some x := ⟨_, List.getElem?_eq_getElem hlt⟩
         have hg := map_get (f := enI) hx
         have ht := lt_true (f := enI) hlt
         have hn := next_ix hlt (by omega)
         rcases Bool.eq_false_or_eq_true (x == n) with hxn | hxn
         case' inr => have hjn := any_take_n hx hi2 hxn
       case' neg =>
         have hQ := True.intro
         have ht := lt_false (f := enI) hlt
         have e : i = l.length := by omega
         subst e
         try rw [List.take_length])
    | with_reducible refine ifP ?_
    | with_reducible refine ifN ?_) <;> (try dsimp only))
  all_goals first
    | (have _ := hP; (refine ⟨i + 1, _, ⟨hlt, hjn⟩, by omega, ?_, rfl, ?_, ?_⟩; (focus ((repeat' (first | exact Wk.nil | refine Wk.any ?_ | (with_reducible refine Wk.same ?_) | refine Wk.of ?_ ?_)) <;> (first | rfl | (rw [hn]; done)))); (focus (exact fitsA)); (focus (exact FitsM.nil _))))
    | (have _ := hP; exact Fin.one rfl (RV.tmp (by rfl)) (clo_c _) ⟨by rw [has, any_yes hx hxn], rfl⟩)
    | (have _ := hQ; exact Fin.one rfl (RV.tmp (by rfl)) (clo_c _) ⟨by rw [List.take_length] at hi2; rw [has, hi2], rfl⟩)

theorem ix_i (l : List Int) (n : Int) (hl : l.length ≤ 1048576) : VCalls Tryz.prog 209 [.ro 1 (l.map enI), I n] (fun r M => r = I (ixI l n) ∧ M = []) := by
  refine VB Tryz.func209 17 (fun E hE => ?_)
  have hclo : Clo (.ro 1 (l.map enI)) := clo_list clo_enI
  repeat' ((first
    | (refine iAL ?_; first | refine AL.any ?_ | refine AL.nil ?_)
    | (refine iAW ?_; first | (refine AW.c0 ?_; constructor) | refine AW.cT ?_ | refine AW.cF ?_ | (refine AW.c2 ?_ ?_ <;> (intro h; try simp only [bT, bF] at h)))
    | (refine AW.loopD hE (fun i : Nat => [.ro 1 (l.map enI), I n, .any, .any, .any, .any, .any, I ((l.map enI).length : Int), I (i : Int), .any, .any, .any, .any, .any, .any, .any, .any, .any, .any]) (fun i => []) (fun i => l.length - i) (fun i => i ≤ l.length ∧ (l.take i).any (fun y => y == n) = false) 0 ⟨Nat.zero_le _, rfl⟩ ?_ (by first | rfl | (simp [fil_zero]; done)) ?_
       (focus ((repeat' (first | exact Wk.nil | refine Wk.any ?_ | (with_reducible refine Wk.same ?_) | refine Wk.of ?_ ?_)) <;> first | rfl | (rfl)))
       intro i hi
       have hi2 := hi.2
       by_cases hlt : i < l.length
       case' pos =>
         have hP := True.intro
         obtain ⟨x, hx⟩ : ∃ x, l[i]? = some x := ⟨_, List.getElem?_eq_getElem hlt⟩
         have hg := map_get (f := enI) hx
         have ht := lt_true (f := enI) hlt
         have hn := next_ix hlt (by omega)
         rcases Bool.eq_false_or_eq_true (n == x) with hxn | hxn
         case' inr => have hjn := any_take_n (p := fun y => y == n) hx hi2 (by rw [beq_symm]; exact hxn)
       case' neg =>
         have hQ := True.intro
         have ht := lt_false (f := enI) hlt
         have e : i = l.length := by omega
         subst e
         try rw [List.take_length])
    | with_reducible refine ifP ?_
    | with_reducible refine ifN ?_) <;> (try dsimp only))
  all_goals first
    | (have _ := hP; (refine ⟨i + 1, _, ⟨hlt, hjn⟩, by omega, ?_, rfl, ?_, ?_⟩; (focus ((repeat' (first | exact Wk.nil | refine Wk.any ?_ | (with_reducible refine Wk.same ?_) | refine Wk.of ?_ ?_)) <;> (first | rfl | (rw [hn]; done)))); (focus (exact fitsA)); (focus (exact FitsM.nil _))))
    | (have _ := hP; exact Fin.one rfl (RV.tmp (by rfl)) (clo_c _) ⟨by rw [ixI_y hx (by rw [beq_symm]; exact hxn) hi2], rfl⟩)
    | (have _ := hQ; exact Fin.one rfl (RV.tmp (by rfl)) (clo_c _) ⟨by rw [ixI_n hi2], rfl⟩)

theorem has_i (l : List Int) (n : Int) (hl : l.length ≤ 1048576) : VCalls Tryz.prog 141 [.ro 1 (l.map enI), I n] (fun r M => r = B (has l n) ∧ M = []) := by
  refine VB Tryz.func141 7 (fun E hE => ?_)
  have hclo : Clo (.ro 1 (l.map enI)) := clo_list clo_enI
  repeat' ((first
    | (refine iAL ?_; first | refine AL.any ?_ | refine AL.any (h := POp.k Tryz.func209 (hc := ix_i _ _ (by omega))) ?_ | refine AL.nil ?_)
    | (refine iAW ?_; first | (refine AW.c0 ?_; constructor))) <;> (try dsimp only))
  all_goals exact Fin.one rfl (RV.tmp (by rfl)) (clo_c _) ⟨by rw [← ixI_ge], rfl⟩

theorem cloneF' (x : TFeature) (hs : x.sm) : VCalls Tryz.prog 118 [.agg x.en] (fun r M => r = .agg x.en ∧ M = []) := VCalls.frz (cloneF x hs) (by repeat' (first | exact VwL.nil | refine VwL.cons ?_ ?_ | (refine View.own (by rfl) (by rfl) (by rfl) (by rfl) ?_ ?_ <;> first | exact DCl.b rfl | exact DCl.map (fun _ => rfl) | assumption | rfl | exact TPoint.und | exact TSegment.und | exact TBox.und | exact TFeature.und | exact TMeet.und | exact TPlace.und | exact TCover.und | exact TLabel.und | exact TPiece.und | exact TLevel.und | exact TChart.und | exact TReason.und | exact TEdit.und | exact TEntry.und | exact TEdition.und | exact TListing.und | exact TAtlas.und | exact TEvent.und | exact TWindow.und | exact und_nil | exact und_I | assumption) | refine View.agg' ?_ | exact View.same (by first | exact clo_of (by rfl) | assumption | exact clo_fn _) | exact View.nil))
theorem rkd_s (l : List TFeature) (rk : Int) (hS : isSource l = true) (hg0 : ∀ x ∈ l, x.gd) : VCalls Tryz.prog 199 [.ro 5 (l.map TFeature.en), I rk] (fun r M => r = .ro 5 ((rkd l rk).map TFeature.en) ∧ M = []) := by
  refine VB Tryz.func199 28 (fun E hE => ?_)
  have hclo : Clo (.ro 5 (l.map TFeature.en)) := clo_list TFeature.clo_en
  have hsl := src_len hS
  repeat' ((first
    | (refine iAL ?_; first | refine AL.any ?_ | refine AL.any (h := POp.k Tryz.func108 (hc := cloneF_s' x (by assumption))) ?_ | refine AL.nil ?_)
    | (refine iAW ?_; first | (refine AW.freezeRet (t := 4) (id := 0) rfl rfl rfl rfl (clo_rows TFeature.clo_en) ?_; (try simp only [List.take_length]); try dsimp only [dput, List.set, cond_true, cond_false, Nat.zero_add, Nat.add_zero, Nat.reduceAdd, splice, List.take, List.drop, List.length, List.nil_append, List.cons_append, List.append, TPoint.en, TSegment.en, TBox.en, TFeature.en, TMeet.en, TPlace.en, TCover.en, TLabel.en, TPiece.en, TLevel.en, TChart.en, TReason.en, TEdit.en, TEntry.en, TEdition.en, TListing.en, TAtlas.en, TEvent.en, TWindow.en]) | (refine AW.c0 ?_; constructor) | refine AW.cT ?_ | refine AW.cF ?_ | (refine AW.c2 ?_ ?_ <;> (intro h; try simp only [bT, bF] at h)))
    | (refine AW.loopD hE (fun i : Nat => [.ro 5 (l.map TFeature.en), I rk, .any, .any, .any, .own 0 (rkdTo l rk i).length, I (i : Int), .any, .any, .any, .any, .any, .any, .any, .any, .any, .any, .any, .any, .any, .any, .any, .any, .any, .any, .any, .any, .any, .any, .any]) (fun i => [some ⟨81, 5, (rkdTo l rk i).length, false, (rkdTo l rk i).map TFeature.en⟩]) (fun i => l.length - i) (fun i => i ≤ l.length) 0 (by simp) ?_ (by first | rfl | (simp [fil_zero]; done)) ?_
       (focus ((repeat' (first | exact Wk.nil | refine Wk.any ?_ | (with_reducible refine Wk.same ?_) | refine Wk.of ?_ ?_)) <;> first | rfl | (rfl)))
       intro i hi
       by_cases hlt : i < l.length
       case' pos =>
         have hP := True.intro
         obtain ⟨x, hx⟩ : ∃ x, l[i]? = some x := ⟨_, List.getElem?_eq_getElem hlt⟩
         have hg := map_get (f := TFeature.en) hx
         have ht := lt_true (f := TFeature.en) hlt
         have hn := next_ix hlt (by omega)
         have hgx := hg0 x (List.mem_of_getElem? hx)
         have hsx : x.sm := hgx.1
         have hcle : Clo (.agg x.en) := Clo.agg x.clo_en
         have hclP : Clo (.ro 2 (x.points.map TPoint.en)) := clo_list TPoint.clo_en
         have hln := filt_len l (fun x => decide (x.rank ≥ rk)) i
         have hln2 : (rkdTo l rk i).length ≤ i := hln
         rcases Bool.eq_false_or_eq_true (decide (x.rank ≥ rk)) with hk | hk
         case' inl =>
           have hm0 : rkdTo l rk (i + 1) = rkdTo l rk i ++ [x] := filt_y hx hk
           have hm : (rkdTo l rk (i + 1)).map TFeature.en = (rkdTo l rk i).map TFeature.en ++ [x.en] := by rw [hm0, List.map_append]; rfl
           have hm2 : (rkdTo l rk (i + 1)).length = (rkdTo l rk i).length + 1 := by rw [hm0]; simp
         case' inr => have hm0 : rkdTo l rk (i + 1) = rkdTo l rk i := filt_n hx hk
       case' neg =>
         have hQ := True.intro
         have ht := lt_false (f := TFeature.en) hlt
         have e : i = l.length := by omega
         subst e
         try rw [List.take_length]
         rw [rkdTo_all])
    | with_reducible refine ifP ?_
    | with_reducible refine ifN ?_) <;> (try dsimp only))
  all_goals first
    | (have _ := hP; (refine ⟨i + 1, _, hlt, by omega, ?_, by first | (rw [hm, hm2] <;> rfl) | (rw [hm0] <;> rfl), ?_, ?_⟩; (focus ((repeat' (first | exact Wk.nil | refine Wk.any ?_ | (with_reducible refine Wk.same ?_) | refine Wk.of ?_ ?_)) <;> (first | rfl | (rw [hn]; done) | (rw [hm2]; done) | (rw [hm0]; done)))); (focus (exact fitsA)); (focus (exact fits_row (clo_rows TFeature.clo_en)))))
    | (have _ := hQ; exact Fin.one rfl (RV.tmp (by rfl)) (clo_list TFeature.clo_en) ⟨rfl, rfl⟩)

theorem rkd_i (l : List TFeature) (rk : Int) (hS : isSource l = true) (hg0 : ∀ x ∈ l, x.gd) : VCalls Tryz.prog 159 [.ro 5 (l.map TFeature.en), I rk] (fun r M => r = .ro 5 ((rkd l rk).map TFeature.en) ∧ M = []) := by
  refine VB Tryz.func159 23 (fun E hE => ?_)
  have hclo : Clo (.ro 5 (l.map TFeature.en)) := clo_list TFeature.clo_en
  have hsl := src_len hS
  repeat' ((first
    | (refine iAL ?_; first | refine AL.any ?_ | refine AL.nil ?_)
    | (refine iAW ?_; first | (refine AW.freezeRet (t := 4) (id := 0) rfl rfl rfl rfl (clo_rows TFeature.clo_en) ?_; (try simp only [List.take_length]); try dsimp only [dput, List.set, cond_true, cond_false, Nat.zero_add, Nat.add_zero, Nat.reduceAdd, splice, List.take, List.drop, List.length, List.nil_append, List.cons_append, List.append, TPoint.en, TSegment.en, TBox.en, TFeature.en, TMeet.en, TPlace.en, TCover.en, TLabel.en, TPiece.en, TLevel.en, TChart.en, TReason.en, TEdit.en, TEntry.en, TEdition.en, TListing.en, TAtlas.en, TEvent.en, TWindow.en]) | (refine AW.c0 ?_; constructor) | refine AW.cT ?_ | refine AW.cF ?_ | (refine AW.c2 ?_ ?_ <;> (intro h; try simp only [bT, bF] at h)))
    | (refine AW.loopD hE (fun i : Nat => [.any, I rk, .any, .any, .any, .own 0 (rkdTo l rk i).length, .any, .any, .any, .ro 5 (l.map TFeature.en), I ((l.map TFeature.en).length : Int), I (i : Int), .any, .any, .any, .any, .any, .any, .any, .any, .any, .any, .any, .any, .any]) (fun i => [some ⟨81, 5, (rkdTo l rk i).length, false, (rkdTo l rk i).map TFeature.en⟩]) (fun i => l.length - i) (fun i => i ≤ l.length) 0 (by simp) ?_ (by first | rfl | (simp [fil_zero]; done)) ?_
       (focus ((repeat' (first | exact Wk.nil | refine Wk.any ?_ | (with_reducible refine Wk.same ?_) | refine Wk.of ?_ ?_)) <;> first | rfl | (rfl)))
       intro i hi
       by_cases hlt : i < l.length
       case' pos =>
         have hP := True.intro
         obtain ⟨x, hx⟩ : ∃ x, l[i]? = some x := ⟨_, List.getElem?_eq_getElem hlt⟩
         have hg := map_get (f := TFeature.en) hx
         have ht := lt_true (f := TFeature.en) hlt
         have hn := next_ix hlt (by omega)
         have hgx := hg0 x (List.mem_of_getElem? hx)
         have hsx : x.sm := hgx.1
         have hcle : Clo (.agg x.en) := Clo.agg x.clo_en
         have hclP : Clo (.ro 2 (x.points.map TPoint.en)) := clo_list TPoint.clo_en
         have hln := filt_len l (fun x => decide (x.rank ≥ rk)) i
         have hln2 : (rkdTo l rk i).length ≤ i := hln
         rcases Bool.eq_false_or_eq_true (decide (x.rank ≥ rk)) with hk | hk
         case' inl =>
           have hm0 : rkdTo l rk (i + 1) = rkdTo l rk i ++ [x] := filt_y hx hk
           have hm : (rkdTo l rk (i + 1)).map TFeature.en = (rkdTo l rk i).map TFeature.en ++ [x.en] := by rw [hm0, List.map_append]; rfl
           have hm2 : (rkdTo l rk (i + 1)).length = (rkdTo l rk i).length + 1 := by rw [hm0]; simp
         case' inr => have hm0 : rkdTo l rk (i + 1) = rkdTo l rk i := filt_n hx hk
       case' neg =>
         have hQ := True.intro
         have ht := lt_false (f := TFeature.en) hlt
         have e : i = l.length := by omega
         subst e
         try rw [List.take_length]
         rw [rkdTo_all])
    | with_reducible refine ifP ?_
    | with_reducible refine ifN ?_) <;> (try dsimp only))
  all_goals first
    | (have _ := hP; (refine ⟨i + 1, _, hlt, by omega, ?_, by first | (rw [hm, hm2] <;> rfl) | (rw [hm0] <;> rfl), ?_, ?_⟩; (focus ((repeat' (first | exact Wk.nil | refine Wk.any ?_ | (with_reducible refine Wk.same ?_) | refine Wk.of ?_ ?_)) <;> (first | rfl | (rw [hn]; done) | (rw [hm2]; done) | (rw [hm0]; done)))); (focus (exact fitsA)); (focus (exact fits_row (clo_rows TFeature.clo_en)))))
    | (have _ := hQ; exact Fin.one rfl (RV.tmp (by rfl)) (clo_list TFeature.clo_en) ⟨rfl, rfl⟩)

def cntTo (l : List TFeature) (i : Nat) : Nat := ((l.take i).map fun x => x.points.length).sum
def cntP (l : List TFeature) : Nat := (l.map fun x => x.points.length).sum
theorem cntTo_all (l : List TFeature) : cntTo l l.length = cntP l := by rw [cntTo, List.take_length]; rfl
theorem cntTo_succ {l : List TFeature} {i : Nat} {x : TFeature} (h : l[i]? = some x) : cntTo l (i + 1) = cntTo l i + x.points.length := by
  unfold cntTo
  rw [take_succ_of h, List.map_append, List.sum_append]
  simp
theorem cnt_le : ∀ {l : List TFeature}, (∀ x ∈ l, x.points.length ≤ 1048576) → (l.map fun x => x.points.length).sum ≤ l.length * 1048576
  | [], _ => by simp
  | x :: l, h => by
    have h1 := h x List.mem_cons_self
    have h2 := cnt_le (l := l) fun y hy => h y (List.mem_cons_of_mem _ hy)
    simp only [List.map_cons, List.sum_cons, List.length_cons]
    omega
theorem cntTo_le {l : List TFeature} (h : ∀ x ∈ l, x.points.length ≤ 1048576) (i : Nat) (hl : l.length ≤ 1048576) : cntTo l i ≤ 1099511627776 := by
  have h1 := cnt_le (l := l.take i) fun y hy => h y (List.mem_of_mem_take hy)
  have h2 : (l.take i).length ≤ 1048576 := by rw [List.length_take]; omega
  have h3 := Nat.mul_le_mul_right 1048576 h2
  exact Nat.le_trans h1 h3
def smX (l : List TPoint) (i : Nat) : Int := (l.take i).foldl (fun n p => IntKind.i64.wrap (n + p.x)) 0
def smY (l : List TPoint) (i : Nat) : Int := (l.take i).foldl (fun n p => IntKind.i64.wrap (n + p.y)) 0
def rmid (l : List TPoint) : TPoint := ⟨IntKind.i64.wrap ((smX l l.length).tdiv (l.length : Int)), IntKind.i64.wrap ((smY l l.length).tdiv (l.length : Int))⟩
theorem smX_succ {l : List TPoint} {i : Nat} {p : TPoint} (h : l[i]? = some p) : smX l (i + 1) = IntKind.i64.wrap (smX l i + p.x) := by
  unfold smX; rw [take_succ_of h, List.foldl_append]; rfl
theorem smY_succ {l : List TPoint} {i : Nat} {p : TPoint} (h : l[i]? = some p) : smY l (i + 1) = IntKind.i64.wrap (smY l i + p.y) := by
  unfold smY; rw [take_succ_of h, List.foldl_append]; rfl
theorem fold_bd {f : TPoint → Int} : ∀ (l : List TPoint) (n : Int), (∀ p ∈ l, 0 ≤ f p ∧ f p ≤ 200) → 0 ≤ n → n + 200 * l.length ≤ 100000 → 0 ≤ l.foldl (fun n p => IntKind.i64.wrap (n + f p)) n ∧ l.foldl (fun n p => IntKind.i64.wrap (n + f p)) n ≤ n + 200 * l.length
  | [], n, _, h0, _ => ⟨h0, by simp⟩
  | p :: l, n, h, h0, hb => by
    obtain ⟨a, b⟩ := h p List.mem_cons_self
    simp only [List.length_cons] at hb
    have e : IntKind.i64.wrap (n + f p) = n + f p := w64 (by omega) (by omega)
    have := fold_bd l (n + f p) (fun q hq => h q (List.mem_cons_of_mem _ hq)) (by omega) (by omega)
    rw [List.foldl_cons, e]
    simp only [List.length_cons]
    omega
theorem div_bd {s n : Int} (h0 : 0 ≤ s) (hn : 0 < n) (h : s ≤ 200 * n) : 0 ≤ IntKind.i64.wrap (s.tdiv n) ∧ IntKind.i64.wrap (s.tdiv n) ≤ 200 := by
  have e : s.tdiv n = s / n := Int.tdiv_eq_ediv_of_nonneg h0
  have h1 : 0 ≤ s / n := Int.ediv_nonneg h0 (by omega)
  have h2 : s / n ≤ 200 := Int.ediv_le_of_le_mul hn h
  rw [e, w64 (by omega) (by omega)]
  exact ⟨h1, h2⟩
theorem ring_pts {l : List TPoint} (h : isRing l = true) : ∀ p ∈ l, isp p.x p.y = true := fun p hp => by
  obtain ⟨i, hi⟩ := List.getElem?_of_mem hp
  have hil := (List.getElem?_eq_some_iff.1 hi).1
  have := ((ring_edges h).2.1 i hil).1
  unfold ptA at this
  rw [List.getD_eq_getElem?_getD, hi] at this
  exact this
theorem isp_of {x y : Int} (h1 : 0 ≤ x) (h2 : x ≤ 200) (h3 : 0 ≤ y) (h4 : y ≤ 200) : isp x y = true := by simp [isp, inr, *]
theorem rmid_isp {l : List TPoint} (h : isRing l = true) : isp (rmid l).x (rmid l).y = true := by
  have hp := ring_pts h
  have hn := isRing_len h
  have h1 := fold_bd (f := fun p => p.x) l 0 (fun p hp' => by have := isp_bd (hp p hp'); omega) (Int.le_refl _) (by omega)
  have h2 := fold_bd (f := fun p => p.y) l 0 (fun p hp' => by have := isp_bd (hp p hp'); omega) (Int.le_refl _) (by omega)
  have e1 : smX l l.length = l.foldl (fun n p => IntKind.i64.wrap (n + p.x)) 0 := by rw [smX, List.take_length]
  have e2 : smY l l.length = l.foldl (fun n p => IntKind.i64.wrap (n + p.y)) 0 := by rw [smY, List.take_length]
  have q1 := div_bd (n := (l.length : Int)) h1.1 (by omega) (by omega)
  have q2 := div_bd (n := (l.length : Int)) h2.1 (by omega) (by omega)
  unfold rmid
  rw [e1, e2]
  exact isp_of q1.1 q1.2 q2.1 q2.2
def midP (x : TFeature) : TPoint := x.points.getD (x.points.length / 2) ⟨0, 0⟩
def anP (x : TFeature) : TPoint := if (x.kind == 3) = true then rmid x.points else midP x
def ancOf (x : TFeature) : TPlace := ⟨x.id, anP x, x.rank⟩
def named (x : TFeature) : Bool := !(noName x.name)
def ancTo (l : List TFeature) (i : Nat) : List TPlace := ((l.take i).filter named).map ancOf
def ancs (l : List TFeature) : List TPlace := (l.filter named).map ancOf
theorem ancTo_all (l : List TFeature) : ancTo l l.length = ancs l := by rw [ancTo, List.take_length]; rfl
theorem ancTo_y {l : List TFeature} {i : Nat} {x : TFeature} (hx : l[i]? = some x) (h : noName x.name = false) : (ancTo l (i + 1)).map TPlace.en = (ancTo l i).map TPlace.en ++ [(ancOf x).en] ∧ (ancTo l (i + 1)).length = (ancTo l i).length + 1 := by
  unfold ancTo
  rw [filt_y hx (by unfold named; rw [h]; rfl)]
  simp
theorem ancTo_n {l : List TFeature} {i : Nat} {x : TFeature} (hx : l[i]? = some x) (h : noName x.name = true) : (ancTo l (i + 1)).map TPlace.en = (ancTo l i).map TPlace.en ∧ (ancTo l (i + 1)).length = (ancTo l i).length := by
  unfold ancTo
  rw [filt_n hx (by unfold named; rw [h]; rfl)]
  exact ⟨rfl, rfl⟩
theorem ancTo_len (l : List TFeature) (i : Nat) : (ancTo l i).length ≤ i := by
  unfold ancTo
  rw [List.length_map]
  exact filt_len l named i
theorem tdiv2 {n : Nat} (h : n ≤ 1048576) : IntKind.i64.wrap ((n : Int).tdiv 2) = ((n / 2 : Nat) : Int) := by
  have e : (n : Int).tdiv 2 = ((n / 2 : Nat) : Int) := (Int.ofNat_tdiv n 2).symm
  rw [e, w64 (by omega) (by omega)]
theorem mid_get {x : TFeature} (hf : isFeat x = true) (hl : x.points.length ≤ 1048576) : 0 ≤ IntKind.i64.wrap (((x.points.map TPoint.en).length : Int).tdiv 2) ∧ (x.points.map TPoint.en)[(IntKind.i64.wrap (((x.points.map TPoint.en).length : Int).tdiv 2)).toNat]? = some (midP x).en ∧ ((x.kind == 3) = false → isp (midP x).x (midP x).y = true) := by
  rw [List.length_map, tdiv2 hl]
  have hpos : 0 < x.points.length := by
    rcases kind_cases (feat_bd hf).2.2.2 with ⟨_, p, hp, _⟩ | ⟨_, _, _, h⟩ | ⟨_, _, _, h⟩
    · rw [hp]; simp
    · unfold isSimple at h
      rw [Bool.and_eq_true] at h
      have := (isLine_len h.1).1
      omega
    · have := (isRing_len h).1
      omega
  have hm : x.points.length / 2 < x.points.length := by omega
  have hg : x.points[x.points.length / 2]? = some (midP x) := by
    unfold midP
    rw [List.getD_eq_getElem?_getD, List.getElem?_eq_getElem hm]
    rfl
  refine ⟨by omega, by rw [Int.toNat_natCast, List.getElem?_map, hg]; rfl, fun hk => ?_⟩
  rcases kind_cases (feat_bd hf).2.2.2 with ⟨_, p, hp, hi⟩ | ⟨_, _, _, h⟩ | ⟨_, _, h, _⟩
  · unfold midP
    rw [hp]
    simpa using hi
  · unfold isSimple at h
    rw [Bool.and_eq_true] at h
    have := line_pt h.1 hm
    have e : ptg x.points (x.points.length / 2) = midP x := by
      have := ptg_get hm
      rw [hg] at this
      exact (Option.some.inj this).symm
    rw [e] at this
    exact this
  · rw [h] at hk; cases hk
theorem anP_isp {x : TFeature} (hf : isFeat x = true) (hl : x.points.length ≤ 1048576) : isp (anP x).x (anP x).y = true := by
  unfold anP
  split
  · rename_i h
    rcases kind_cases (feat_bd hf).2.2.2 with ⟨h1, _⟩ | ⟨_, _, h1, _⟩ | ⟨_, _, _, hr⟩
    · have e1 := beq_iff_eq.1 h
      have e2 := beq_iff_eq.1 h1
      omega
    · rw [h] at h1; cases h1
    · exact rmid_isp hr
  · rename_i h
    exact (mid_get hf hl).2.2 (by simpa using h)
theorem ancs_ok {l : List TFeature} (hS : isSource l = true) (hg : ∀ x ∈ l, x.gd) : PlOk (ancs l) := by
  obtain ⟨h1, h2, h3⟩ := (src_iff _).1 (src_filter hS named)
  refine ⟨by unfold ancs; rw [List.length_map]; exact h1, fun x hx => ?_, ?_⟩
  · unfold ancs at hx
    obtain ⟨y, hy, rfl⟩ := List.mem_map.1 hx
    have hf := h2 y hy
    exact ⟨(feat_bd hf).1, anP_isp hf (hg y (List.mem_filter.1 hy).1).1, (feat_bd hf).2.1⟩
  · unfold ancs
    rw [List.pairwise_map]
    exact h3
theorem an_cases {x : TFeature} (hf : isFeat x = true) : ((x.kind == 1) = true ∧ (x.kind == 2) = false ∧ (x.kind == 3) = false ∧ anP x = midP x ∧ (x.points.map TPoint.en)[(0 : Int).toNat]? = some (midP x).en) ∨
    ((x.kind == 1) = false ∧ (x.kind == 2) = true ∧ (x.kind == 3) = false ∧ anP x = midP x) ∨ ((x.kind == 1) = false ∧ (x.kind == 2) = false ∧ (x.kind == 3) = true ∧ anP x = rmid x.points ∧ isRing x.points = true) := by
  rcases kind_cases (feat_bd hf).2.2.2 with ⟨h1, p, hp, _⟩ | ⟨h1, h2, h3, _⟩ | ⟨h1, h2, h3, hr⟩
  · have e := beq_iff_eq.1 h1
    have h3 : (x.kind == 3) = false := by rw [e]; rfl
    refine .inl ⟨h1, by rw [e]; rfl, h3, by unfold anP; rw [if_neg (by rw [h3]; decide)], ?_⟩
    unfold midP
    rw [hp]; simp
  · exact .inr (.inl ⟨h1, h2, h3, by unfold anP; rw [if_neg (by rw [h3]; decide)]⟩)
  · exact .inr (.inr ⟨h1, h2, h3, by unfold anP; rw [if_pos h3], hr⟩)

def ovB (a b : TBox) : Bool := isBoxB a && isBoxB b && decide (wmax a.low.x b.low.x < wmin a.high.x b.high.x) && decide (wmax a.low.y b.low.y < wmin a.high.y b.high.y)
def ovI (a b : TBox) : Bool := isBoxB a && isBoxB b && decide (comX a b > 0) && decide (comY a b > 0)
theorem ovI_eq (a b : TBox) : ovI a b = ovB a b := by
  unfold ovI ovB
  cases ha : isBoxB a
  · simp
  · cases hb : isBoxB b
    · simp
    · have h1 := isBox_bd ha
      have h2 := isBox_bd hb
      unfold comX comY wsub wmin wmax
      rw [Bool.eq_iff_iff]
      simp only [Bool.and_eq_true, decide_eq_true_eq, true_and]
      rw [w64 (by split <;> split <;> omega) (by split <;> split <;> omega), w64 (by split <;> split <;> omega) (by split <;> split <;> omega)]
      repeat' split
      all_goals omega
theorem name_len {s : ByteArray} (h : isName s = true) : 1 ≤ s.size ∧ s.size ≤ 8 := by
  unfold isName inr at h
  simp at h
  omega
theorem name_max {s : ByteArray} (h : isName s = true) : s.size ≤ maxLen := by have := name_len h; rw [maxLen_eq]; omega
def lbx (p : TPoint) (s : ByteArray) (k : Int) : TBox :=
  ⟨⟨if (k == 1 || k == 3) = true then IntKind.i64.wrap (p.x - 2 * (s.size : Int)) else p.x, if (k == 2 || k == 3) = true then IntKind.i64.wrap (p.y - 3) else p.y⟩,
   ⟨if (k == 1 || k == 3) = true then p.x else IntKind.i64.wrap (p.x + 2 * (s.size : Int)), if (k == 2 || k == 3) = true then p.y else IntKind.i64.wrap (p.y + 3)⟩⟩
def lbOk (p : TPoint) (s : ByteArray) (k : Int) : Bool := isBoxB (lbx p s k)
def labB (p : TPoint) (s : ByteArray) (k : Int) : TBox := if lbOk p s k = true then lbx p s k else box0
def crTo (p : TPoint) (s : ByteArray) : Nat → List Int
  | 0 => []
  | i + 1 => crTo p s i ++ if lbOk p s (i : Int) = true then [(i : Int)] else []
def cors (p : TPoint) (s : ByteArray) : List Int := crTo p s 4
theorem crTo_y {p : TPoint} {s : ByteArray} {i : Nat} (h : lbOk p s (i : Int) = true) : (crTo p s (i + 1)).map enI = (crTo p s i).map enI ++ [[I (i : Int)]] ∧ (crTo p s (i + 1)).length = (crTo p s i).length + 1 := by
  rw [crTo, if_pos h]
  simp
theorem crTo_n {p : TPoint} {s : ByteArray} {i : Nat} (h : lbOk p s (i : Int) = false) : (crTo p s (i + 1)).map enI = (crTo p s i).map enI ∧ (crTo p s (i + 1)).length = (crTo p s i).length := by
  rw [crTo, if_neg (by rw [h]; decide), List.append_nil]
  exact ⟨rfl, rfl⟩
theorem crTo_len (p : TPoint) (s : ByteArray) : ∀ i, (crTo p s i).length ≤ i
  | 0 => Nat.le_refl _
  | i + 1 => by
    have := crTo_len p s i
    rw [crTo, List.length_append]
    split <;> simp <;> omega
theorem crTo_mem {p : TPoint} {s : ByteArray} {k : Int} : ∀ {i : Nat}, k ∈ crTo p s i → 0 ≤ k ∧ k < (i : Int) ∧ lbOk p s k = true
  | 0, h => by simp [crTo] at h
  | i + 1, h => by
    rw [crTo, List.mem_append] at h
    rcases h with h | h
    · obtain ⟨a, b, c⟩ := crTo_mem h
      exact ⟨a, by omega, c⟩
    · split at h
      · rename_i hk
        obtain rfl := List.mem_singleton.1 h
        exact ⟨by omega, by omega, hk⟩
      · simp at h
theorem cors_mem {p : TPoint} {s : ByteArray} {k : Int} (h : k ∈ cors p s) : inr k 0 3 = true ∧ lbOk p s k = true := by
  obtain ⟨a, b, c⟩ := crTo_mem h
  refine ⟨?_, c⟩
  simp [inr]
  omega
theorem cors_len (p : TPoint) (s : ByteArray) : (cors p s).length ≤ 4 := crTo_len p s 4
theorem in03 {k : Int} (h : inr k 0 3 = true) : k = 0 ∨ k = 1 ∨ k = 2 ∨ k = 3 := by simp [inr] at h; omega
theorem nat03 {i : Nat} (h : i < 4) : inr (i : Int) 0 3 = true := by simp [inr]; omega
def noOv (b t : TBox) : Bool := !ovB b t
def freeB (b : TBox) (tk : List TBox) : Bool := tk.all (noOv b)
def frK (p : TPoint) (s : ByteArray) (tk : List TBox) (k : Int) : Bool := freeB (labB p s k) tk
def frC (p : TPoint) (s : ByteArray) (tk : List TBox) : Int := ((cors p s).find? (frK p s tk)).getD (-1)
theorem find_at {α : Type} {p : α → Bool} : ∀ {l : List α} {i : Nat} {x : α}, l[i]? = some x → p x = true → (l.take i).all (fun y => !p y) = true → l.find? p = some x
  | [], i, x, hx, _, _ => by simp at hx
  | a :: l, 0, x, hx, hp, _ => by
    simp at hx
    subst hx
    rw [List.find?_cons, hp]
  | a :: l, i + 1, x, hx, hp, hn => by
    rw [List.take_succ_cons, List.all_cons, Bool.and_eq_true] at hn
    rw [List.find?_cons, (by simpa using hn.1 : p a = false)]
    exact find_at (by simpa using hx) hp hn.2
theorem find_no {α : Type} {p : α → Bool} {l : List α} (h : (l.take l.length).all (fun y => !p y) = true) : l.find? p = none := by
  rw [List.take_length, List.all_eq_true] at h
  exact List.find?_eq_none.2 fun x hx hp => by
    have := h x hx
    rw [hp] at this
    cases this
theorem frC_at {p : TPoint} {s : ByteArray} {tk : List TBox} {i : Nat} {k : Int} (hx : (cors p s)[i]? = some k) (hp : frK p s tk k = true) (hn : ((cors p s).take i).all (fun y => !frK p s tk y) = true) : frC p s tk = k := by rw [frC, find_at hx hp hn]; rfl
theorem frC_no {p : TPoint} {s : ByteArray} {tk : List TBox} (hn : ((cors p s).take (cors p s).length).all (fun y => !frK p s tk y) = true) : frC p s tk = -1 := by rw [frC, find_no hn]; rfl
theorem frC_ge {p : TPoint} {s : ByteArray} {tk : List TBox} : frC p s tk = -1 ∨ (inr (frC p s tk) 0 3 = true ∧ lbOk p s (frC p s tk) = true) := by
  unfold frC
  cases h : (cors p s).find? (frK p s tk) with
  | none => exact .inl rfl
  | some k => exact .inr (cors_mem (List.mem_of_find?_eq_some h))
theorem all_take_y' {α : Type} {l : List α} {p : α → Bool} {k : Nat} {y : α} (hy : l[k]? = some y) (ha : (l.take k).all p = true) (hp : p y = true) : (l.take (k + 1)).all p = true := (all_take_y hy ha).trans hp
theorem free_no {b t : TBox} {tk : List TBox} {i : Nat} (ht : tk[i]? = some t) (h : noOv b t = false) : freeB b tk = false := List.all_eq_false.2 ⟨t, List.mem_of_getElem? ht, by rw [h]; decide⟩

def nmOf (l : List TFeature) (k : Int) : ByteArray := match l[(fnd l k).toNat]? with
  | some f => f.name
  | none => ⟨#[]⟩
theorem anc_feat {l : List TFeature} (hS : isSource l = true) (hg : ∀ x ∈ l, x.gd) {x : TPlace} (h : x ∈ srtA (ancs l)) : ∃ (j : Nat) (f : TFeature), l[j]? = some f ∧ fnd l x.id = (j : Int) ∧ nmOf l x.id = f.name ∧ isName f.name = true ∧ isp x.at_.x x.at_.y = true := by
  have h1 := (srtA_perm _).mem_iff.1 h
  have hok := (ancs_ok hS hg).ok x h1
  obtain ⟨f, hf, rfl⟩ := List.mem_map.1 h1
  obtain ⟨hm, hn⟩ := List.mem_filter.1 hf
  obtain ⟨j, hj⟩ := List.getElem?_of_mem hm
  have e := fnd_src hS hj
  refine ⟨j, f, hj, e, ?_, ?_, hok.2.1⟩
  · show nmOf l f.id = _
    unfold nmOf
    rw [e, Int.toNat_natCast, hj]
  · have h2 := (feat_bd (src_feat hS hj)).2.2.1
    unfold named at hn
    simp only [Bool.or_eq_true] at h2
    rcases h2 with h2 | h2
    · rw [h2] at hn; cases hn
    · exact h2
def pnL (l : List TFeature) (out : List TLabel) (x : TPlace) : TLabel := ⟨x.id, nmOf l x.id, labB x.at_ (nmOf l x.id) (frC x.at_ (nmOf l x.id) (out.map (·.box)))⟩
def pnC (l : List TFeature) (out : List TLabel) (x : TPlace) : Bool := decide (frC x.at_ (nmOf l x.id) (out.map (·.box)) < 0)
def pnS (l : List TFeature) (out : List TLabel) (x : TPlace) : List TLabel := if pnC l out x = true then out else out ++ [pnL l out x]
def pnTo (l : List TFeature) (s : List TPlace) (i : Nat) : List TLabel := (s.take i).foldl (pnS l) []
def pnA (l : List TFeature) : List TLabel := (srtA (ancs l)).foldl (pnS l) []
theorem pnTo_all (l : List TFeature) : pnTo l (srtA (ancs l)) (srtA (ancs l)).length = pnA l := by rw [pnTo, List.take_length]; rfl
theorem pnTo_succ {l : List TFeature} {s : List TPlace} {i : Nat} {x : TPlace} (h : s[i]? = some x) : pnTo l s (i + 1) = pnS l (pnTo l s i) x := by
  unfold pnTo
  rw [take_succ_of h, List.foldl_append]
  rfl
theorem pnTo_y {l : List TFeature} {s : List TPlace} {i : Nat} {x : TPlace} (h : s[i]? = some x) (hc : pnC l (pnTo l s i) x = false) : pnTo l s (i + 1) = pnTo l s i ++ [pnL l (pnTo l s i) x] := by rw [pnTo_succ h, pnS, if_neg (by rw [hc]; decide)]
theorem pnTo_n {l : List TFeature} {s : List TPlace} {i : Nat} {x : TPlace} (h : s[i]? = some x) (hc : pnC l (pnTo l s i) x = true) : pnTo l s (i + 1) = pnTo l s i := by rw [pnTo_succ h, pnS, if_pos hc]
theorem pn_fold_sub (l : List TFeature) : ∀ (s : List TPlace) (p : List Int) (out : List TLabel), (out.map (·.id)).Sublist p → ((s.foldl (pnS l) out).map (·.id)).Sublist (p ++ s.map (·.id))
  | [], p, out, h => by simpa using h
  | x :: s, p, out, h => by
    rw [List.foldl_cons]
    have e : p ++ (x :: s).map (·.id) = (p ++ [x.id]) ++ s.map (·.id) := by simp
    rw [e]
    refine pn_fold_sub l s (p ++ [x.id]) _ ?_
    unfold pnS
    split
    · exact h.trans (List.sublist_append_left _ _)
    · rw [List.map_append]
      exact h.append (List.Sublist.refl _)
theorem pnTo_sub (l : List TFeature) (s : List TPlace) (i : Nat) : ((pnTo l s i).map (·.id)).Sublist ((s.take i).map (·.id)) := pn_fold_sub l (s.take i) [] [] (List.Sublist.refl _)
theorem pnTo_len (l : List TFeature) (s : List TPlace) (i : Nat) : (pnTo l s i).length ≤ i := by
  have := (pnTo_sub l s i).length_le
  rw [List.length_map, List.length_map, List.length_take] at this
  omega
theorem pnA_nodup {l : List TFeature} (hS : isSource l = true) (hg : ∀ x ∈ l, x.gd) : ((pnA l).map (·.id)).Pairwise (· ≠ ·) := by
  rw [← pnTo_all]
  have h1 : (srtA (ancs l)).Pairwise fun x y => x.id ≠ y.id := ((srtA_perm _).pairwise_iff fun h e => h e.symm).2 (ancs_ok hS hg).ne
  have h2 := pnTo_sub l (srtA (ancs l)) (srtA (ancs l)).length
  rw [List.take_length] at h2
  exact (List.pairwise_map.2 h1).sublist h2
theorem pnA_len {l : List TFeature} (hS : isSource l = true) (hg : ∀ x ∈ l, x.gd) : (pnA l).length ≤ 16 := by
  rw [← pnTo_all]
  have := pnTo_len l (srtA (ancs l)) (srtA (ancs l)).length
  rw [srtA_len] at *
  have h2 := (ancs_ok hS hg).len
  omega
def lbGt (x y : TLabel) : Bool := decide (y.id > x.id)
def insL (s : List TLabel) (x : TLabel) : List TLabel := insR (lbGt x) s x
def srtL (l : List TLabel) : List TLabel := l.foldl insL []
def slTo (l : List TFeature) (s : List TPlace) (i : Nat) : List TLabel := srtL (pnTo l s i)
def plN (l : List TFeature) : List TLabel := srtL (pnA l)
theorem insR_perm {α : Type} (p : α → Bool) (l : List α) (x : α) : (insR p l x).Perm (x :: l) := by
  unfold insR
  have h := List.perm_middle (a := x) (l₁ := l.take (posR p l)) (l₂ := l.drop (posR p l))
  rw [List.take_append_drop] at h
  simpa using h
theorem srtL_fold_perm : ∀ (l s : List TLabel), (l.foldl insL s).Perm (l ++ s)
  | [], s => List.Perm.refl _
  | x :: l, s => by
    rw [List.foldl_cons]
    exact (srtL_fold_perm l (insL s x)).trans (((insR_perm _ s x).append_left l).trans (List.perm_middle.trans (List.Perm.refl _)))
theorem srtL_perm (l : List TLabel) : (srtL l).Perm l := by
  have := srtL_fold_perm l []
  rwa [List.append_nil] at this
theorem srtL_len (l : List TLabel) : (srtL l).length = l.length := (srtL_perm l).length_eq
theorem srtL_app (l : List TLabel) (x : TLabel) : srtL (l ++ [x]) = insL (srtL l) x := by unfold srtL; rw [List.foldl_append]; rfl
theorem takeWhile_map' {α β : Type} (f : α → β) (p : β → Bool) : ∀ l : List α, (l.map f).takeWhile p = (l.takeWhile fun x => p (f x)).map f
  | [] => rfl
  | x :: l => by
    rw [List.map_cons, List.takeWhile_cons, List.takeWhile_cons, takeWhile_map' f p l]
    split <;> rfl
theorem posR_map {α β : Type} (f : α → β) (p : β → Bool) (l : List α) : posR p (l.map f) = posR (fun x => p (f x)) l := by
  unfold posR
  rw [← List.map_reverse, takeWhile_map', List.length_map, List.length_map]
theorem insR_map {α β : Type} (f : α → β) (p : β → Bool) (l : List α) (x : α) : (insR (fun y => p (f y)) l x).map f = insR p (l.map f) (f x) := by
  unfold insR
  rw [posR_map, List.map_append, List.map_append, List.map_take, List.map_drop]
  rfl
theorem insL_map (s : List TLabel) (x : TLabel) : (insL s x).map TLabel.en = (s.take (posR (lbGt x) s)).map TLabel.en ++ [x.en] ++ (s.drop (posR (lbGt x) s)).map TLabel.en := by
  unfold insL insR
  rw [List.map_append, List.map_append]
  rfl
theorem srtL_asc : ∀ (l s : List TLabel), (s.map (·.id)).Pairwise (· < ·) → ((l ++ s).map (·.id)).Pairwise (· ≠ ·) → ((l.foldl insL s).map (·.id)).Pairwise (· < ·)
  | [], s, hs, _ => hs
  | x :: l, s, hs, hd => by
    rw [List.foldl_cons]
    have e := insR_map (fun y : TLabel => y.id) (fun k => decide (k > x.id)) s x
    have hd2 : (x.id :: ((l ++ s).map (·.id))).Pairwise (· ≠ ·) := hd
    obtain ⟨h1, h2⟩ := List.pairwise_cons.1 hd2
    have hx : x.id ∉ s.map (·.id) := fun h => h1 x.id (by rw [List.map_append]; exact List.mem_append_right _ h) rfl
    refine srtL_asc l (insL s x) ?_ ?_
    · show ((insR _ s x).map _).Pairwise _
      have h3 := (insR_asc sto_int (p := fun k => decide (k > x.id)) (x := x.id) (fun y => by simp) hs).2.2 (fun h0 hh => hx (List.mem_of_getElem? hh))
      exact e ▸ h3.2
    · have hp : ((l ++ insL s x).map (·.id)).Perm (x.id :: ((l ++ s).map (·.id))) := (((insR_perm _ s x).append_left l).trans List.perm_middle).map (·.id)
      exact (hp.pairwise_iff fun h e => h e.symm).2 hd2
def lookL (l : List TLabel) (k : Int) : TLabel := (l.find? fun y => y.id == k).getD ⟨k, ⟨#[]⟩, box0⟩
theorem lookL_id (l : List TLabel) (k : Int) : (lookL l k).id = k := by
  unfold lookL
  cases h : l.find? fun y => y.id == k with
  | none => rfl
  | some y =>
    have h2 : (y.id == k) = true := List.find?_some (p := fun y : TLabel => y.id == k) h
    exact beq_iff_eq.1 h2
theorem lookL_mem {l : List TLabel} (hd : (l.map (·.id)).Pairwise (· ≠ ·)) {x : TLabel} (hx : x ∈ l) : lookL l x.id = x := by
  unfold lookL
  cases h : l.find? fun y => y.id == x.id with
  | none =>
    have := List.find?_eq_none.1 h x hx
    simp at this
  | some y =>
    have hy := List.mem_of_find?_eq_some h
    have h2 : (y.id == x.id) = true := List.find?_some (p := fun y : TLabel => y.id == x.id) h
    have e := beq_iff_eq.1 h2
    show y = x
    obtain ⟨i, hi⟩ := List.getElem?_of_mem hx
    obtain ⟨j, hj⟩ := List.getElem?_of_mem hy
    have hil := (List.getElem?_eq_some_iff.1 hi).1
    have hjl := (List.getElem?_eq_some_iff.1 hj).1
    have key : ∀ a b, a < b → b < l.length → (l[a]?).map (·.id) ≠ (l[b]?).map (·.id) := fun a b hab hb hh => by
      have := List.pairwise_iff_getElem.1 hd a b (by rw [List.length_map]; omega) (by rw [List.length_map]; exact hb) hab
      rw [List.getElem?_eq_getElem (by omega), List.getElem?_eq_getElem hb] at hh
      simp only [List.getElem_map] at this
      exact this (Option.some.inj hh)
    rcases Nat.lt_trichotomy i j with h1 | h1 | h1
    · exact absurd (by rw [hi, hj]; show some x.id = some y.id; rw [e]) (key i j h1 hjl)
    · subst h1; rw [hi] at hj; exact (Option.some.inj hj).symm
    · exact absurd (by rw [hi, hj]; show some y.id = some x.id; rw [e]) (key j i h1 hil)
theorem srtL_merge {l : List TLabel} (hd : (l.map (·.id)).Pairwise (· ≠ ·)) : ((l.map (·.id)).mergeSort fun x y => decide (x ≤ y)).map (lookL l) = srtL l := by
  have h1 := srtL_asc l [] List.Pairwise.nil (by rwa [List.append_nil])
  have e : ((l.map (·.id)).mergeSort fun x y => decide (x ≤ y)) = (srtL l).map (·.id) := asc_ext sto_int (merge_asc hd) h1 fun y => by
    rw [(List.mergeSort_perm _ _).mem_iff]
    exact ((srtL_perm l).map (·.id)).mem_iff.symm
  rw [e, List.map_map]
  have : ∀ x ∈ srtL l, (lookL l ∘ fun y : TLabel => y.id) x = x := fun x hx => lookL_mem hd ((srtL_perm l).mem_iff.1 hx)
  rw [List.map_congr_left this, List.map_id']
theorem look_all {l : List TLabel} (hd : (l.map (·.id)).Pairwise (· ≠ ·)) : (l.map (·.id)).map (fun k => (lookL l k).en) = l.map TLabel.en := by
  rw [List.map_map]
  exact List.map_congr_left fun x hx => by show (lookL l x.id).en = _; rw [lookL_mem hd hx]
theorem far2_ge (p q : TPoint) : 0 ≤ far2 p q := by
  unfold far2
  have e : ∀ d : Int, 0 ≤ d * d := fun d => by
    have e : d * d = (d.natAbs : Int) * (d.natAbs : Int) := Int.natAbs_mul_self.symm.trans (by rw [Int.natCast_mul])
    rw [e, ← Int.natCast_mul]
    exact Int.natCast_nonneg _
  have h1 := e (p.x - q.x)
  have h2 := e (p.y - q.y)
  omega
theorem kept0_fold : ∀ (s out : List TPlace), s.foldl (keptS 0) out = out ++ s
  | [], out => (List.append_nil _).symm
  | x :: s, out => by
    have h : out.all (farOk 0 x) = true := List.all_eq_true.2 fun y _ => by
      unfold farOk
      have := far2_ge y.at_ x.at_
      simp
      omega
    rw [List.foldl_cons, keptS, if_pos h, kept0_fold s, List.append_assoc]
    rfl
theorem kept0 (s : List TPlace) : kept s 0 = s := by
  unfold kept
  rw [kept0_fold]
  rfl
theorem slTo_len (l : List TFeature) (s : List TPlace) (i : Nat) : (slTo l s i).length ≤ i := by
  unfold slTo
  rw [srtL_len]
  exact pnTo_len l s i
theorem slTo_y {l : List TFeature} {s : List TPlace} {i : Nat} {x : TPlace} (h : s[i]? = some x) (hc : pnC l (pnTo l s i) x = false) : slTo l s (i + 1) = insL (slTo l s i) (pnL l (pnTo l s i) x) := by
  unfold slTo
  rw [pnTo_y h hc, srtL_app]
theorem slTo_n {l : List TFeature} {s : List TPlace} {i : Nat} {x : TPlace} (h : s[i]? = some x) (hc : pnC l (pnTo l s i) x = true) : slTo l s (i + 1) = slTo l s i := by
  unfold slTo
  rw [pnTo_n h hc]
theorem slTo_all (l : List TFeature) : slTo l (srtA (ancs l)) (srtA (ancs l)).length = plN l := by unfold slTo; rw [pnTo_all]; rfl

def isLevel (v : TLevel) : Bool := inr v.rank 0 9 && inr v.far 0 200 && inr v.least 0 100000
def TAtlas.gd (a : TAtlas) : Prop := (a.log.length ≤ 1048576 ∧ ∀ e ∈ a.log, e.feature.gd) ∧ a.levels.length ≤ 1048576 ∧ (a.editions.length ≤ 1048576 ∧ ∀ e ∈ a.editions, e.source.length ≤ 1048576 ∧ ∀ x ∈ e.source, x.gd) ∧ a.cover.cells.size ≤ maxLen
theorem isLevel_s (v : TLevel) : VCalls Tryz.prog 133 [.agg v.en] (fun r M => r = B (isLevel v) ∧ M = []) := by
  refine VB Tryz.func133 15 (fun E hE => ?_)
  dsimp only [TLevel.en]
  repeat' ((first
    | (refine iAL ?_; first | refine AL.any ?_ | refine AL.any (h := POp.k Tryz.func96 (hc := inr_s _ _ _)) ?_ | refine AL.U ?_ | refine AL.F ?_ | refine AL.T ?_ | refine AL.T (h := POp.k Tryz.func96 (hc := inr_s _ _ _)) ?_ | refine AL.W ?_ | refine AL.W (h := fun h => by (try rw [h]); exact POp.k Tryz.func96 (hc := inr_s _ _ _)) ?_ | refine AL.nil ?_)
    | (refine iAW ?_; first | (refine AW.c0 ?_; constructor))) <;> (try dsimp only))
  all_goals exact Fin.one rfl (RV.tmp (by rfl)) (clo_c _) ⟨by first | rfl | (simp only [isLevel, Bool.and_assoc]; done), rfl⟩

theorem isLevel_i (v : TLevel) : VCalls Tryz.prog 139 [.agg v.en] (fun r M => r = B (isLevel v) ∧ M = []) := by
  refine VB Tryz.func139 15 (fun E hE => ?_)
  dsimp only [TLevel.en]
  repeat' ((first
    | (refine iAL ?_; first | refine AL.any ?_ | refine AL.any (h := POp.k Tryz.func145 (hc := inr_v _ _ _)) ?_ | refine AL.U ?_ | refine AL.F ?_ | refine AL.T ?_ | refine AL.T (h := POp.k Tryz.func145 (hc := inr_v _ _ _)) ?_ | refine AL.W ?_ | refine AL.W (h := fun h => by (try rw [h]); exact POp.k Tryz.func145 (hc := inr_v _ _ _)) ?_ | refine AL.nil ?_)
    | (refine iAW ?_; first | (refine AW.c0 ?_; constructor))) <;> (try dsimp only))
  all_goals exact Fin.one rfl (RV.tmp (by rfl)) (clo_c _) ⟨by first | rfl | (simp only [isLevel, Bool.and_assoc]; done), rfl⟩


theorem isLevT_s (v : TLevel) (h : isLevel v = true) : VCalls Tryz.prog 133 [.agg v.en] (fun r M => r = B true ∧ M = []) := h ▸ isLevel_s v
theorem isLevT_i (v : TLevel) (h : isLevel v = true) : VCalls Tryz.prog 139 [.agg v.en] (fun r M => r = B true ∧ M = []) := h ▸ isLevel_i v

theorem shown_s (l : List TFeature) (v : TLevel) (hS : isSource l = true) (hg0 : ∀ x ∈ l, x.gd) (hV : isLevel v = true) : VCalls Tryz.prog 134 [.ro 5 (l.map TFeature.en), .agg v.en] (fun r M => r = .ro 1 ((shown l v).map enI) ∧ M = []) := by
  refine VB Tryz.func134 56 (fun E hE => ?_)
  have hclo : Clo (.ro 5 (l.map TFeature.en)) := clo_list TFeature.clo_en
  have hsl := src_len hS
  have hS2 := rkd_src hS v.rank
  have hg2 := rkd_gd hg0 v.rank
  have hsl2 := src_len hS2
  have hp := plsOf_ok hS2
  have hpl := hp.len
  have hfar : inr v.far 0 200 = true := by have := hV; unfold isLevel at this; simp only [Bool.and_eq_true] at this; exact this.1.2
  have htl := thn_len hS v
  have hclR : Clo (.ro 5 ((rkd l v.rank).map TFeature.en)) := clo_list TFeature.clo_en
  have hclT : Clo (.ro 1 ((thn l v).map enI)) := clo_list clo_enI
  have hclL : Clo (.agg v.en) := Clo.agg v.clo_en
  have hclp : Clo (.ro 4 ((plsOf (rkd l v.rank)).map TPlace.en)) := clo_list TPlace.clo_en
  dsimp only [TLevel.en]
  repeat' ((first
    | (refine iAL ?_; first | refine AL.any ?_ | refine AL.any (h := POp.k Tryz.func78 (hc := isSrcT_s l (by omega) hg0 hS)) ?_ | refine AL.any (h := POp.k Tryz.func199 (hc := rkd_s l v.rank hS hg0)) ?_ | refine AL.any (h := POp.k Tryz.func200 (hc := thin_s (plsOf (rkd l v.rank)) v.far hp hfar)) ?_ | refine AL.U ?_ | refine AL.F ?_ | refine AL.T ?_ | refine AL.T (h := POp.k Tryz.func133 (hc := isLevT_s v hV)) ?_ | refine AL.T (h := POp.k Tryz.func135 (hc := has_s (thn l v) x.id (by omega))) ?_ | refine AL.W ?_ | refine AL.W (h := fun h => by (try rw [h]); exact POp.k Tryz.func133 (hc := isLevT_s v hV)) ?_ | refine AL.W (h := fun h => by (try rw [h]); exact POp.k Tryz.func135 (hc := has_s (thn l v) x.id (by omega))) ?_ | refine AL.nil ?_)
    | ((with_reducible show DL ..); first | refine DL.any ?_ | refine DL.any (h := POp.k Tryz.func201 (hc := pls_s (rkd l v.rank) hS2 hg2)) ?_ | refine DL.nil ?_)
    | (refine iAW ?_; first | (refine AW.freezeRet (t := 4) (id := 1) rfl rfl rfl rfl (clo_rows clo_enI) ?_; (try simp only [List.take_length]); try dsimp only [dput, List.set, cond_true, cond_false, Nat.zero_add, Nat.add_zero, Nat.reduceAdd, splice, List.take, List.drop, List.length, List.nil_append, List.cons_append, List.append, TPoint.en, TSegment.en, TBox.en, TFeature.en, TMeet.en, TPlace.en, TCover.en, TLabel.en, TPiece.en, TLevel.en, TChart.en, TReason.en, TEdit.en, TEntry.en, TEdition.en, TListing.en, TAtlas.en, TEvent.en, TWindow.en]) | (refine AW.c0 ?_; constructor) | refine AW.dr (id := 5) 4 ?_ | refine AW.cT ?_ | refine AW.cF ?_ | (refine AW.c2 ?_ ?_ <;> (intro h; try simp only [bT, bF] at h)))
    | (refine AW.loopD hE (fun i : Nat => [.any, .any, .any, .ref 0 0 3 0 0, .any, .own 1 (shTo l v i).length, .ro 5 ((rkd l v.rank).map TFeature.en), .ro 1 ((thn l v).map enI), I (i : Int), .any, .any, .any, .any, .any, .any, .any, .any, .any, .any, .any, .any, .any, .any, .any, .any, .any, .any, .any, .any, .any, .any, .any, .any, .any, .any, .any, .any, .any, .any, .any, .any, .any, .any, .any, .any, .any, .any, .any, .any, .any, .any, .any, .any, .any, .any, .any, .any, .any]) (fun i => [some ⟨47, 3, 0, true, [v.en]⟩, some ⟨3, 1, (shTo l v i).length, false, (shTo l v i).map enI⟩]) (fun i => (rkd l v.rank).length - i) (fun i => i ≤ (rkd l v.rank).length) 0 (by simp) ?_ (by first | rfl | (simp [fil_zero]; done)) ?_
       (focus ((repeat' (first | exact Wk.nil | refine Wk.any ?_ | (with_reducible refine Wk.same ?_) | refine Wk.of ?_ ?_)) <;> first | rfl | (rfl)))
       intro i hi
       by_cases hlt : i < (rkd l v.rank).length
       case' pos =>
         have hP := True.intro
         obtain ⟨x, hx⟩ : ∃ x, (rkd l v.rank)[i]? = some x := ⟨_, List.getElem?_eq_getElem hlt⟩
         have hg := map_get (f := TFeature.en) hx
         have ht := lt_true (f := TFeature.en) hlt
         have hn := next_ix hlt (by omega)
         have hgx := hg2 x (List.mem_of_getElem? hx)
         have hcle : Clo (.agg x.en) := Clo.agg x.clo_en
         have hclP : Clo (.ro 2 (x.points.map TPoint.en)) := clo_list TPoint.clo_en
         have hln := shTo_len l v i
         rcases Bool.eq_false_or_eq_true (x.kind != 1) with hk | hk
         case' inl => obtain ⟨hm, hm2⟩ := shTo_y hx (by rw [shP, hk]; rfl)
         case' inr => rcases Bool.eq_false_or_eq_true (has (thn l v) x.id) with hh | hh
         case' inr.inl => obtain ⟨hm, hm2⟩ := shTo_y hx (by rw [shP, hk, hh]; rfl)
         case' inr.inr => obtain ⟨hm, hm2⟩ := shTo_n hx (by rw [shP, hk, hh]; rfl)
       case' neg =>
         have hQ := True.intro
         have ht := lt_false (f := TFeature.en) hlt
         have e : i = (rkd l v.rank).length := by omega
         subst e
         try rw [List.take_length]
         rw [shTo_all])
    | with_reducible refine ifP ?_
    | with_reducible refine ifN ?_) <;> (try dsimp only))
  all_goals first
    | (have _ := hP; (refine ⟨i + 1, _, hlt, by omega, ?_, by rw [hm, hm2] <;> rfl, ?_, ?_⟩; (focus ((repeat' (first | exact Wk.nil | refine Wk.any ?_ | (with_reducible refine Wk.same ?_) | refine Wk.of ?_ ?_)) <;> (first | rfl | (rw [hn]; done) | (rw [hm2]; done)))); (focus (exact fitsA)); (focus (exact fitsM_cons (clo_one v.clo_en) (fitsM_cons (clo_rows clo_enI) (FitsM.nil _))))))
    | (have _ := hQ; exact Fin.one rfl (RV.tmp (by rfl)) (clo_list clo_enI) ⟨rfl, rfl⟩)

theorem shown_i (l : List TFeature) (v : TLevel) (hS : isSource l = true) (hg0 : ∀ x ∈ l, x.gd) (hV : isLevel v = true) : VCalls Tryz.prog 140 [.ro 5 (l.map TFeature.en), .agg v.en] (fun r M => r = .own 0 0 ∧ M = [some ⟨3, 1, 0, false, (shown l v).map enI⟩]) := by
  refine VB Tryz.func140 44 (fun E hE => ?_)
  have hclo : Clo (.ro 5 (l.map TFeature.en)) := clo_list TFeature.clo_en
  have hsl := src_len hS
  have hS2 := rkd_src hS v.rank
  have hg2 := rkd_gd hg0 v.rank
  have hsl2 := src_len hS2
  have hp := plsOf_ok hS2
  have hpl := hp.len
  have hfar : inr v.far 0 200 = true := by have := hV; unfold isLevel at this; simp only [Bool.and_eq_true] at this; exact this.1.2
  have htl := thn_len hS v
  have hclR : Clo (.ro 5 ((rkd l v.rank).map TFeature.en)) := clo_list TFeature.clo_en
  have hclT : Clo (.ro 1 ((thn l v).map enI)) := clo_list clo_enI
  have hclL : Clo (.agg v.en) := Clo.agg v.clo_en
  have hclp : Clo (.ro 4 ((plsOf (rkd l v.rank)).map TPlace.en)) := clo_list TPlace.clo_en
  dsimp only [TLevel.en]
  repeat' ((first
    | (refine iAL ?_; first | refine AL.any ?_ | refine AL.any (h := POp.H [2] Tryz.func62 (hc := sortI (npTo l v (rkd l v.rank).length) (by have := npTo_len hS v (rkd l v.rank).length; omega))) ?_ | refine AL.any (h := POp.k Tryz.func80 (hc := isSrcT_i l (by omega) hg0 hS)) ?_ | refine AL.any (h := POp.k Tryz.func159 (hc := rkd_i l v.rank hS hg0)) ?_ | refine AL.any (h := POp.O Tryz.func208 (hc := thin_i (plsOf (rkd l v.rank)) v.far hp hfar)) ?_ | refine AL.U ?_ | refine AL.F ?_ | refine AL.T ?_ | refine AL.T (h := POp.k Tryz.func139 (hc := isLevT_i v hV)) ?_ | refine AL.W ?_ | refine AL.W (h := fun h => by (try rw [h]); exact POp.k Tryz.func139 (hc := isLevT_i v hV)) ?_ | refine AL.nil ?_)
    | ((with_reducible show DL ..); first | refine DL.any ?_ | refine DL.any (h := POp.k Tryz.func158 (hc := pls_i (rkd l v.rank) hS2 hg2)) ?_ | refine DL.nil ?_)
    | (refine iAW ?_; first | (refine AW.c0 ?_; constructor) | refine AW.dr (id := 5) 4 ?_ | refine AW.cT ?_ | refine AW.cF ?_ | (refine AW.c2 ?_ ?_ <;> (intro h; try simp only [bT, bF] at h)))
    | (refine AW.loopD hE (fun i : Nat => [.any, .any, .any, .any, .any, .own 2 ((((rkd l v.rank).take i).filter fun x => x.kind != 1).length), .any, .any, .any, .any, .any, .any, .any, .any, .any, .any, .any, .any, .any, .any, .any, .any, .any, .any, .any, .any, .any, .any, .ro 5 ((rkd l v.rank).map TFeature.en), I (((rkd l v.rank).map TFeature.en).length : Int), I (i : Int), .any, .any, .any, .any, .any, .any, .any, .any, .any, .any, .any, .any, .any, .any, .any]) (fun i => [some ⟨47, 3, 0, true, [v.en]⟩, some ⟨3, 1, 0, false, ([]).map enI⟩, some ⟨3, 1, ((((rkd l v.rank).take i).filter fun x => x.kind != 1).length), false, (npTo l v i).map enI⟩]) (fun i => (rkd l v.rank).length - i) (fun i => i ≤ (rkd l v.rank).length) 0 (by simp) ?_ (by first | rfl | ((simp [npTo, thn, TLevel.en]))) ?_
       (focus ((repeat' (first | exact Wk.nil | refine Wk.any ?_ | (with_reducible refine Wk.same ?_) | refine Wk.of ?_ ?_)) <;> first | rfl | (first | rfl | (simp [npTo, thn]))))
       intro i hi
       by_cases hlt : i < (rkd l v.rank).length
       case' pos =>
         have hP := True.intro
         obtain ⟨x, hx⟩ : ∃ x, (rkd l v.rank)[i]? = some x := ⟨_, List.getElem?_eq_getElem hlt⟩
         have hg := map_get (f := TFeature.en) hx
         have ht := lt_true (f := TFeature.en) hlt
         have hn := next_ix hlt (by omega)
         have hgx := hg2 x (List.mem_of_getElem? hx)
         have hcle : Clo (.agg x.en) := Clo.agg x.clo_en
         have hclP : Clo (.ro 2 (x.points.map TPoint.en)) := clo_list TPoint.clo_en
         rcases Bool.eq_false_or_eq_true (x.kind != 1) with hk | hk
         case' inl =>
           have hc0 : ((((rkd l v.rank).take (i + 1)).filter fun x => x.kind != 1).length) = ((((rkd l v.rank).take i).filter fun x => x.kind != 1).length) + 1 := by rw [filt_y hx hk]; simp
           have hm := npTo_y hx hk
         case' inr =>
           have hc0 : ((((rkd l v.rank).take (i + 1)).filter fun x => x.kind != 1).length) = ((((rkd l v.rank).take i).filter fun x => x.kind != 1).length) := by rw [filt_n hx hk]
           have hm0 := npTo_n hx hk
         all_goals have hnl := npTo_len hS v i
       case' neg =>
         have hQ := True.intro
         have ht := lt_false (f := TFeature.en) hlt
         have e : i = (rkd l v.rank).length := by omega
         subst e
         try rw [List.take_length])
    | with_reducible refine ifP ?_
    | with_reducible refine ifN ?_) <;> (try dsimp only))
  all_goals first
    | (have _ := hP; (refine ⟨i + 1, _, hlt, by omega, ?_, by first | (rw [hm, hc0] <;> rfl) | (rw [hm0, hc0] <;> rfl), ?_, ?_⟩; (focus ((repeat' (first | exact Wk.nil | refine Wk.any ?_ | (with_reducible refine Wk.same ?_) | refine Wk.of ?_ ?_)) <;> (first | rfl | (rw [hn]; done) | (rw [hc0]; done)))); (focus (exact fitsA)); (focus (exact fitsM_cons (clo_one v.clo_en) (fitsM_cons clo_rows_nil (fitsM_cons (clo_rows clo_enI) (FitsM.nil _)))))))
    | (have _ := hQ; exact Fin.r1 [2] rfl (RV.tmp (by rfl)) ⟨rfl, by rw [← shown_merge hS v] <;> rfl⟩)

theorem shown_i' (l : List TFeature) (v : TLevel) (hS : isSource l = true) (hg0 : ∀ x ∈ l, x.gd) (hV : isLevel v = true) : VCalls Tryz.prog 140 [.ro 5 (l.map TFeature.en), .agg v.en] (fun r M => r = .ro 1 ((shown l v).map enI) ∧ M = []) := VCalls.frz (shown_i l v hS hg0 hV) vwlT
def chIn (l : List TFeature) (v : TLevel) (x : TFeature) : Bool := has (shown l v) x.id
def chsTo (l : List TFeature) (v : TLevel) (i : Nat) : List TFeature := (l.take i).filter (chIn l v)
def chs (l : List TFeature) (v : TLevel) : List TFeature := l.filter (chIn l v)
theorem chsTo_all (l : List TFeature) (v : TLevel) : chsTo l v l.length = chs l v := by rw [chsTo, List.take_length]; rfl
theorem chsTo_y {l : List TFeature} {v : TLevel} {i : Nat} {x : TFeature} (hx : l[i]? = some x) (h : has (shown l v) x.id = true) : (chsTo l v (i + 1)).map TFeature.en = (chsTo l v i).map TFeature.en ++ [x.en] ∧ (chsTo l v (i + 1)).length = (chsTo l v i).length + 1 := by
  unfold chsTo
  rw [filt_y hx h]
  simp
theorem chsTo_n {l : List TFeature} {v : TLevel} {i : Nat} {x : TFeature} (hx : l[i]? = some x) (h : has (shown l v) x.id = false) : (chsTo l v (i + 1)).map TFeature.en = (chsTo l v i).map TFeature.en ∧ (chsTo l v (i + 1)).length = (chsTo l v i).length := by
  unfold chsTo
  rw [filt_n hx h]
  exact ⟨rfl, rfl⟩
theorem chsTo_len (l : List TFeature) (v : TLevel) (i : Nat) : (chsTo l v i).length ≤ i := filt_len l (chIn l v) i
def chF (l : List TFeature) (v : TLevel) : List TFeature := shAll (chs l v) v.least
def chart (l : List TFeature) (v : TLevel) : TChart := ⟨chF l v, plN (chF l v)⟩
def chtOk (l : List TFeature) (v : TLevel) : Bool := isSource l && isLevel v
theorem chs_src {l : List TFeature} (hS : isSource l = true) (v : TLevel) : isSource (chs l v) = true := src_filter hS _
theorem chs_gd {l : List TFeature} (hg : ∀ x ∈ l, x.gd) (v : TLevel) : ∀ x ∈ chs l v, x.gd := fun x hx => hg x (List.mem_filter.1 hx).1
theorem chF_src {l : List TFeature} (hS : isSource l = true) (v : TLevel) : isSource (chF l v) = true := shAll_src _ (chs_src hS v)
theorem chF_gd {l : List TFeature} (hg : ∀ x ∈ l, x.gd) (v : TLevel) : ∀ x ∈ chF l v, x.gd := shAll_gd _ (chs_gd hg v)
theorem chF_len {l : List TFeature} (hS : isSource l = true) (v : TLevel) : (chF l v).length ≤ 16 := src_len (chF_src hS v)
theorem shown_le {l : List TFeature} (hS : isSource l = true) (v : TLevel) : (shown l v).length ≤ 16 := by
  unfold shown
  rw [List.length_map]
  exact Nat.le_trans (List.length_filter_le _ _) (src_len (rkd_src hS v.rank))

end Go.Proofs.YtpffahmmklpifaaGreat.Abs

/- A nil slice grown: what slices.Grow gives. -/
namespace Go.Proofs.YtpffahmmklpifaaGreat.Abs
open Go.Proofs Go.RowKit
set_option linter.unusedVariables false
set_option linter.unusedSimpArgs false
set_option maxRecDepth 100000
set_option maxHeartbeats 2000000
open Go.Shelf Go.Lib
set_option maxHeartbeats 4000000 in
set_option maxRecDepth 100000 in
theorem growP (m : Nat) (h0 : 0 < m) (hm : m ≤ 1048576) (w : World) : Calls Tryz.prog 340 #[.slice none 0 0, .int .i64 (m : Int)] w fun e w' => ∃ G cur, e = .returned (.slice (some ⟨w.heap.size, 0, none⟩) 0 G) ∧ w' = w.drew.alloc (.cells cur 141) ∧ cur.size = G * 2 ∧ G ≤ maxLen := by
  have mixed : Tryz.prog.follows .mixedOrders = true := by kernel_rfl
  obtain ⟨i0, z, hsl, hi0, hz0, hsz, hby, hzc, _, _, hs0⟩ := rwk_inv rwk79
  have u3 : Tryz.prog.underlying 3 = some (.int .i64) := Tryz.underlying3
  have h1 : ¬ ((m : Int) < 0) := by omega
  have h2 : wrap64 ((0 : Int) - (0 : Int)) = 0 := by unfold wrap64; omega
  have h3 : wrap64 ((m : Int) - 0) = (m : Int) := by unfold wrap64; omega
  have h4 : (m : Int) > 0 := by omega
  have hG := grownCap_ge w m 0 141
  have hG2 := grownCap_le_maxLen w m 0 141 (by rw [maxLen_eq]; omega)
  have hrz : ∀ ty, (Builtin.append_ #[79, 3] ty #[.slice none 0 0, .int .i64 (m : Int)]).run Tryz.prog w = .ok (.slice (some ⟨w.heap.size, 0, none⟩) m (grownCap w m 0 141)) (w.drew.alloc (.cells ((#[] : Array Value) ++ Builtin.zeroCells z.cells m ++ Builtin.zeroCells z.cells (grownCap w m 0 141 - m)) 141)) := fun ty => by
    have h := Lib.run_append_grow_zeros w 79 3 ty 141 i0 z .i64 .i64 hsl u3 hi0 hz0 none 0 0 [] (run_firstCells_none w.drew i0.size 0 0 0) m h0 (by omega) (by omega) (by omega) (by rw [hby]; omega) (by rw [Nat.zero_add]; exact growslice_fits h0 (by rw [hby]; omega))
    simp only [Nat.zero_add] at h
    exact h
  obtain ⟨G, hGe⟩ : ∃ G, G = grownCap w m 0 141 := ⟨_, rfl⟩
  obtain ⟨cur, hcu⟩ : ∃ cur, cur = (#[] : Array Value) ++ Builtin.zeroCells z.cells m ++ Builtin.zeroCells z.cells (G - m) := ⟨_, rfl⟩
  rw [← hGe] at hrz hG hG2
  have hcs : cur.size = G * 2 := by
    rw [hcu]
    simp only [Array.size_append, size_zeroCells, hzc, Array.size_empty, Nat.zero_add]
    omega
  rw [← hcu] at hrz
  have hG63 : G ≤ 9223372036854775807 := by rw [maxLen_eq] at hG2; exact hG2
  clear hGe hcu hzc hby hsz
  go_enter Tryz.func340, Tryz.ntmps340
  go_wp2_with (at_builtin; refine Lib.wpList_append_run _ rfl _ _ _ _ rfl _ _ rfl rfl _ _ (hrz _) ?_)
  all_goals (go_ret; exact ⟨G, rfl, cur, rfl, hcs, hG2⟩)
theorem grow_v (m : Nat) (h0 : 0 < m) (hm : m ≤ 1048576) : VCalls Tryz.prog 340 [.c (.slice none 0 0), I (m : Int)] (fun r M => r = .own 0 0 ∧ M = [some ⟨141, 2, 0, false, []⟩]) := by
  intro E vals hM hh hsl
  obtain rfl := Slots.plain (vs := [.slice none 0 0, .int .i64 (m : Int)]) hsl
  refine (growP m h0 hm E.win).mono ?_
  rintro e w' ⟨G, cur, rfl, rfl, hcs, hG⟩
  have hg : E.win.grownBy (E.win.drew.alloc (.cells cur 141)) none := by
    have g := World.grownBy_alloc E.win.drew (.cells cur 141) none
    exact ⟨g.1, g.2, g.3, g.4, g.5⟩
  have hβ : E.β = [] := List.length_eq_zero_iff.1 hh.len
  have hrow := hh.addRow hg (t := 141) (sz := 2) (v := .slice (some ⟨E.win.heap.size, 0, none⟩) 0 G) (es := []) (xs := [])
    ⟨rfl, .inr ⟨E.win.heap.size, G, cur, rfl, hh.bs, heap_alloc_new E.win.drew _, Nat.zero_le _, hG, hcs, by simp⟩⟩ (fun k hk => by simp [blockOf] at hk; omega) ⟨rfl, fun i r hr => by simp at hr⟩
  refine ⟨_, .own 0 0, _, E.Fx, _, rfl, ⟨rfl, rfl⟩, hrow.1, ⟨?_, hrow.2.size, fun k hk => .inl hk, ?_⟩, ?_⟩
  · rw [hM]; exact hrow.2.mv
  · intro id bk v k g1 g2 g3
    rcases hrow.2.own id bk v k g1 g2 g3 with h | ⟨_, _, _, h, _⟩
    · exact .inl h
    · simp at h
  · refine .own rfl (by simp [gens]) (fun g1 hg => by simp [gens] at hg; omega) (fun _ => ⟨Hd.flat _, ?_, rfl⟩)
    rw [hβ]
    rfl

end Go.Proofs.YtpffahmmklpifaaGreat.Abs
