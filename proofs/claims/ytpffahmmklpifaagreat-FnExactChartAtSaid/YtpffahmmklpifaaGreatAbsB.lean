/- The walk over abstract states: what it means that code, an operation, a call goes well from a state, and the rules for sequences, tests, blocks, loops, plain regions and bodies. -/
import Derived.Tactics
import Derived.Test.YtpffahmmklpifaaGreatAbsA
namespace Go.Proofs.YtpffahmmklpifaaGreat.Abs
open Go.RowKit
set_option linter.unusedVariables false

structure Env where
 base : Nat
 w0 : World
 win : World
 Fx : Nat → Prop
 β : List Hd
 M : Mem

structure Out (E : Env) (w : World) (Fx : Nat → Prop) (β : List Hd) (M : Mem) : Prop where
 mv : Mv E.win E.Fx E.β (gens E.M) w Fx β (gens M)
 size : E.win.heap.size ≤ w.heap.size
 lim : ∀ k, Fx k → E.Fx k ∨ E.win.heap.size ≤ k ∨ ∃ (id : Nat) (b : Blk) (v : Hd), E.M[id]? = some (some b) ∧ E.β[id]? = some v ∧ v.has k
 own : ∀ (id : Nat) b v k, M[id]? = some (some b) → β[id]? = some v → v.has k → E.win.heap.size ≤ k ∨ ∃ (id' : Nat) (b' : Blk) (v' : Hd), E.M[id']? = some (some b') ∧ E.β[id']? = some v' ∧ v'.has k

def Slots (w : World) (Fx : Nat → Prop) (β : List Hd) (G : List (Option Nat)) (tm : List AV) (us : Array Value) : Prop :=
 us.size = tm.length ∧ ∀ (t : Nat) (x : AV) (u : Value), tm[t]? = some x → us[t]? = some u → Rep w Fx β G x u

def Sim (E : Env) (tm : List AV) (M : Mem) (a : Act) (w : World) : Prop :=
 a.defers = [] ∧ ∃ Fx β, HS E.base E.w0 w Fx β M ∧ Out E w Fx β M ∧ Slots w Fx β (gens M) tm a.tmps

abbrev NPost := List AV → Mem → Prop
abbrev XPost := Exit → List AV → Mem → Prop

def AW (P : Program) (c : Code) (E : Env) (tm : List AV) (M : Mem) (Qx : XPost) : Prop :=
 ∀ a w (Q : Exit → Act → World → Prop), Sim E tm M a w → (∀ e tm' M' a' w', Qx e tm' M' → Sim E tm' M' a' w' → Q e a' w') → c.wp P Q a w
def OpA (P : Program) (o : Oper) (E : Env) (tm : List AV) (M : Mem) (N : NPost) : Prop :=
 ∀ a w (K : Act → World → Prop) (Q : Exit → Act → World → Prop), Sim E tm M a w → (∀ tm' M' a' w', N tm' M' → Sim E tm' M' a' w' → K a' w') → o.wp P a w K Q
def AL (P : Program) (ops : Array Oper) (rest : List Oper) (E : Env) (tm : List AV) (M : Mem) (N : NPost) : Prop :=
 ∀ a w (Q : Exit → Act → World → Prop), Sim E tm M a w → (∀ tm' M' a' w', N tm' M' → Sim E tm' M' a' w' → Q .normal a' w') → wpList P ops Q rest a w
def ACalls (P : Program) (f : FuncId) (args : List AV) (M : Mem) (R : AV → Mem → Prop) : Prop :=
 ∀ (E : Env) (vals : Array Value), E.M = M → HS E.base E.w0 E.win E.Fx E.β M → Slots E.win E.Fx E.β (gens M) args vals →
  Calls P f vals E.win fun e w' => ∃ v r M' Fx β, e = .returned v ∧ R r M' ∧ HS E.base E.w0 w' Fx β M' ∧ Out E w' Fx β M' ∧ Rep w' Fx β (gens M') r v

section
variable {P : Program} {E : Env} {tm : List AV} {M : Mem}

theorem AW.seq {x y : Code} {Qx : XPost} (h : AW P x E tm M (fun e tm' M' => match e with | .normal => AW P y E tm' M' Qx | e => Qx e tm' M')) : AW P (.seq x y) E tm M Qx := by
 intro a w Q hs hq
 refine wp_seq (h a w _ hs fun e tm' M' a' w' hx hs' => ?_)
 cases e <;> first | exact hx a' w' Q hs' hq | exact hq _ _ _ _ _ hx hs'
theorem AW.mono {c : Code} {Qx Qy : XPost} (h : AW P c E tm M Qx) (hq : ∀ e tm' M', Qx e tm' M' → Qy e tm' M') : AW P c E tm M Qy :=
 fun a w Q hs k => h a w Q hs fun e tm' M' a' w' hx hs' => k e tm' M' a' w' (hq _ _ _ hx) hs'
theorem AW.skip {Qx : XPost} (h : Qx .normal tm M) : AW P .skip E tm M Qx := fun a w Q hs k => wp_skip (k _ _ _ _ _ h hs)
theorem AW.label {l : Nat} {Qx : XPost} (h : Qx .normal tm M) : AW P (.label l) E tm M Qx := fun a w Q hs k => wp_label (k _ _ _ _ _ h hs)
theorem AW.exit {id : Nat} {Qx : XPost} (h : Qx (.exit id) tm M) : AW P (.exit id) E tm M Qx := fun a w Q hs k => wp_exit (k _ _ _ _ _ h hs)
theorem AW.ret {Qx : XPost} (h : Qx .ret tm M) : AW P .ret E tm M Qx := fun a w Q hs k => wp_ret (k _ _ _ _ _ h hs)
theorem AW.block {id : Nat} {c : Code} {Qx : XPost} (h : AW P c E tm M (fun e tm' M' => match e with | .exit id' => if id' = id then Qx .normal tm' M' else Qx (.exit id') tm' M' | e => Qx e tm' M')) : AW P (.block id c) E tm M Qx := by
 intro a w Q hs hq
 refine wp_block (h a w _ hs fun e tm' M' a' w' hx hs' => ?_)
 cases e with
 | exit id' =>
  show Exit.inBlock id Q (.exit id') a' w'
  simp only [Exit.inBlock]
  by_cases hid : id' = id
  · rw [if_pos hid]
    simp only [hid, if_true] at hx
    exact hq _ _ _ _ _ hx hs'
  · rw [if_neg hid]
    simp only [hid, if_false] at hx
    exact hq _ _ _ _ _ hx hs'
 | _ => exact hq _ _ _ _ _ hx hs'

theorem Slots.get {w : World} {Fx : Nat → Prop} {β : List Hd} {G : List (Option Nat)} {us : Array Value} (h : Slots w Fx β G tm us) {t : Nat} {x : AV} (hx : tm[t]? = some x) :
 ∃ u, us[t]? = some u ∧ Rep w Fx β G x u := by
 have ht : t < us.size := by rw [h.1]; exact (List.getElem?_eq_some_iff.1 hx).1
 have hu : us[t]? = some us[t] := Array.getElem?_eq_getElem ht
 exact ⟨_, hu, h.2 t x _ hx hu⟩
theorem Rep.c_inv {w : World} {Fx : Nat → Prop} {β : List Hd} {G : List (Option Nat)} {x u : Value} (h : Rep w Fx β G (.c x) u) : u = x := by cases h; rfl
theorem eval_tmp {a : Act} {t : Nat} {u : Value} (h : a.tmps[t]? = some u) : a.eval (.tmp t) = u := by
 simp [Act.eval, Array.getD_eq_getD_getElem?, h]

theorem AW.cond_true {c : Nat} {x y : Code} {Qx : XPost} (hc : tm[c]? = some (.c (.bool true))) (h : AW P x E tm M Qx) : AW P (.cond (.tmp c) x y) E tm M Qx := by
 intro a w Q hs hq
 obtain ⟨_, Fx, β, _, _, hsl⟩ := id hs
 obtain ⟨u, hu, hr⟩ := hsl.get hc
 obtain rfl := hr.c_inv
 exact wp_cond_true (eval_tmp hu) (h a w Q hs hq)
theorem AW.cond_false {c : Nat} {x y : Code} {Qx : XPost} (hc : tm[c]? = some (.c (.bool false))) (h : AW P y E tm M Qx) : AW P (.cond (.tmp c) x y) E tm M Qx := by
 intro a w Q hs hq
 obtain ⟨_, Fx, β, _, _, hsl⟩ := id hs
 obtain ⟨u, hu, hr⟩ := hsl.get hc
 obtain rfl := hr.c_inv
 exact wp_cond_false (eval_tmp hu) (h a w Q hs hq)
theorem AW.cond {c : Nat} {b : Bool} {x y : Code} {Qx : XPost} (hc : tm[c]? = some (.c (.bool b))) (h1 : b = true → AW P x E tm M Qx) (h2 : b = false → AW P y E tm M Qx) : AW P (.cond (.tmp c) x y) E tm M Qx := by
 cases b
 · exact AW.cond_false hc (h2 rfl)
 · exact AW.cond_true hc (h1 rfl)

theorem least_of {p : Nat → Prop} (h : ∃ n, p n) : ∃ n, p n ∧ ∀ m, p m → n ≤ m := by
 obtain ⟨n, hn⟩ := h
 induction n using Nat.strongRecOn with
 | _ n ih =>
  by_cases hk : ∃ m, m < n ∧ p m
  · obtain ⟨m, hm, hp⟩ := hk
    exact ih m hm hp
  · exact ⟨n, hn, fun m hm => Nat.le_of_not_lt fun hlt => hk ⟨m, hlt, hm⟩⟩
theorem AW.loop {c : Code} {Qx : XPost} (I : Nat → List AV → Mem → Prop) (n : Nat) (h0 : I n tm M)
 (round : ∀ n tm M, I n tm M → AW P c E tm M (fun e tm' M' => match e with | .normal => ∃ m, m < n ∧ I m tm' M' | e => Qx e tm' M')) : AW P (.loop c) E tm M Qx := by
 intro a w Q hs hq
 classical
 let J : Act → World → Nat → Prop := fun a w m => ∃ tm M, I m tm M ∧ Sim E tm M a w
 have hJ : J a w n := ⟨tm, M, h0, hs⟩
 let μ : Act → World → Nat := fun a w => if h : ∃ m, J a w m then Classical.choose (least_of h) else 0
 have least : ∀ a w m, J a w m → μ a w ≤ m := fun a w m hm => by
  have : ∃ m, J a w m := ⟨m, hm⟩
  simp only [μ, dif_pos this]
  exact (Classical.choose_spec (least_of this)).2 m hm
 refine wp_loop (fun a w => ∃ m, J a w m) μ ⟨n, hJ⟩ ?_
 intro a w hm
 have hspec : J a w (μ a w) := by
  simp only [μ, dif_pos hm]
  exact (Classical.choose_spec (least_of hm)).1
 obtain ⟨tm, M, hI, hs⟩ := hspec
 refine round _ tm M hI a w _ hs fun e tm' M' a' w' hx hs' => ?_
 cases e with
 | normal =>
  obtain ⟨m, hlt, hI'⟩ := hx
  exact ⟨⟨m, tm', M', hI', hs'⟩, Nat.lt_of_le_of_lt (least _ _ _ ⟨tm', M', hI', hs'⟩) hlt⟩
 | _ => exact hq _ _ _ _ _ hx hs'

theorem AW.region {id : Nat} {l : List Oper} {Qx : XPost} (h : AL P l.toArray l E tm M (Qx .normal)) : AW P (.region id l.toArray false) E tm M Qx :=
 fun a w Q hs hq => wp_region_lit (h a w Q hs fun tm' M' a' w' hx hs' => hq _ _ _ _ _ hx hs')
theorem AL.nil {ops : Array Oper} {N : NPost} (h : N tm M) : AL P ops [] E tm M N := fun a w Q hs k => k _ _ _ _ h hs
theorem AL.step {ops : Array Oper} {o : Oper} {rest : List Oper} {N : NPost} (hg : o.guard = none) (h : OpA P o E tm M (fun tm' M' => AL P ops rest E tm' M' N)) : AL P ops (o :: rest) E tm M N :=
 fun a w Q hs k => wpList_plain hg fun K hK => h a w K Q hs fun tm' M' a' w' hx hs' => hK a' w' (hx a' w' Q hs' k)

theorem yielded_of {ops : Array Oper} {a : Act} {w : World} (hs : Sim E tm M a w) {j d : Nat} {oj : Oper} {b : Bool} (hj : ops[j]? = some oj) (hd : oj.dst = some d) (hb : tm[d]? = some (.c (.bool b))) : yielded ops a.tmps j = some b := by
 obtain ⟨_, Fx, β, _, _, hsl⟩ := hs
 obtain ⟨u, hu, hr⟩ := hsl.get hb
 obtain rfl := hr.c_inv
 simp [yielded, hj, hd, hu]
theorem AL.guard_in {ops : Array Oper} {o : Oper} {rest : List Oper} {N : NPost} {j d : Nat} {oj : Oper} {b : Bool} (hg : o.guard = some (j, b)) (hj : ops[j]? = some oj) (hd : oj.dst = some d) (hb : tm[d]? = some (.c (.bool b)))
 (h : OpA P o E tm M (fun tm' M' => AL P ops rest E tm' M' N)) : AL P ops (o :: rest) E tm M N :=
 fun a w Q hs k => wpList_step fun K hK => by
  have hy := yielded_of hs hj hd hb
  have hw : Region.wanted o (yielded ops a.tmps) = true := by simp [Region.wanted, hg, hy]
  rw [if_pos hw]
  exact h a w K Q hs fun tm' M' a' w' hx hs' => hK a' w' (hx a' w' Q hs' k)

theorem Slots.put {w : World} {Fx : Nat → Prop} {β : List Hd} {G : List (Option Nat)} {us : Array Value} (h : Slots w Fx β G tm us) (d : Nat) {x : AV} {u : Value} (hr : Rep w Fx β G x u) : Slots w Fx β G (tm.set d x) (us.setIfInBounds d u) := by
 refine ⟨by simp [h.1], fun t y v hy hv => ?_⟩
 rw [List.getElem?_set] at hy
 rw [Array.getElem?_setIfInBounds] at hv
 by_cases e : d = t
 · subst e
   rw [if_pos rfl] at hy
   by_cases hl : d < tm.length
   · rw [if_pos hl] at hy
     have hl2 : d < us.size := by rw [h.1]; exact hl
     simp [hl2] at hv
     obtain rfl := Option.some.inj hy
     subst hv
     exact hr
   · rw [if_neg hl] at hy; cases hy
 · rw [if_neg e] at hy
   rw [if_neg e] at hv
   exact h.2 t y v hy hv
def dput (tm : List AV) (d : Option Nat) (x : AV) : List AV := match d with | some d => tm.set d x | none => tm
theorem Slots.dput {w : World} {Fx : Nat → Prop} {β : List Hd} {G : List (Option Nat)} {a : Act} (h : Slots w Fx β G tm a.tmps) (d : Option Nat) {x : AV} {u : Value} (hr : Rep w Fx β G x u) : Slots w Fx β G (dput tm d x) (a.put d u).tmps := by
 cases d with
 | none => exact h
 | some d => exact h.put d hr
theorem put_defers (a : Act) (d : Option Nat) (u : Value) : (a.put d u).defers = a.defers := by cases d <;> rfl
theorem Slots.mv {w w' : World} {Fx Fx' : Nat → Prop} {β β' : List Hd} {G G' : List (Option Nat)} {us : Array Value} (h : Slots w Fx β G tm us) (m : Mv w Fx β G w' Fx' β' G') : Slots w' Fx' β' G' tm us :=
 ⟨h.1, fun t x u hx hu => (h.2 t x u hx hu).mv m⟩

theorem Sim.put {a : Act} {w : World} (hs : Sim E tm M a w) (d : Option Nat) {x : AV} {u : Value} (hr : ∀ Fx β, HS E.base E.w0 w Fx β M → Slots w Fx β (gens M) tm a.tmps → Rep w Fx β (gens M) x u) : Sim E (dput tm d x) M (a.put d u) w := by
 obtain ⟨hd, Fx, β, hh, ho, hsl⟩ := hs
 exact ⟨(put_defers a d u).trans hd, Fx, β, hh, ho, hsl.dput d (hr Fx β hh hsl)⟩
theorem AL.guard_out {ops : Array Oper} {o : Oper} {rest : List Oper} {N : NPost} {j d : Nat} {oj : Oper} {b : Bool} (hg : o.guard = some (j, !b)) (hj : ops[j]? = some oj) (hd : oj.dst = some d) (hb : tm[d]? = some (.c (.bool b)))
 (h : AL P ops rest E (dput tm o.dst (.c undef)) M N) : AL P ops (o :: rest) E tm M N :=
 fun a w Q hs k => wpList_step fun K hK => by
  have hy := yielded_of hs hj hd hb
  have hw : Region.wanted o (yielded ops a.tmps) = false := by cases b <;> simp [Region.wanted, hg, hy]
  rw [if_neg (by rw [hw]; decide)]
  exact hK _ _ (h _ w Q (hs.put o.dst fun _ _ _ _ => .c undef) k)

def ResA (P : Program) (fn : Func) (tm : List AV) (M : Mem) (r : AV) : Prop :=
 ∀ (E : Env) (a : Act) (w : World) Fx β, HS E.base E.w0 w Fx β M → Slots w Fx β (gens M) tm a.tmps → ∃ v, (results fn a.tmps).run P w = .ok v w ∧ Rep w Fx β (gens M) r v
theorem ACalls.enter {f : FuncId} {fn : Func} {c : Code} {args : List AV} {R : AV → Mem → Prop} (hf : P.funcs[f]? = some fn) (hb : fn.body = some c) (n : Nat) (hn : fn.ntmps = args.length + n)
 (h : ∀ E : Env, E.M = M → AW P c E (args ++ List.replicate n (.c undef)) M (fun e tm' M' => (e = .normal ∨ e = .ret) ∧ ∃ r, ResA P fn tm' M' r ∧ R r M')) : ACalls P f args M R := by
 intro E vals hM hh hsl
 refine calls_of_wp hf hb (h E hM _ _ _ ⟨rfl, E.Fx, E.β, hh, ⟨?_, Nat.le_refl _, fun k hk => .inl hk, fun id b v k h1 h2 h3 => .inr ⟨id, b, v, by rw [hM]; exact h1, h2, h3⟩⟩, ?_⟩ ?_)
 · rw [hM]; exact Mv.refl
 · refine ⟨?_, fun t x u hx hu => ?_⟩
   · simp [hsl.1]; omega
   · have e : fn.ntmps - vals.size = n := by rw [hsl.1]; omega
     simp only [e] at hu
     rcases Nat.lt_or_ge t args.length with ht | ht
     · rw [List.getElem?_append_left ht] at hx
       rw [Array.getElem?_append_left (by rw [hsl.1]; exact ht)] at hu
       exact hsl.2 t x u hx hu
     · rw [List.getElem?_append_right ht, List.getElem?_replicate] at hx
       rw [Array.getElem?_append_right (by rw [hsl.1]; exact ht), Array.getElem?_replicate] at hu
       split at hx
       · split at hu
         · obtain rfl := Option.some.inj hx
           obtain rfl := Option.some.inj hu
           exact .c undef
         · cases hu
       · cases hx
 · rintro e tm' M' a' w' ⟨he, r, hres, hR⟩ ⟨hd, Fx, β, hh', ho', hs'⟩
   obtain ⟨v, hv, hrep⟩ := hres E a' w' Fx β hh' hs'
   rcases he with rfl | rfl <;> exact ⟨hd, v, hv, v, r, M', Fx, β, rfl, hR, hh', ho', hrep⟩
end
end Go.Proofs.YtpffahmmklpifaaGreat.Abs
