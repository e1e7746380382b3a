/- Results, and a body whose callers hand it values alone, over abstract states. -/
import Derived.Test.YtpffahmmklpifaaGreatAbsF
namespace Go.Proofs.YtpffahmmklpifaaGreat.Abs
open Go.RowKit
set_option linter.unusedVariables false
set_option linter.unusedSimpArgs false

section
variable {P : Program} {E : Env} {tm : List AV} {M : Mem} {o : Oper} {w w0 : World} {Fx : Nat → Prop} {β : List Hd} {base : Nat} {fn : Func}

inductive RV (P : Program) (tm : List AV) (M : Mem) : ResultVar → AV → Prop where
 | tmp {t : Nat} {x : AV} (h : tm[t]? = some x) : RV P tm M (.tmp t) x
 | cell {t : Nat} {ty : TypeId} {x : AV} (h : QOp P { dst := none, op := .load ty (.tmp t), type := 0, pos := "", after := #[], guard := none } tm M x) : RV P tm M (.cell t ty) x
def RVrun (P : Program) (us : Array Value) (w : World) (v : Value) : ResultVar → Prop
 | .tmp t => us[t]?.getD undef = v
 | .cell a t => ∃ ad, us[a]?.getD undef = .pointer (some ad) ∧ (loadVar t ad).run P w = .ok v w
theorem RV.run {rv : ResultVar} {x : AV} (h : RV P tm M rv x) {a : Act} (hh : HS base w0 w Fx β M) (hs : Slots w Fx β (gens M) tm a.tmps) : ∃ v, RVrun P a.tmps w v rv ∧ Rep w Fx β (gens M) x v := by
 cases h with
 | @tmp t _ h =>
  obtain ⟨u, hu, hr⟩ := hs.get h
  exact ⟨u, by simp [RVrun, hu], hr⟩
 | @cell t ty _ h =>
  obtain ⟨v, hv, hr⟩ := h base w0 a w Fx β hh hs
  have h1 := hv w fun _ _ => rfl
  refine ⟨v, ?_, hr⟩
  have e : a.tmps[t]?.getD undef = a.eval (.tmp t) := by simp [Act.eval, Array.getD_eq_getD_getElem?]
  simp only [execOp] at h1
  generalize a.eval (.tmp t) = u at e h1
  simp only [RVrun, e]
  cases u with
  | pointer p =>
   cases p with
   | none => simp [Instr.loadAt, Instr.sureAddr] at h1
   | some ad =>
    refine ⟨ad, rfl, ?_⟩
    simp only [Instr.loadAt, Instr.sureAddr, Sem.run_bind, Sem.run_pure, Result.andThen_ok] at h1
    cases hq : (loadVar ty ad).run P w with
    | ok v' w' => rw [hq] at h1; simp at h1; obtain ⟨rfl, rfl⟩ := h1; rfl
    | halt x w' => rw [hq] at h1; simp at h1
  | _ => simp [Instr.loadAt, Instr.sureAddr] at h1
theorem ResA.one {rv : ResultVar} {x : AV} (hf : fn.results = #[rv]) (h : RV P tm M rv x) : ResA P fn tm M x := fun E a w Fx β hh hs => by
 obtain ⟨v, hv, hr⟩ := h.run hh hs
 refine ⟨v, ?_, hr⟩
 cases rv with
 | tmp t => simp only [RVrun] at hv; simp [results, hf, hv]
 | cell p t => obtain ⟨ad, e, hl⟩ := hv; simp [results, hf, e, hl, asAddr]
theorem ResA.two {r1 r2 : ResultVar} {x y : AV} (hf : fn.results = #[r1, r2]) (h1 : RV P tm M r1 x) (h2 : RV P tm M r2 y) : ResA P fn tm M (.tup [x, y]) := fun E a w Fx β hh hs => by
 obtain ⟨v, hv, hr⟩ := h1.run hh hs
 obtain ⟨u, hu, hr2⟩ := h2.run hh hs
 refine ⟨.tuple #[v, u], ?_, Rep.tup (us := [v, u]) rfl (fun i p q hp hq => ?_)⟩
 · cases r1 with
   | tmp t =>
    simp only [RVrun] at hv
    cases r2 with
    | tmp t2 => simp only [RVrun] at hu; simp [results, hf, hv, hu]
    | cell p2 t2 => obtain ⟨ad2, e2, hl2⟩ := hu; simp [results, hf, hv, e2, hl2, asAddr]
   | cell p t =>
    obtain ⟨ad, e, hl⟩ := hv
    cases r2 with
    | tmp t2 => simp only [RVrun] at hu; simp [results, hf, e, hl, hu, asAddr]
    | cell p2 t2 => obtain ⟨ad2, e2, hl2⟩ := hu; simp [results, hf, e, hl, e2, hl2, asAddr]
 · match i with
   | 0 => simp at hp hq; subst hp; subst hq; exact hr
   | 1 => simp at hp hq; subst hp; subst hq; exact hr2
   | i + 2 => simp at hp
theorem ResA.none (hf : fn.results = #[]) : ResA P fn tm M (.tup []) := fun E a w Fx β hh hs =>
 ⟨.tuple #[], by simp [results, hf], Rep.tup (us := []) rfl (fun i p q hp hq => by simp at hp)⟩

def Pack (r : AV) (M : Mem) (r2 : AV) (M2 : Mem) : Prop :=
 ∀ base w0 w Fx β v, HS base w0 w Fx β M → Rep w Fx β (gens M) r v → ∃ β2, HS base w0 w Fx β2 M2 ∧ Rep w Fx β2 (gens M2) r2 v ∧
  ∀ (id : Nat) b v k, M2[id]? = some (some b) → β2[id]? = some v → v.has k → ∃ (id' : Nat) (b' : Blk) (v' : Hd), M[id']? = some (some b') ∧ β[id']? = some v' ∧ v'.has k
theorem Pack.none {r : AV} (h : Clo r) : Pack r M r [] := fun base w0 w Fx β v hh hr =>
 ⟨[], ⟨hh.bel, hh.bs, hh.fx, rfl, fun id b h => by simp at h, fun i1 i2 b1 b2 v1 v2 k _ h => by simp at h⟩, h _ _ _ _ _ hr.cr, fun id b v k h => by simp at h⟩
def Only (id : Nat) (r r2 : AV) : Prop := ∀ w Fx β G v, id < G.length → Rep w Fx β G r v → Rep w Fx [(β[id]?).getD (Hd.flat undef)] [(G[id]?).getD none] r2 v
theorem Only.clo {id : Nat} {x : AV} (h : Clo x) : Only id x x := fun w Fx β G v _ hr => (h _ _ _ _ _ hr.cr).of_clo
theorem Only.own {id g : Nat} : Only id (.own id g) (.own 0 g) := fun w Fx β G v hid hr => by
 cases hr with
 | own ho hi hg h =>
  refine .own ho (by simp) (fun g1 h1 => hg g1 ?_) (fun h1 => ?_)
  · rw [List.getElem?_eq_getElem hid] at h1 ⊢
    simpa using h1
  · obtain ⟨hd, h2, h3⟩ := h (by rw [List.getElem?_eq_getElem hid] at h1 ⊢; simpa using h1)
    exact ⟨hd, by simp [h2], h3⟩
theorem Only.tup {id : Nat} {cs cs' : List AV} (hl : cs'.length = cs.length) (h : ∀ (i : Nat) x x', cs[i]? = some x → cs'[i]? = some x' → Only id x x') : Only id (.tup cs) (.tup cs') := fun w Fx β G v hid hr => by
 cases hr with
 | tup hl2 h3 => exact .tup (by rw [hl2, hl]) (fun i x' u hx hu => by
  have hlt : i < cs.length := by rw [← hl]; exact (List.getElem?_eq_some_iff.1 hx).1
  exact h i _ x' (List.getElem?_eq_getElem hlt) hx _ _ _ _ _ hid (h3 i _ u (List.getElem?_eq_getElem hlt) hu))
theorem Only.agg {id : Nat} {cs cs' : List AV} (hl : cs'.length = cs.length) (h : ∀ (i : Nat) x x', cs[i]? = some x → cs'[i]? = some x' → Only id x x') : Only id (.agg cs) (.agg cs') := fun w Fx β G v hid hr => by
 cases hr with
 | agg hl2 ho h3 => exact .agg (by rw [hl2, hl]) ho (fun i x' u hx hu => by
  have hlt : i < cs.length := by rw [← hl]; exact (List.getElem?_eq_some_iff.1 hx).1
  exact h i _ x' (List.getElem?_eq_getElem hlt) hx _ _ _ _ _ hid (h3 i _ u (List.getElem?_eq_getElem hlt) hu))
theorem Pack.one {r r2 : AV} {id : Nat} {b : Blk} (hM : M[id]? = some (some b)) (hc : ∀ e ∈ b.es, ∀ x ∈ e, CloC x) (h : Only id r r2) : Pack r M r2 [some b] := fun base w0 w Fx β v hh hr => by
 have hid : id < M.length := (List.getElem?_eq_some_iff.1 hM).1
 have hr2 := h w Fx β (gens M) v (by rw [gens_length]; exact hid) hr
 obtain ⟨hv, hhv, h1, h2⟩ := hh.blk id b hM
 have e1 : (β[id]?).getD (Hd.flat undef) = hv := by rw [hhv]; rfl
 have e2 : ((gens M)[id]?).getD Option.none = some b.gen := by rw [gens_of hM]; rfl
 rw [e1, e2] at hr2
 have crep : ∀ {pv : Nat → Prop} {hb : Option Nat} {xs : List Value}, CellsD w Fx β (gens M) pv hb b.sz b.es xs → CellsD w Fx [hv] (gens [some b]) pv hb b.sz b.es xs := fun hcr => ⟨hcr.len, fun i q hq => ⟨(hcr.cel i q hq).1, fun j x hx => by
  obtain ⟨u, hu, ho, hR⟩ := (hcr.cel i q hq).2 j x hx
  exact ⟨u, hu, ho, fun hn => (hc q (List.mem_of_getElem? hq) x (List.mem_of_getElem? hx) _ _ _ _ _ hR hn).of_clo⟩⟩, hcr.deep⟩
 refine ⟨[hv], ⟨hh.bel, hh.bs, hh.fx, rfl, fun id' b' hb' => ?_, fun i1 i2 b1 b2 v1 v2 k hne g1 g2 => ?_⟩, hr2, fun id' b' v' k g1 g2 g3 => ?_⟩
 · cases id' with
   | succ n => simp at hb'
   | zero =>
    simp at hb'
    subst hb'
    refine ⟨hv, rfl, h1, ?_⟩
    cases hbx : b.box with
    | true =>
     rw [hbx] at h2
     obtain ⟨k, xs, hvk, hk, hl, hcr⟩ := h2
     exact ⟨k, xs, hvk, hk, hl, crep hcr⟩
    | false =>
     rw [hbx] at h2
     obtain ⟨xs, ho, hcr⟩ := h2
     exact ⟨xs, ho, crep hcr⟩
 · have z1 : i1 = 0 := by
    rcases Nat.eq_zero_or_pos i1 with e | e
    · exact e
    · rw [List.getElem?_eq_none (by simp; omega)] at g1; cases g1
   have z2 : i2 = 0 := by
    rcases Nat.eq_zero_or_pos i2 with e | e
    · exact e
    · rw [List.getElem?_eq_none (by simp; omega)] at g2; cases g2
   omega
 · cases id' with
   | succ n => simp at g1
   | zero =>
    simp at g2
    subst g2
    exact ⟨id, b, hv, hM, hhv, g3⟩

theorem VCalls.enter {f : FuncId} {fn : Func} {c : Code} {args : List AV} {R : AV → Mem → Prop} (hf : P.funcs[f]? = some fn) (hb : fn.body = some c) (n : Nat) (hn : fn.ntmps = args.length + n)
 (h : ∀ E : Env, E.M = [] → AW P c E (args ++ List.replicate n (.c undef)) [] (fun e tm' M' => (e = .normal ∨ e = .ret) ∧ ∃ r, ResA P fn tm' M' r ∧ ∃ r2 M2, Pack r M' r2 M2 ∧ R r2 M2)) : VCalls P f args R := by
 have hA : ACalls P f args [] (fun r M' => ∃ r2 M2, Pack r M' r2 M2 ∧ R r2 M2) := ACalls.enter hf hb n hn fun E hE => (h E hE).mono fun e tm' M' ⟨he, r, hr, hp⟩ => ⟨he, r, hr, hp⟩
 intro E vals hM hh hsl
 refine (hA E vals hM hh hsl).mono ?_
 rintro e w' ⟨v, r, M', Fx, β, rfl, ⟨r2, M2, hp, hR⟩, hh', ho, hr⟩
 -- the call's own memory from its begin on
 obtain ⟨β2, hh2, hr2, hbl⟩ := hp E.base E.w0 w' Fx β v hh' hr
 have hE0 : gens E.M = [] := by rw [hM]; rfl
 refine ⟨v, r2, M2, Fx, β2, rfl, hR, hh2, ⟨?_, ho.size, ho.lim, fun id b v k g1 g2 g3 => ?_⟩, hr2⟩
 · refine ⟨ho.mv.fx, ho.mv.heap, by rw [hE0]; simp, fun id g' hid => ?_⟩
   rw [hE0] at hid
   simp at hid
 · obtain ⟨id', b', v', g4, g5, g6⟩ := hbl id b v k g1 g2 g3
   exact ho.own id' b' v' k g4 g5 g6
end
end Go.Proofs.YtpffahmmklpifaaGreat.Abs
