/- Calls under a condition on the world that lasts (a table of a library's that stays as it was laid). -/
import Derived.Test.YtpffahmmklpifaaGreatAbsZ
import Derived.Lib.LaidTab
namespace Go.Proofs.YtpffahmmklpifaaGreat.Abs
open Go.RowKit
set_option linter.unusedVariables false
set_option linter.unusedSimpArgs false

def Keeps (I : World → Prop) (base : Nat) (w0 : World) : Prop := ∀ w, Below base w0 w → I w
theorem Keeps.on {I : World → Prop} {base : Nat} {w0 w : World} (h : Keeps I base w0) (hb : Below base w0 w) (hs : base ≤ w.heap.size) : Keeps I w.heap.size w := fun w' h' => h w' (hb.trans (h'.mono hs))
def VCallsI (P : Program) (I : World → Prop) (f : FuncId) (args : List AV) (R : AV → Mem → Prop) : Prop :=
 ∀ (E : Env) (vals : Array Value), Keeps I E.base E.w0 → E.M = [] → HS E.base E.w0 E.win E.Fx E.β [] → Slots E.win E.Fx E.β (gens []) args vals →
  Calls P f vals E.win fun e w' => ∃ v r M' Fx β, e = .returned v ∧ R r M' ∧ HS E.base E.w0 w' Fx β M' ∧ Out E w' Fx β M' ∧ Rep w' Fx β (gens M') r v
section
variable {P : Program} {I : World → Prop} {E : Env} {tm : List AV} {M : Mem} {o : Oper}
theorem enterA {f : FuncId} {fn : Func} {c : Code} {args : List AV} {R : AV → Mem → Prop} (hf : P.funcs[f]? = some fn) (hb : fn.body = some c) (n : Nat) (hn : fn.ntmps = args.length + n)
 (E : Env) (vals : Array Value) (hM : E.M = M) (hh : HS E.base E.w0 E.win E.Fx E.β M) (hsl : Slots E.win E.Fx E.β (gens M) args vals)
 (h : AW P c E (args ++ List.replicate n (.c undef)) M (fun e tm' M' => (e = .normal ∨ e = .ret) ∧ ∃ r, ResA P fn tm' M' r ∧ R r M')) :
 Calls P f vals E.win fun e w' => ∃ v r M' Fx β, e = .returned v ∧ R r M' ∧ HS E.base E.w0 w' Fx β M' ∧ Out E w' Fx β M' ∧ Rep w' Fx β (gens M') r v := by
 refine calls_of_wp hf hb (h _ _ _ ⟨rfl, E.Fx, E.β, hh, ⟨?_, Nat.le_refl _, fun k hk => .inl hk, fun id b v k h1 h2 h3 => .inr ⟨id, b, v, by rw [hM]; exact h1, h2, h3⟩⟩, ?_⟩ ?_)
 · rw [hM]; exact Mv.refl
 · refine ⟨?_, fun t x u hx hu => ?_⟩
   · simp [hsl.1]; omega
   · have e : fn.ntmps - vals.size = n := by rw [hsl.1]; omega
     simp only [e] at hu
     rcases Nat.lt_or_ge t args.length with ht | ht
     · rw [List.getElem?_append_left ht] at hx
       rw [Array.getElem?_append_left (by rw [hsl.1]; exact ht)] at hu
       exact hsl.2 t x u hx hu
     · rw [List.getElem?_append_right ht, List.getElem?_replicate] at hx
       rw [Array.getElem?_append_right (by rw [hsl.1]; exact ht), Array.getElem?_replicate] at hu
       split at hx
       · split at hu
         · obtain rfl := Option.some.inj hx
           obtain rfl := Option.some.inj hu
           exact .c undef
         · cases hu
       · cases hx
 · rintro e tm' M' a' w' ⟨he, r, hres, hR⟩ ⟨hd, Fx, β, hh', ho', hs'⟩
   obtain ⟨v, hv, hrep⟩ := hres E a' w' Fx β hh' hs'
   rcases he with rfl | rfl <;> exact ⟨hd, v, hv, v, r, M', Fx, β, rfl, hR, hh', ho', hrep⟩
theorem VCalls.enterAt {f : FuncId} {fn : Func} {c : Code} {args : List AV} {R : AV → Mem → Prop} (hf : P.funcs[f]? = some fn) (hb : fn.body = some c) (n : Nat) (hn : fn.ntmps = args.length + n)
 (E : Env) (hM : E.M = []) (h : AW P c E (args ++ List.replicate n (.c undef)) [] (fun e tm' M' => (e = .normal ∨ e = .ret) ∧ ∃ r, ResA P fn tm' M' r ∧ ∃ r2 M2, Pack r M' r2 M2 ∧ R r2 M2)) (vals : Array Value) (hh : HS E.base E.w0 E.win E.Fx E.β []) (hsl : Slots E.win E.Fx E.β (gens []) args vals) :
 Calls P f vals E.win fun e w' => ∃ v r M' Fx β, e = .returned v ∧ R r M' ∧ HS E.base E.w0 w' Fx β M' ∧ Out E w' Fx β M' ∧ Rep w' Fx β (gens M') r v := by
 have hA := enterA (R := fun r M' => ∃ r2 M2, Pack r M' r2 M2 ∧ R r2 M2) hf hb n hn E vals hM hh hsl (h.mono fun e tm' M' ⟨he, r, hr, hp⟩ => ⟨he, r, hr, hp⟩)
 refine hA.mono ?_
 rintro e w' ⟨v, r, M', Fx, β, rfl, ⟨r2, M2, hp, hR⟩, hh', ho, hr⟩
 -- the call's own memory from its begin on
 obtain ⟨β2, hh2, hr2, hbl⟩ := hp E.base E.w0 w' Fx β v hh' hr
 have hE0 : gens E.M = [] := by rw [hM]; rfl
 refine ⟨v, r2, M2, Fx, β2, rfl, hR, hh2, ⟨?_, ho.size, ho.lim, fun id b v k g1 g2 g3 => ?_⟩, hr2⟩
 · refine ⟨ho.mv.fx, ho.mv.heap, by rw [hE0]; simp, fun id g' hid => ?_⟩
   rw [hE0] at hid
   simp at hid
 · obtain ⟨id', b', v', g4, g5, g6⟩ := hbl id b v k g1 g2 g3
   exact ho.own id' b' v' k g4 g5 g6
theorem VCallsI.bodyE {f : FuncId} {fn : Func} {c : Code} {args : List AV} {R : AV → Mem → Prop} (hf : P.funcs[f]? = some fn) (hb : fn.body = some c) (n : Nat) (hn : fn.ntmps = args.length + n)
 (h : ∀ E : Env, E.M = [] → Keeps I E.base E.w0 → AW P c E (args ++ List.replicate n (.c undef)) [] (Fin P fn R)) : VCallsI P I f args R := by
 intro E vals hK hM hh hs
 exact VCalls.enterAt hf hb n hn E hM (h E hM hK) vals hh hs
theorem VCallsI.plain {f : FuncId} {vs : List Value} {v : Value} (h : ∀ w, I w → Calls P f vs.toArray w fun e w' => e = .returned v ∧ Below w.heap.size w w') : VCallsI P I f (vs.map .c) (fun r M => r = .c v ∧ M = []) := by
 intro E vals hK hM hh hsl
 obtain rfl := hsl.plain
 refine (h E.win (hK _ hh.bel)).mono ?_
 rintro e w' ⟨rfl, hb⟩
 obtain ⟨hh', m⟩ := hh.step hb
 exact ⟨v, .c v, [], E.Fx, E.β, rfl, ⟨rfl, rfl⟩, hh', ⟨by rw [hM]; exact m, hb.size, fun k hk => .inl hk, fun id b v k h1 => by simp at h1⟩, .c v⟩
theorem VCallsI.law {f : FuncId} {args : List AV} {R : AV → Mem → Prop} {W : World} {vals : List Value} (h : VCallsI P I f args R) (hI : Keeps I W.heap.size W) (hr : ∀ r M, R r M → r = .c (.bool true)) (hs : Slots W (fun k => k < W.heap.size) [] [] args vals.toArray) :
 Calls P f vals.toArray W fun e w' => e = .returned (.bool true) ∧ Below W.heap.size W w' := by
 refine (h ⟨W.heap.size, W, W, fun k => k < W.heap.size, [], []⟩ _ hI rfl ⟨Below.refl _ _, Nat.le_refl _, fun k hk => hk, rfl, fun id b h => by simp at h, fun i1 i2 b1 b2 v1 v2 k _ h => by simp at h⟩ hs).mono ?_
 rintro e w' ⟨v, r, M', Fx, β, rfl, hR, hh, ho, hrep⟩
 obtain rfl := hr r M' hR
 obtain rfl := hrep.c_inv
 exact ⟨rfl, hh.bel⟩
end
end Go.Proofs.YtpffahmmklpifaaGreat.Abs
