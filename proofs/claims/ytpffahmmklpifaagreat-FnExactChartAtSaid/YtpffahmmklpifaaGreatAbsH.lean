/- Tests that a walk parts by, and whole-number builtins, over abstract states. -/
import Derived.Test.YtpffahmmklpifaaGreatAbsG
namespace Go.Proofs.YtpffahmmklpifaaGreat.Abs
open Go.RowKit
set_option linter.unusedVariables false
set_option linter.unusedSimpArgs false

section
variable {P : Program} {E : Env} {tm : List AV} {M : Mem} {o : Oper} {ops : Array Oper} {rest : List Oper} {N : NPost}
theorem AL.guard {j d : Nat} {oj : Oper} {b t : Bool} (hg : o.guard = some (j, b)) (hj : ops[j]? = some oj) (hd : oj.dst = some d) (hb : tm[d]? = some (.c (.bool t)))
 (h1 : t = b → OpA P o E tm M (fun tm' M' => AL P ops rest E tm' M' N)) (h0 : t = (!b) → AL P ops rest E (dput tm o.dst (.c undef)) M N) : AL P ops (o :: rest) E tm M N := by
 by_cases e : t = b
 · subst e
   exact AL.guard_in hg hj hd hb (h1 rfl)
 · have e2 : t = !b := by cases t <;> cases b <;> simp_all
   refine AL.guard_out (b := t) ?_ hj hd hb (h0 e2)
   rw [hg, e2]
   simp
theorem QOp.pick {c x z : Operand} {t : Bool} {y1 y2 : AV} (ho : o.op = .pick c x z) (hc : sc tm c = some (.bool t)) (hx : t = true → evA tm x = some y1) (hz : t = false → evA tm z = some y2) : QOp P o tm M (if t then y1 else y2) := by
 cases t
 · exact QOp.pick_false ho hc (hz rfl)
 · exact QOp.pick_true ho hc (hx rfl)
theorem QOp.min {x y : Operand} {ts : Array TypeId} {k : IntKind} {a b : Int} (ho : o.op = .call { callee := .builtin .min, args := #[x, y], argTypes := ts }) (hx : sc tm x = some (.int k a)) (hy : sc tm y = some (.int k b)) : QOp P o tm M (.c (.int k (if b < a then b else a))) :=
 fun base w0 ac w Fx β hh hs => ⟨_, fun w' _ => by
  simp [execOp, ho, resolve, invoke, builtin, hs.sc hx, hs.sc hy, Builtin.min_, Builtin.min2], .c _⟩
theorem QOp.max {x y : Operand} {ts : Array TypeId} {k : IntKind} {a b : Int} (ho : o.op = .call { callee := .builtin .max, args := #[x, y], argTypes := ts }) (hx : sc tm x = some (.int k a)) (hy : sc tm y = some (.int k b)) : QOp P o tm M (.c (.int k (if b > a then b else a))) :=
 fun base w0 ac w Fx β hh hs => ⟨_, fun w' _ => by
  simp [execOp, ho, resolve, invoke, builtin, hs.sc hx, hs.sc hy, Builtin.max_, Builtin.max2], .c _⟩
theorem OpA.pcall {f : FuncId} {fn : Func} {args : Array Operand} {ts : Array TypeId} {as : List AV} {r : AV} (ho : o.op = .call { callee := .value (.func f), args := args, argTypes := ts }) (hf : P.funcs[f]? = some fn)
 (hn : (fn.name == "runtime.NumGoroutine") = false) (hb : fn.body.isSome = true) (ha : args.toList.mapM (evA tm) = some as) (hv : ∀ x ∈ as, Clo x)
 (hc : VCalls P f as (fun r' M' => r' = r ∧ M' = [])) (hr : Clo r) (hN : N (dput tm o.dst r) M) : OpA P o E tm M N := by
 refine OpA.vcall false ho hf hn hb ha rfl (fun i x x' hx hx' => ?_) hc (fun r' M' hR => ?_)
 · rw [hx] at hx'
   obtain rfl := Option.some.inj hx'
   have := hv x (List.mem_of_getElem? hx)
   exact ⟨.same this, fun _ => ⟨this, rfl⟩⟩
 · obtain ⟨rfl, rfl⟩ := hR
   exact ⟨fun b hb => by simp at hb, .inl rfl, r', Sh.clo hr, by rw [List.append_nil]; exact hN⟩
theorem QOp.pickT {c x z : Operand} {t : Bool} {y : AV} (ho : o.op = .pick c x z) (hc : sc tm c = some (.bool t)) (ht : t = true) (hx : evA tm x = some y) : QOp P o tm M y := QOp.pick_true ho (by rw [hc, ht]) hx
theorem QOp.pickF {c x z : Operand} {t : Bool} {y : AV} (ho : o.op = .pick c x z) (hc : sc tm c = some (.bool t)) (ht : t = false) (hx : evA tm z = some y) : QOp P o tm M y := QOp.pick_false ho (by rw [hc, ht]) hx

def Fin (P : Program) (fn : Func) (R : AV → Mem → Prop) (e : Exit) (tm : List AV) (M : Mem) : Prop := (e = .normal ∨ e = .ret) ∧ ∃ r, ResA P fn tm M r ∧ ∃ r2 M2, Pack r M r2 M2 ∧ R r2 M2
theorem Fin.one {fn : Func} {R : AV → Mem → Prop} {rv : ResultVar} {x : AV} (hf : fn.results = #[rv]) (hx : RV P tm M rv x) (hc : Clo x) (hR : R x []) : Fin P fn R .ret tm M := ⟨.inr rfl, x, ResA.one hf hx, x, [], Pack.none hc, hR⟩
theorem Fin.two {fn : Func} {R : AV → Mem → Prop} {r1 r2 : ResultVar} {x y : AV} (hf : fn.results = #[r1, r2]) (hx : RV P tm M r1 x) (hy : RV P tm M r2 y) (hc : Clo (.tup [x, y])) (hR : R (.tup [x, y]) []) : Fin P fn R .ret tm M := ⟨.inr rfl, _, ResA.two hf hx hy, _, [], Pack.none hc, hR⟩
theorem Fin.row {fn : Func} {R : AV → Mem → Prop} {rv : ResultVar} {id g : Nat} {b : Blk} (hf : fn.results = #[rv]) (hx : RV P tm M rv (.own id g)) (hM : M[id]? = some (some b)) (hc : ∀ e ∈ b.es, ∀ x ∈ e, Clo x) (hR : R (.own 0 g) [some b]) : Fin P fn R .ret tm M :=
 ⟨.inr rfl, _, ResA.one hf hx, _, _, Pack.one hM (fun e he x hx => (hc e he x hx).c) Only.own, hR⟩
theorem VCalls.body {f : FuncId} {fn : Func} {c : Code} {args : List AV} {R : AV → Mem → Prop} (hf : P.funcs[f]? = some fn) (hb : fn.body = some c) (n : Nat) (hn : fn.ntmps = args.length + n)
 (h : ∀ E : Env, AW P c E (args ++ List.replicate n (.c undef)) [] (Fin P fn R)) : VCalls P f args R := VCalls.enter hf hb n hn fun E _ => h E
end
section
theorem clo_c (v : Value) : Clo (.c v) := (Pur.c v).clo
end
end Go.Proofs.YtpffahmmklpifaaGreat.Abs
