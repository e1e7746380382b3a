/- The quiet operations: what they yield from an abstract state, in every world that has the blocks that were there. -/
import Derived.Test.YtpffahmmklpifaaGreatAbsB
import Derived.Deep.MidRow
import Derived.Laws.Strings
import Derived.Laws.StructEq
import Derived.WalkKit
namespace Go.Proofs.YtpffahmmklpifaaGreat.Abs
open Go.RowKit
set_option linter.unusedVariables false
set_option linter.unusedSimpArgs false

def unw : AV → AV
 | .when true x => x
 | x => x
theorem Rep.unw {w : World} {Fx : Nat → Prop} {β : List Hd} {G : List (Option Nat)} {x : AV} {u : Value} (h : Rep w Fx β G x u) : Rep w Fx β G (Abs.unw x) u := by
 unfold Abs.unw
 split
 · cases h with
   | when h => exact h rfl
 · exact h
def evA (tm : List AV) : Operand → Option AV
 | .tmp t => match tm[t]? with
  | some (.when true x) => some x
  | y => y
 | .const v => some (.c v)
 | .func f => some (.fn f [])
 | .global _ => none
theorem evA_tmp {tm : List AV} {t : Nat} : evA tm (.tmp t) = (tm[t]?).map unw := by
 show (match tm[t]? with | some (.when true x) => some x | y => y) = _
 cases tm[t]? with
 | none => rfl
 | some y => cases y <;> first | rfl | (rename_i b x; cases b <;> rfl)
def sc (tm : List AV) (x : Operand) : Option Value := match evA tm x with
 | some (.c v) => some v
 | _ => none

section
variable {w : World} {Fx : Nat → Prop} {β : List Hd} {G : List (Option Nat)} {tm : List AV} {a : Act}
theorem Slots.ev (h : Slots w Fx β G tm a.tmps) {x : Operand} {y : AV} (hx : evA tm x = some y) : Rep w Fx β G y (a.eval x) := by
 cases x with
 | tmp t =>
  cases hq : tm[t]? with
  | none => simp [evA_tmp, hq] at hx
  | some y0 =>
   obtain ⟨u, hu, hr⟩ := h.get hq
   have e : Abs.unw y0 = y := by simpa [evA_tmp, hq] using hx
   rw [eval_tmp hu, ← e]
   exact hr.unw
 | const v =>
  obtain rfl := Option.some.inj hx
  exact .c v
 | func f =>
  obtain rfl := Option.some.inj hx
  exact Rep.fn (us := []) rfl (fun i x u h1 h2 => by simp at h1)
 | global g => cases hx
theorem Slots.sc (h : Slots w Fx β G tm a.tmps) {x : Operand} {v : Value} (hx : Abs.sc tm x = some v) : a.eval x = v := by
 unfold Abs.sc at hx
 split at hx
 · rename_i v' hv
   obtain rfl := Option.some.inj hx
   exact (h.ev hv).c_inv
 · cases hx
end

def QOp (P : Program) (o : Oper) (tm : List AV) (M : Mem) (x : AV) : Prop :=
 ∀ base w0 (a : Act) (w : World) Fx β, HS base w0 w Fx β M → Slots w Fx β (gens M) tm a.tmps →
  ∃ v, (∀ w' : World, (∀ k, k < w.heap.size → w'.heap[k]? = w.heap[k]?) → (execOp a.eval o).run P w' = .ok (.value v) w') ∧ Rep w Fx β (gens M) x v

section
variable {P : Program} {E : Env} {tm : List AV} {M : Mem} {o : Oper}
theorem OpA.quiet {N : NPost} {x : AV} (h : QOp P o tm M x) (hn : N (dput tm o.dst x) M) : OpA P o E tm M N := by
 intro a w K Q hs hk
 obtain ⟨hd, Fx, β, hh, ho, hsl⟩ := hs
 obtain ⟨v, hv, hr⟩ := h _ _ a w Fx β hh hsl
 unfold Oper.wp
 rw [hv w fun _ _ => rfl, Oper.upon_value]
 exact hk _ _ _ _ hn ⟨(put_defers a o.dst v).trans hd, Fx, β, hh, ho, hsl.dput o.dst hr⟩

theorem QOp.move {x : Operand} {y : AV} (ho : o.op = .move x) (hx : evA tm x = some y) : QOp P o tm M y := fun base w0 a w Fx β hh hs =>
 ⟨a.eval x, fun w' _ => by simp [execOp, ho], hs.ev hx⟩
theorem QOp.assign {x : Operand} {y : AV} (ho : o.op = .assign x) (hx : evA tm x = some y) : QOp P o tm M y := fun base w0 a w Fx β hh hs =>
 ⟨a.eval x, fun w' _ => by simp [execOp, ho], hs.ev hx⟩
theorem QOp.pick_true {c x z : Operand} {y : AV} (ho : o.op = .pick c x z) (hc : sc tm c = some (.bool true)) (hx : evA tm x = some y) : QOp P o tm M y := fun base w0 a w Fx β hh hs =>
 ⟨a.eval x, fun w' _ => by simp [execOp, ho, hs.sc hc, asBool], hs.ev hx⟩
theorem QOp.pick_false {c x z : Operand} {y : AV} (ho : o.op = .pick c x z) (hc : sc tm c = some (.bool false)) (hx : evA tm z = some y) : QOp P o tm M y := fun base w0 a w Fx β hh hs =>
 ⟨a.eval z, fun w' _ => by simp [execOp, ho, hs.sc hc, asBool], hs.ev hx⟩

def intOp (op : BinOp) (k : IntKind) (a b : Int) : Option Value := match op with
 | .add => some (.int k (k.wrap (a + b)))
 | .sub => some (.int k (k.wrap (a - b)))
 | .mul => some (.int k (k.wrap (a * b)))
 | .eql => some (.bool (a == b))
 | .neq => some (.bool (a != b))
 | .lss => some (.bool (decide (a < b)))
 | .leq => some (.bool (decide (a ≤ b)))
 | .gtr => some (.bool (decide (a > b)))
 | .geq => some (.bool (decide (a ≥ b)))
 | _ => none
theorem QOp.int {op : BinOp} {t t' : TypeId} {x y : Operand} {k : IntKind} {a b : Int} {v : Value} (ho : o.op = .binOp op t x y t') (hx : sc tm x = some (.int k a)) (hy : sc tm y = some (.int k b)) (hv : intOp op k a b = some v) : QOp P o tm M (.c v) :=
 fun base w0 ac w Fx β hh hs => ⟨v, fun w' _ => by
  cases op <;> simp only [intOp, Option.some.injEq] at hv <;> first
   | (cases hv; done)
   | (subst hv; simp [execOp, ho, hs.sc hx, hs.sc hy, eqGuard, binOp, Op.intArith, Op.intCmp]), .c v⟩
theorem QOp.quo {t t' : TypeId} {x y : Operand} {k : IntKind} {a b : Int} (ho : o.op = .binOp .quo t x y t') (hx : sc tm x = some (.int k a)) (hy : sc tm y = some (.int k b)) (hb : b ≠ 0) : QOp P o tm M (.c (.int k (k.wrap (a.tdiv b)))) :=
 fun base w0 ac w Fx β hh hs => ⟨_, fun w' _ => by simp [execOp, ho, hs.sc hx, hs.sc hy, eqGuard, binOp, Op.intDiv, hb], .c _⟩
theorem QOp.rem {t t' : TypeId} {x y : Operand} {k : IntKind} {a b : Int} (ho : o.op = .binOp .rem t x y t') (hx : sc tm x = some (.int k a)) (hy : sc tm y = some (.int k b)) (hb : b ≠ 0) : QOp P o tm M (.c (.int k (a.tmod b))) :=
 fun base w0 ac w Fx β hh hs => ⟨_, fun w' _ => by simp [execOp, ho, hs.sc hx, hs.sc hy, eqGuard, binOp, Op.intDiv, hb], .c _⟩
def strOp (op : BinOp) (a b : ByteArray) : Option Value := match op with
 | .eql => some (.bool (a.toList == b.toList))
 | .neq => some (.bool !(a.toList == b.toList))
 | .lss => some (.bool (Op.bytesLess a.toList b.toList))
 | .leq => some (.bool (Op.bytesLess a.toList b.toList || a.toList == b.toList))
 | .gtr => some (.bool !(Op.bytesLess a.toList b.toList || a.toList == b.toList))
 | .geq => some (.bool !(Op.bytesLess a.toList b.toList))
 | .add => if a.size + b.size ≤ 9223372036854775807 then some (.string (a ++ b)) else none
 | _ => none
theorem QOp.str {op : BinOp} {t t' : TypeId} {x y : Operand} {a b : ByteArray} {v : Value} (ho : o.op = .binOp op t x y t') (hx : sc tm x = some (.string a)) (hy : sc tm y = some (.string b)) (hv : strOp op a b = some v) : QOp P o tm M (.c v) :=
 fun base w0 ac w Fx β hh hs => ⟨v, fun w' _ => by
  cases op <;> simp only [strOp, Option.some.injEq] at hv <;> first
   | (cases hv; done)
   | (subst hv; simp [execOp, ho, hs.sc hx, hs.sc hy, eqGuard, binOp, Op.stringOp]; done)
   | (split at hv
      · rename_i hsz
        cases hv
        have h1 : ¬ (((a.size + b.size : Nat) : Int) > IntKind.i64.max) := by
         show ¬ (((a.size + b.size : Nat) : Int) > 9223372036854775807)
         omega
        simp only [execOp, ho, hs.sc hx, hs.sc hy, eqGuard, binOp, Op.stringOp, if_neg h1]
        simp
      · cases hv), .c v⟩
theorem QOp.not {t : TypeId} {x : Operand} {b : Bool} (ho : o.op = .unOp .not t x) (hx : sc tm x = some (.bool b)) : QOp P o tm M (.c (.bool !b)) :=
 fun base w0 ac w Fx β hh hs => ⟨_, fun w' _ => by simp [execOp, ho, hs.sc hx, Op.unary], .c _⟩
theorem QOp.neg {t : TypeId} {x : Operand} {k : IntKind} {n : Int} (ho : o.op = .unOp .neg t x) (hx : sc tm x = some (.int k n)) : QOp P o tm M (.c (.int k (k.wrap (-n)))) :=
 fun base w0 ac w Fx β hh hs => ⟨_, fun w' _ => by simp [execOp, ho, hs.sc hx, Op.unary, Op.intArith], .c _⟩
theorem QOp.boolEql {t t' : TypeId} {x y : Operand} {a b : Bool} (ho : o.op = .binOp .eql t x y t') (ht : P.underlying t = some .bool) (hx : sc tm x = some (.bool a)) (hy : sc tm y = some (.bool b)) : QOp P o tm M (.c (.bool (a == b))) :=
 fun base w0 ac w Fx β hh hs => ⟨_, fun w' _ => by
  have e := run_equalIn_bool' (P := P) w' 9999 t a b ht
  have e2 : (Op.equal t (.bool a) (.bool b)).run P w' = .ok (a == b) w' := e
  simp [execOp, ho, hs.sc hx, hs.sc hy, eqGuard, binOp, e2], .c _⟩
theorem QOp.boolNeq {t t' : TypeId} {x y : Operand} {a b : Bool} (ho : o.op = .binOp .neq t x y t') (ht : P.underlying t = some .bool) (hx : sc tm x = some (.bool a)) (hy : sc tm y = some (.bool b)) : QOp P o tm M (.c (.bool (!(a == b)))) :=
 fun base w0 ac w Fx β hh hs => ⟨_, fun w' _ => by
  have e := run_equalIn_bool' (P := P) w' 9999 t a b ht
  have e2 : (Op.equal t (.bool a) (.bool b)).run P w' = .ok (a == b) w' := e
  simp [execOp, ho, hs.sc hx, hs.sc hy, eqGuard, binOp, e2], .c _⟩
theorem QOp.convInt {s d : TypeId} {x : Operand} {k k' : IntKind} {n : Int} {ds : TypeDesc} (ho : o.op = .convert s d x) (h1 : P.underlying s = some ds) (h2 : P.underlying d = some (.int k)) (hx : sc tm x = some (.int k' n)) : QOp P o tm M (.c (.int k (k.wrap n))) :=
 fun base w0 ac w Fx β hh hs => ⟨_, fun w' _ => by
  simp [execOp, ho, hs.sc hx, convert, run_underlying h1, run_underlying h2, Conv.intToInt], .c _⟩
theorem QOp.extract {x : Operand} {i : Nat} {vs : List AV} {y : AV} (ho : o.op = .extract x i) (hx : evA tm x = some (.tup vs)) (hi : vs[i]? = some y) : QOp P o tm M y :=
 fun base w0 ac w Fx β hh hs => by
  have hr := hs.ev hx
  generalize hu : ac.eval x = u at hr
  cases hr with
  | @tup cs us hl h =>
   have hlt : i < us.length := by rw [hl]; exact (List.getElem?_eq_some_iff.1 hi).1
   exact ⟨us[i], fun w' _ => by simp [execOp, ho, hu, Instr.extract, hlt], h i y _ hi (List.getElem?_eq_getElem hlt)⟩
theorem QOp.len_str {x : Operand} {s : ByteArray} {t : TypeId} (ho : o.op = .call { callee := .builtin .len, args := #[x], argTypes := #[t] }) (ht : P.underlying t = some .string) (hx : sc tm x = some (.string s)) : QOp P o tm M (.c (.int .i64 s.size)) :=
 fun base w0 ac w Fx β hh hs => ⟨_, fun w' _ => by
  simp [execOp, ho, resolve, invoke, builtin, hs.sc hx, Builtin.len_, run_underlying ht, goInt], .c _⟩
theorem QOp.len_ro {x : Operand} {sz : Nat} {es : List (List AV)} {t e : TypeId} (ho : o.op = .call { callee := .builtin .len, args := #[x], argTypes := #[t] }) (ht : P.underlying t = some (.slice e)) (hx : evA tm x = some (.ro sz es)) : QOp P o tm M (.c (.int .i64 es.length)) :=
 fun base w0 ac w Fx β hh hs => by
  have hr := hs.ev hx
  generalize hu : ac.eval x = u at hr
  cases hr with
  | ro f hc hm hA hl h1 h => exact ⟨_, fun w' _ => by simp [execOp, ho, resolve, invoke, builtin, hu, Builtin.len_, run_underlying ht, goInt], .c _⟩
theorem QOp.index_str {x y : Operand} {s : ByteArray} {t : TypeId} {k : IntKind} {n : Int} {b : UInt8} (ho : o.op = .index t x y) (ht : P.underlying t = some .string) (hx : sc tm x = some (.string s)) (hy : sc tm y = some (.int k n)) (h0 : 0 ≤ n) (hb : s[n.toNat]? = some b) : QOp P o tm M (.c (.int .u8 b.toNat)) :=
 fun base w0 ac w Fx β hh hs => ⟨_, fun w' _ => by
  simp [execOp, ho, hs.sc hx, hs.sc hy, Instr.index, asIntOf, run_underlying ht, h0, hb], .c _⟩
theorem QOp.at_ro {x y : Operand} {sz : Nat} {es : List (List AV)} {t e : TypeId} {k : IntKind} {n : Int} {r : List AV} (ho : o.op = .indexAddr t x y) (ht : P.underlying t = some (.slice e)) (hsz : (P.info? e).map (·.size) = some sz) (hs0 : 0 < sz)
 (hx : evA tm x = some (.ro sz es)) (hy : sc tm y = some (.int k n)) (h0 : 0 ≤ n) (hr : es[n.toNat]? = some r) : QOp P o tm M (.rop sz es n.toNat 0) :=
 fun base w0 ac w Fx β hh hs => by
  have hrep := hs.ev hx
  have hlt : n.toNat < es.length := (List.getElem?_eq_some_iff.1 hr).1
  generalize hu : ac.eval x = u at hrep
  cases hrep with
  | @ro _ _ A cap f hc hm hA hl h1 h =>
   obtain ⟨ad, rfl, hF, hcell⟩ := hA (by omega)
   obtain ⟨i0, hi0, hs1⟩ : ∃ i, P.info? e = some i ∧ i.size = sz := by
    cases hq : P.info? e with
    | none => rw [hq] at hsz; simp at hsz
    | some i => rw [hq] at hsz; exact ⟨i, rfl, by simpa using hsz⟩
   refine ⟨.pointer (some (ad.add (n.toNat * sz))), fun w' _ => ?_, ?_⟩
   · have h2 : n < (es.length : Int) := by omega
     simp [execOp, ho, hu, hs.sc hy, Instr.indexAt, asIntOf, run_underlying ht, h0, h2, sizeOf, typeInfo, hi0, hs1]
   · exact Rep.rop (j := 0) (fun q => f n.toNat q) hr (hl _ _ hr) hs0 hF (fun q hq => hcell _ _ q hr hq) (fun q => h1 _ _) (fun q x hx => h _ _ q x hr hx)
theorem add_add_ (a : Addr) (i j : Nat) : (a.add i).add j = a.add (i + j) := by
 unfold Addr.add
 by_cases hi : i = 0 <;> by_cases hj : j = 0 <;> simp [hi, hj, Nat.add_assoc]
theorem QOp.field_ro {x : Operand} {sz : Nat} {es : List (List AV)} {i j : Nat} {s : TypeId} {fi off n : Nat} {fs : Array Field} {fl : Field} (ho : o.op = .fieldAddr s x fi) (ht : P.underlying s = some (.struct fs)) (hf : fs[fi]? = some fl) (hoff : fl.offset = off)
 (hsz : (P.info? fl.type).map (·.size) = some (n + 1)) (hx : evA tm x = some (.rop sz es i j)) (hj : j + off < sz) : QOp P o tm M (.rop sz es i (j + off)) :=
 fun base w0 ac w Fx β hh hs => by
  have hrep := hs.ev hx
  generalize hu : ac.eval x = u at hrep
  cases hrep with
  | @rop _ _ ad _ _ r f hr hl hj0 hF hA h1 h =>
   obtain ⟨i0, hi0, hs1⟩ : ∃ i, P.info? fl.type = some i ∧ i.size = n + 1 := by
    cases hq : P.info? fl.type with
    | none => rw [hq] at hsz; simp at hsz
    | some i => rw [hq] at hsz; exact ⟨i, rfl, by simpa using hsz⟩
   refine ⟨.pointer (some (ad.add (i * sz + (j + off)))), fun w' _ => ?_, Rep.rop f hr hl hj hF hA h1 h⟩
   have e : (ad.add (i * sz + j)).add fl.offset = ad.add (i * sz + (j + off)) := by rw [add_add_, hoff, Nat.add_assoc]
   simp [execOp, ho, hu, Instr.fieldAt, run_underlying ht, hf, Instr.sureAddr, fieldPlace, sizeOf, typeInfo, hi0, hs1, e]
theorem QOp.field_ref {x : Operand} {id g sz i j : Nat} {b : Blk} {s : TypeId} {fi off n : Nat} {fs : Array Field} {fl : Field} (ho : o.op = .fieldAddr s x fi) (ht : P.underlying s = some (.struct fs)) (hf : fs[fi]? = some fl) (hoff : fl.offset = off)
 (hsz : (P.info? fl.type).map (·.size) = some (n + 1)) (hx : evA tm x = some (.ref id g sz i j)) (hM : M[id]? = some (some b)) (hg : b.gen = g) : QOp P o tm M (.ref id g sz i (j + off)) :=
 fun base w0 ac w Fx β hh hs => by
  have hrep := hs.ev hx
  generalize hu : ac.eval x = u at hrep
  cases hrep with
  | ref h1 hi hgg h =>
   obtain ⟨v, k, hv, hk, rfl⟩ := h (by rw [← hg]; exact gens_of hM)
   obtain ⟨i0, hi0, hs1⟩ : ∃ i, P.info? fl.type = some i ∧ i.size = n + 1 := by
    cases hq : P.info? fl.type with
    | none => rw [hq] at hsz; simp at hsz
    | some i => rw [hq] at hsz; exact ⟨i, rfl, by simpa using hsz⟩
   refine ⟨.pointer (some ⟨k, i * sz + (j + off), none⟩), fun w' _ => ?_, Rep.ref rfl hi hgg (fun _ => ⟨v, k, hv, hk, rfl⟩)⟩
   have e : (⟨k, i * sz + j, none⟩ : Addr).add fl.offset = ⟨k, i * sz + (j + off), none⟩ := by rw [Addr.add_mid, hoff, Nat.add_assoc]
   simp [execOp, ho, hu, Instr.fieldAt, run_underlying ht, hf, Instr.sureAddr, fieldPlace, sizeOf, typeInfo, hi0, hs1, e]
end
end Go.Proofs.YtpffahmmklpifaaGreat.Abs
