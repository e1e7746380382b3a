/- The quiet operations by computation: a table of the types, what an operation yields from it, and that it is so. -/
import Derived.Test.YtpffahmmklpifaaGreatAbsJ
namespace Go.Proofs.YtpffahmmklpifaaGreat.Abs
open Go.RowKit
set_option linter.unusedVariables false
set_option linter.unusedSimpArgs false

inductive TK where
 | int (k : IntKind)
 | bool
 | string
 | other
 deriving DecidableEq
structure Tbl where
 ld : List (Nat × (Bool × Nat))
 fd : List (Nat × List (Nat × Nat))
 sl : List (Nat × (Nat × Nat))
 kd : List (Nat × TK)
def look {α : Type} : List (Nat × α) → Nat → Option α
 | [], _ => none
 | (n, a) :: l, t => match Nat.beq n t with
  | true => some a
  | false => look l t
theorem look_mem {α : Type} : ∀ {l : List (Nat × α)} {t : Nat} {a : α}, look l t = some a → (t, a) ∈ l
 | [], t, a, h => by cases h
 | (n, b) :: l, t, a, h => by
  unfold look at h
  split at h
  · rename_i e
    have := Nat.eq_of_beq_eq_true e
    obtain rfl := Option.some.inj h
    subst this
    exact List.mem_cons_self
  · exact List.mem_cons_of_mem _ (look_mem h)
def fdk (P : Program) (s : TypeId) : Option (List (Option (Nat × Nat))) := match P.underlying s with
 | some (.struct fs) => some (fs.toList.map fun fl => (P.info? fl.type).map fun i => (fl.offset, i.size))
 | _ => none
def kdk (P : Program) (t : TypeId) : TK := match P.underlying t with
 | some (.int k) => .int k
 | some .bool => .bool
 | some .string => .string
 | _ => .other
def Tbl.chk (T : Tbl) (P : Program) : Bool :=
 T.ld.all (fun e => decide (ldk P e.1 = some e.2)) && T.fd.all (fun e => decide (fdk P e.1 = some (e.2.map some))) && T.sl.all (fun e => decide (slk P e.1 = some e.2)) && T.kd.all (fun e => decide (kdk P e.1 = e.2))
structure Tbl.Ok (T : Tbl) (P : Program) : Prop where
 ld : ∀ t x, look T.ld t = some x → ldk P t = some x
 fd : ∀ t x (i : Nat) y, look T.fd t = some x → x[i]? = some y → fld P t i = some y
 sl : ∀ t x, look T.sl t = some x → slk P t = some x
 kd : ∀ t x, look T.kd t = some x → kdk P t = x
theorem Tbl.ok {T : Tbl} {P : Program} (h : T.chk P = true) : T.Ok P := by
 simp only [Tbl.chk, Bool.and_eq_true, List.all_eq_true, decide_eq_true_eq] at h
 obtain ⟨⟨⟨h1, h2⟩, h3⟩, h4⟩ := h
 refine ⟨fun t x hx => h1 _ (look_mem hx), fun t x i y hx hy => ?_, fun t x hx => h3 _ (look_mem hx), fun t x hx => h4 _ (look_mem hx)⟩
 have := h2 _ (look_mem hx)
 simp only [fdk] at this
 unfold fld
 split at this
 · rename_i fs hfs
   simp only [hfs]
   have e := Option.some.inj this
   have e2 : (fs.toList.map fun fl => (P.info? fl.type).map fun i => (fl.offset, i.size))[i]? = (x.map some)[i]? := by rw [e]
   rw [List.getElem?_map, List.getElem?_map, hy] at e2
   rw [Array.getElem?_toList] at e2
   cases hq : fs[i]? with
   | none => rw [hq] at e2; simp at e2
   | some fl => rw [hq] at e2; simpa using e2
 · cases this
theorem kdk_bool {P : Program} {t : TypeId} (h : kdk P t = .bool) : P.underlying t = some .bool := by
 unfold kdk at h
 split at h <;> first | assumption | cases h
theorem kdk_string {P : Program} {t : TypeId} (h : kdk P t = .string) : P.underlying t = some .string := by
 unfold kdk at h
 split at h <;> first | assumption | cases h
theorem kdk_int {P : Program} {t : TypeId} {k : IntKind} (h : kdk P t = .int k) : P.underlying t = some (.int k) := by
 unfold kdk at h
 split at h
 · rename_i k' hk
   cases h
   exact hk
 all_goals cases h

def asB : Option Value → Option Bool | some (.bool b) => some b | _ => none
def divA (op : BinOp) (k : IntKind) (a b : Int) : Option Value := match op with
 | .quo => match decide (b = 0) with
  | false => some (.int k (k.wrap (a.tdiv b)))
  | true => none
 | .rem => match decide (b = 0) with
  | false => some (.int k (a.tmod b))
  | true => none
 | op => intOp op k a b
def binA (T : Tbl) (op : BinOp) (t : TypeId) : Option Value → Option Value → Option Value
 | some (.int k a), some (.int k' b) => match decide (k = k') with
  | true => divA op k a b
  | false => none
 | some (.string a), some (.string b) => strOp op a b
 | some (.bool a), some (.bool b) => match op, look T.kd t with
  | .eql, some .bool => some (.bool (a == b))
  | .neq, some .bool => some (.bool (!(a == b)))
  | _, _ => none
 | _, _ => none
def ldA (M : Mem) : Option (Bool × Nat) → Option AV → Option AV
 | some (true, n), some (.ref id g sz i j) => match M[id]? with
  | some (some b) => match Nat.beq b.gen g && Nat.beq b.sz sz, b.es[i]? with
   | true, some r => match Nat.ble (j + n) r.length && ((r.drop j).take n).all nodp with
    | true => some (.agg ((r.drop j).take n))
    | false => none
   | _, _ => none
  | _ => none
 | some (false, _), some (.ref id g sz i j) => match M[id]? with
  | some (some b) => match Nat.beq b.gen g && Nat.beq b.sz sz, b.es[i]? with
   | true, some r => match (r[j]?).any nodp with
    | true => r[j]?
    | false => none
   | _, _ => none
  | _ => none
 | some (true, n), some (.rop sz es i j) => match es[i]? with
  | some r => match Nat.ble (j + n) sz with
   | true => some (.agg ((r.drop j).take n))
   | false => none
  | none => none
 | some (false, _), some (.rop sz es i j) => match es[i]? with
  | some r => r[j]?
  | none => none
 | _, _ => none
def fldA (M : Mem) : Option (Nat × Nat) → Option AV → Option AV
 | some (off, n + 1), some (.ref id g sz i j) => match M[id]? with
  | some (some b) => match Nat.beq b.gen g with
   | true => some (.ref id g sz i (j + off))
   | false => none
  | _ => none
 | some (off, n + 1), some (.rop sz es i j) => match Nat.ble (j + off + 1) sz with
  | true => some (.rop sz es i (j + off))
  | false => none
 | _, _ => none
def bltA (T : Tbl) (tm : List AV) : Builtin → List Operand → List TypeId → Option AV
 | .len, [x], [t] => match evA tm x with
  | some (.c (.string s)) => match look T.kd t with
   | some .string => some (.c (.int .i64 s.size))
   | _ => none
  | some (.ro sz es) => match look T.sl t with
   | some _ => some (.c (.int .i64 es.length))
   | none => none
  | _ => none
 | .min, [x, y], _ => match sc tm x, sc tm y with
  | some (.int k a), some (.int k' b) => match decide (k = k') with
   | true => some (.c (.int k (if b < a then b else a)))
   | false => none
  | _, _ => none
 | .max, [x, y], _ => match sc tm x, sc tm y with
  | some (.int k a), some (.int k' b) => match decide (k = k') with
   | true => some (.c (.int k (if b > a then b else a)))
   | false => none
  | _, _ => none
 | _, _, _ => none
def quietA (T : Tbl) (tm : List AV) (M : Mem) : Op → Option AV
 | .move x => evA tm x
 | .assign x => evA tm x
 | .pick c x z => match asB (sc tm c) with
  | some true => evA tm x
  | some false => evA tm z
  | none => none
 | .binOp op t x y _ => (binA T op t (sc tm x) (sc tm y)).map .c
 | .unOp .not _ x => match sc tm x with
  | some (.bool b) => some (.c (.bool !b))
  | _ => none
 | .unOp .neg _ x => match sc tm x with
  | some (.int k n) => some (.c (.int k (k.wrap (-n))))
  | _ => none
 | .convert s d x => match look T.kd s, look T.kd d, sc tm x with
  | some (.int _), some (.int k), some (.int _ n) => some (.c (.int k (k.wrap n)))
  | _, _, _ => none
 | .extract x i => match evA tm x with
  | some (.tup vs) => vs[i]?
  | _ => none
 | .load t x => ldA M (look T.ld t) (evA tm x)
 | .fieldAddr s x fi => match look T.fd s with
  | some l => fldA M l[fi]? (evA tm x)
  | none => none
 | .call c => match c.callee with
  | .builtin b => bltA T tm b c.args.toList c.argTypes.toList
  | _ => none
 | _ => none

section
variable {P : Program} {E : Env} {T : Tbl} {tm : List AV} {M : Mem} {o : Oper}
theorem asB_inv {v : Option Value} {b : Bool} (h : asB v = some b) : v = some (.bool b) := by
 unfold asB at h
 split at h
 · obtain rfl := Option.some.inj h; rfl
 · cases h
theorem QOp.bin {op : BinOp} {t t' : TypeId} {x y : Operand} {v : Value} (hT : T.Ok P) (ho : o.op = .binOp op t x y t') (h : binA T op t (sc tm x) (sc tm y) = some v) : QOp P o tm M (.c v) := by
 cases hx : sc tm x with
 | none => rw [hx] at h; cases h
 | some a =>
  cases hy : sc tm y with
  | none => rw [hx, hy] at h; cases a <;> cases h
  | some b =>
   rw [hx, hy] at h
   cases a <;> cases b <;> simp only [binA] at h <;> first | (cases h; done) | skip
   · rename_i p q
     split at h
     · rename_i hk
       obtain rfl := Option.some.inj h
       exact QOp.boolEql ho (kdk_bool (hT.kd _ _ hk)) hx hy
     · rename_i hk
       obtain rfl := Option.some.inj h
       exact QOp.boolNeq ho (kdk_bool (hT.kd _ _ hk)) hx hy
     · cases h
   · rename_i k p k' q
     split at h
     · rename_i e
       have e := of_decide_eq_true e
       subst e
       unfold divA at h
       split at h
       · split at h
         · rename_i h0
           obtain rfl := Option.some.inj h
           exact QOp.quo ho hx hy (of_decide_eq_false h0)
         · cases h
       · split at h
         · rename_i h0
           obtain rfl := Option.some.inj h
           exact QOp.rem ho hx hy (of_decide_eq_false h0)
         · cases h
       · exact QOp.int ho hx hy h
     · cases h
   · exact QOp.str ho hx hy h
theorem QOp.ldA {t : TypeId} {x : Operand} {y : AV} (hT : T.Ok P) (ho : o.op = .load t x) (h : Abs.ldA M (look T.ld t) (evA tm x) = some y) : QOp P o tm M y := by
 generalize hl : look T.ld t = l at h
 generalize hx : evA tm x = z at h
 unfold Abs.ldA at h
 split at h
 · rename_i n id g sz i j
   have hl := hT.ld _ _ hl
   split at h
   · rename_i b hM
     split at h
     · rename_i r e hr
       split at h
       · rename_i hle
         obtain rfl := Option.some.inj h
         simp only [Bool.and_eq_true] at e hle
         exact QOp.ldr_ref ho hx hM (Nat.eq_of_beq_eq_true e.1) (Nat.eq_of_beq_eq_true e.2) hr hl (Nat.le_of_ble_eq_true hle.1) hle.2
       · cases h
     · cases h
   · cases h
 · rename_i n id g sz i j
   have hl := hT.ld _ _ hl
   split at h
   · rename_i b hM
     split at h
     · rename_i r e hr
       simp only [Bool.and_eq_true] at e
       split at h
       · rename_i hnd
         rw [h] at hnd
         exact QOp.ld1_ref ho hx hM (Nat.eq_of_beq_eq_true e.1) (Nat.eq_of_beq_eq_true e.2) hr hl h hnd
       · cases h
     · cases h
   · cases h
 · have hl := hT.ld _ _ hl
   split at h
   · rename_i r hr
     split at h
     · rename_i hle
       obtain rfl := Option.some.inj h
       exact QOp.ldr_ro ho hx hr hl (Nat.le_of_ble_eq_true hle)
     · cases h
   · cases h
 · have hl := hT.ld _ _ hl
   split at h
   · rename_i r hr
     exact QOp.ld1_ro ho hx hr hl h
   · cases h
 · cases h
theorem QOp.fldA {s : TypeId} {x : Operand} {fi : Nat} {y : AV} {l : List (Nat × Nat)} (hT : T.Ok P) (ho : o.op = .fieldAddr s x fi) (hs : look T.fd s = some l) (h : Abs.fldA M l[fi]? (evA tm x) = some y) : QOp P o tm M y := by
 generalize hl : l[fi]? = f at h
 generalize hx : evA tm x = z at h
 unfold Abs.fldA at h
 split at h
 · have hf := hT.fd _ _ _ _ hs hl
   split at h
   · rename_i b hM
     split at h
     · rename_i e
       obtain rfl := Option.some.inj h
       exact QOp.fld_ref ho hx hM (Nat.eq_of_beq_eq_true e) hf
     · cases h
   · cases h
 · have hf := hT.fd _ _ _ _ hs hl
   split at h
   · rename_i e
     obtain rfl := Option.some.inj h
     exact QOp.fld_ro ho hx hf (Nat.le_of_ble_eq_true e)
   · cases h
 · cases h
theorem arr1 {α : Type} {a : Array α} {x : α} (h : a.toList = [x]) : a = #[x] := by cases a; simp at h; subst h; rfl
theorem arr2 {α : Type} {a : Array α} {x y : α} (h : a.toList = [x, y]) : a = #[x, y] := by cases a; simp at h; subst h; rfl
theorem QOp.bltA {c : Call} {b : Builtin} {y : AV} (hT : T.Ok P) (ho : o.op = .call c) (hc : c.callee = .builtin b) (h : Abs.bltA T tm b c.args.toList c.argTypes.toList = some y) : QOp P o tm M y := by
 obtain ⟨cl, args, ts⟩ := c
 simp only at hc h
 subst hc
 generalize ha : args.toList = al at h
 generalize ht : ts.toList = tl at h
 unfold Abs.bltA at h
 split at h
 · rename_i x t
   obtain rfl := arr1 ha
   obtain rfl := arr1 ht
   split at h
   · rename_i s hx
     split at h
     · rename_i hk
       obtain rfl := Option.some.inj h
       exact QOp.len_str ho (kdk_string (hT.kd _ _ hk)) (by simp only [sc, hx])
     · cases h
   · rename_i sz es hx
     split at h
     · rename_i p hk
       obtain rfl := Option.some.inj h
       exact QOp.lenk_ro (e := p.1) (n := p.2) ho hx (hT.sl _ _ hk)
     · cases h
   · cases h
 · rename_i x z _
   obtain rfl := arr2 ha
   split at h
   · rename_i k p k' q hx hy
     split at h
     · rename_i e
       have e := of_decide_eq_true e
       subst e
       obtain rfl := Option.some.inj h
       exact QOp.min ho hx hy
     · cases h
   · cases h
 · rename_i x z _
   obtain rfl := arr2 ha
   split at h
   · rename_i k p k' q hx hy
     split at h
     · rename_i e
       have e := of_decide_eq_true e
       subst e
       obtain rfl := Option.some.inj h
       exact QOp.max ho hx hy
     · cases h
   · cases h
 · cases h
theorem QOp.quietA {y : AV} (hT : T.Ok P) (h : Abs.quietA T tm M o.op = some y) : QOp P o tm M y := by
 generalize ho : o.op = op at h
 unfold Abs.quietA at h
 split at h
 · exact QOp.move ho h
 · exact QOp.assign ho h
 · split at h
   · rename_i hc; exact QOp.pick_true ho (asB_inv hc) h
   · rename_i hc; exact QOp.pick_false ho (asB_inv hc) h
   · cases h
 · rename_i bo t x z t'
   cases hb : binA T bo t (sc tm x) (sc tm z) with
   | none => rw [hb] at h; cases h
   | some v =>
    rw [hb] at h
    obtain rfl := Option.some.inj h
    exact QOp.bin hT ho hb
 · split at h
   · rename_i b hx
     obtain rfl := Option.some.inj h
     exact QOp.not ho hx
   · cases h
 · split at h
   · rename_i k n hx
     obtain rfl := Option.some.inj h
     exact QOp.neg ho hx
   · cases h
 · split at h
   · rename_i k1 k2 k3 n h1 h2 hx
     obtain rfl := Option.some.inj h
     exact QOp.convInt ho (kdk_int (hT.kd _ _ h1)) (kdk_int (hT.kd _ _ h2)) hx
   · cases h
 · split at h
   · rename_i vs hx
     exact QOp.extract ho hx h
   · cases h
 · exact QOp.ldA hT ho h
 · split at h
   · rename_i l hl
     exact QOp.fldA hT ho hl h
   · cases h
 · split at h
   · rename_i b hc
     exact QOp.bltA hT ho hc h
   · cases h
 · cases h
theorem AL.q {ops : Array Oper} {rest : List Oper} {N : NPost} {x : AV} (hT : T.Ok P) (hg : o.guard = none) (h : Abs.quietA T tm M o.op = some x) (hN : AL P ops rest E (dput tm o.dst x) M N) : AL P ops (o :: rest) E tm M N :=
 AL.step hg (OpA.quiet (QOp.quietA hT h) hN)
theorem OpA.q {N : NPost} {x : AV} (hT : T.Ok P) (h : Abs.quietA T tm M o.op = some x) (hN : N (dput tm o.dst x) M) : OpA P o E tm M N := OpA.quiet (QOp.quietA hT h) hN
end
end Go.Proofs.YtpffahmmklpifaaGreat.Abs
