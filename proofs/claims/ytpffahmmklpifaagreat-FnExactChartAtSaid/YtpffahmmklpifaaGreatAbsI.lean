/- Facts of types told at once (a field's place, a load's kind, a slice's elements), and rules that take them; slots let go; loops over abstract states. -/
import Derived.Test.YtpffahmmklpifaaGreatAbsH
namespace Go.Proofs.YtpffahmmklpifaaGreat.Abs
open Go.RowKit
set_option linter.unusedVariables false
set_option linter.unusedSimpArgs false

def fld (P : Program) (s : TypeId) (fi : Nat) : Option (Nat × Nat) := match P.underlying s with
 | some (.struct fs) => match fs[fi]? with
  | some fl => (P.info? fl.type).map fun i => (fl.offset, i.size)
  | none => none
 | _ => none
def ldk (P : Program) (t : TypeId) : Option (Bool × Nat) := match P.underlying t with
 | some d => (P.info? t).map fun i => (d.isRow, i.size)
 | none => none
def slk (P : Program) (t : TypeId) : Option (TypeId × Nat) := match P.underlying t with
 | some (.slice e) => (P.info? e).map fun i => (e, i.size)
 | _ => none
theorem fld_inv {P : Program} {s : TypeId} {fi off n : Nat} (h : fld P s fi = some (off, n)) : ∃ fs fl, P.underlying s = some (.struct fs) ∧ fs[fi]? = some fl ∧ fl.offset = off ∧ (P.info? fl.type).map (·.size) = some n := by
 unfold fld at h
 split at h
 · rename_i fs hfs
   split at h
   · rename_i fl hfl
     cases hi : P.info? fl.type with
     | none => rw [hi] at h; cases h
     | some i =>
      rw [hi] at h
      simp at h
      exact ⟨fs, fl, hfs, hfl, h.1, by rw [hi]; simp [h.2]⟩
   · cases h
 · cases h
theorem ldk_inv {P : Program} {t : TypeId} {b : Bool} {n : Nat} (h : ldk P t = some (b, n)) : ∃ d, P.underlying t = some d ∧ d.isRow = b ∧ (P.info? t).map (·.size) = some n := by
 unfold ldk at h
 split at h
 · rename_i d hd
   cases hi : P.info? t with
   | none => rw [hi] at h; cases h
   | some i =>
    rw [hi] at h
    simp at h
    exact ⟨d, hd, h.1, by simp [h.2]⟩
 · cases h
theorem slk_inv {P : Program} {t e : TypeId} {n : Nat} (h : slk P t = some (e, n)) : P.underlying t = some (.slice e) ∧ (P.info? e).map (·.size) = some n := by
 unfold slk at h
 split at h
 · rename_i e' he
   cases hi : P.info? e' with
   | none => rw [hi] at h; cases h
   | some i =>
    rw [hi] at h
    simp at h
    obtain ⟨rfl, h2⟩ := h
    exact ⟨he, by rw [hi]; simp [h2]⟩
 · cases h

section
variable {P : Program} {E : Env} {tm : List AV} {M : Mem} {o : Oper} {ops : Array Oper} {rest : List Oper} {N : NPost}
theorem QOp.fld_ro {x : Operand} {sz : Nat} {es : List (List AV)} {i j : Nat} {s : TypeId} {fi off n : Nat} (ho : o.op = .fieldAddr s x fi) (hx : evA tm x = some (.rop sz es i j)) (hf : fld P s fi = some (off, n + 1)) (hj : j + off < sz) : QOp P o tm M (.rop sz es i (j + off)) := by
 obtain ⟨fs, fl, h1, h2, h3, h4⟩ := fld_inv hf
 exact QOp.field_ro ho h1 h2 h3 h4 hx hj
theorem QOp.fld_ref {x : Operand} {id g sz i j : Nat} {b : Blk} {s : TypeId} {fi off n : Nat} (ho : o.op = .fieldAddr s x fi) (hx : evA tm x = some (.ref id g sz i j)) (hM : M[id]? = some (some b)) (hg : b.gen = g) (hf : fld P s fi = some (off, n + 1)) : QOp P o tm M (.ref id g sz i (j + off)) := by
 obtain ⟨fs, fl, h1, h2, h3, h4⟩ := fld_inv hf
 exact QOp.field_ref ho h1 h2 h3 h4 hx hM hg
theorem QOp.ldr_ref {x : Operand} {id g sz i j n : Nat} {b : Blk} {t : TypeId} {r : List AV} (ho : o.op = .load t x) (hx : evA tm x = some (.ref id g sz i j)) (hM : M[id]? = some (some b)) (hg : b.gen = g) (hb : b.sz = sz)
 (hr : b.es[i]? = some r) (hl : ldk P t = some (true, n)) (hj : j + n ≤ r.length) (hnd : ((r.drop j).take n).all nodp = true) : QOp P o tm M (.agg ((r.drop j).take n)) := by
 obtain ⟨d, h1, h2, h3⟩ := ldk_inv hl
 exact QOp.load_ref ho hx hM hg hb hr h1 h2 h3 hj hnd
theorem QOp.ld1_ref {x : Operand} {id g sz i j n : Nat} {b : Blk} {t : TypeId} {r : List AV} {y : AV} (ho : o.op = .load t x) (hx : evA tm x = some (.ref id g sz i j)) (hM : M[id]? = some (some b)) (hg : b.gen = g) (hb : b.sz = sz)
 (hr : b.es[i]? = some r) (hl : ldk P t = some (false, n)) (hy : r[j]? = some y) (hnd : nodp y = true) : QOp P o tm M y := by
 obtain ⟨d, h1, h2, h3⟩ := ldk_inv hl
 exact QOp.load_ref1 ho hx hM hg hb hr h1 h2 hy hnd
theorem QOp.ld1_ro {x : Operand} {sz i j n : Nat} {es : List (List AV)} {t : TypeId} {r : List AV} {y : AV} (ho : o.op = .load t x) (hx : evA tm x = some (.rop sz es i j)) (hr : es[i]? = some r) (hl : ldk P t = some (false, n)) (hy : r[j]? = some y) : QOp P o tm M y := by
 obtain ⟨d, h1, h2, h3⟩ := ldk_inv hl
 exact QOp.load_ro1 ho hx hr h1 h2 hy
theorem QOp.ldr_ro {x : Operand} {sz i j n : Nat} {es : List (List AV)} {t : TypeId} {r : List AV} (ho : o.op = .load t x) (hx : evA tm x = some (.rop sz es i j)) (hr : es[i]? = some r) (hl : ldk P t = some (true, n)) (hj : j + n ≤ sz) : QOp P o tm M (.agg ((r.drop j).take n)) := by
 obtain ⟨d, h1, h2, h3⟩ := ldk_inv hl
 exact QOp.load_ro ho hx hr h1 h2 h3 hj
theorem QOp.atk_ro {x y : Operand} {sz : Nat} {es : List (List AV)} {t e : TypeId} {k : IntKind} {n : Int} {r : List AV} (ho : o.op = .indexAddr t x y) (hx : evA tm x = some (.ro sz es)) (hy : sc tm y = some (.int k n)) (hl : slk P t = some (e, sz)) (hs0 : 0 < sz)
 (h0 : 0 ≤ n) (hr : es[n.toNat]? = some r) : QOp P o tm M (.rop sz es n.toNat 0) := by
 obtain ⟨h1, h2⟩ := slk_inv hl
 exact QOp.at_ro ho h1 h2 hs0 hx hy h0 hr
theorem QOp.lenk_ro {x : Operand} {sz n : Nat} {es : List (List AV)} {t e : TypeId} (ho : o.op = .call { callee := .builtin .len, args := #[x], argTypes := #[t] }) (hx : evA tm x = some (.ro sz es)) (hl : slk P t = some (e, n)) : QOp P o tm M (.c (.int .i64 es.length)) :=
 QOp.len_ro ho (slk_inv hl).1 hx
theorem OpA.sto {x y : Operand} {id g sz i j n : Nat} {b : Blk} {bb : Bool} {t : TypeId} {r cs : List AV} {z : AV} (ho : o.op = .store t x y) (hx : evA tm x = some (.ref id g sz i j)) (hM : M[id]? = some (some b)) (hg : b.gen = g) (hb : b.sz = sz)
 (hr : b.es[i]? = some r) (hy : evA tm y = some z) (hcs : cellsA z = some cs) (hl : ldk P t = some (bb, n)) (hn : n = cs.length) (hj : j + cs.length ≤ r.length)
 (hN : N (dput tm o.dst (.c undef)) (M.set id (some { b with es := b.es.set i (splice r j cs) }))) : OpA P o E tm M N := by
 obtain ⟨d, h1, h2, h3⟩ := ldk_inv hl
 exact OpA.store ho hx hM hg hb hr hy hcs (by rw [h3, hn]) hj hN

inductive Wk : List AV → List AV → Prop where
 | nil : Wk [] []
 | same {x : AV} {a b : List AV} (h : Wk a b) : Wk (x :: a) (x :: b)
 | any {x : AV} {a b : List AV} (h : Wk a b) : Wk (x :: a) (.any :: b)
theorem Wk.get {a b : List AV} (h : Wk a b) : a.length = b.length ∧ ∀ (t : Nat) y, b[t]? = some y → ∃ x, a[t]? = some x ∧ (y = x ∨ y = .any) := by
 induction h with
 | nil => exact ⟨rfl, fun t y h => by simp at h⟩
 | same h ih => exact ⟨by simp [ih.1], fun t y hy => by
  cases t with
  | zero => simp at hy; subst hy; exact ⟨_, rfl, .inl rfl⟩
  | succ t => exact ih.2 t y (by simpa using hy)⟩
 | any h ih => exact ⟨by simp [ih.1], fun t y hy => by
  cases t with
  | zero => simp at hy; subst hy; exact ⟨_, rfl, .inr rfl⟩
  | succ t => exact ih.2 t y (by simpa using hy)⟩
theorem Sim.wk {a : Act} {w : World} {tm' : List AV} (h : Sim E tm M a w) (hw : Wk tm tm') : Sim E tm' M a w := by
 obtain ⟨hd, Fx, β, hh, ho, hs⟩ := h
 refine ⟨hd, Fx, β, hh, ho, by rw [hs.1, hw.get.1], fun t y u hy hu => ?_⟩
 obtain ⟨x, hx, e⟩ := hw.get.2 t y hy
 have := hs.2 t x u hx hu
 rcases e with rfl | rfl
 · exact this
 · exact .any u
theorem AW.wk {c : Code} {Qx : XPost} {tm' : List AV} (hw : Wk tm tm') (h : AW P c E tm' M Qx) : AW P c E tm M Qx := fun a w Q hs k => h a w Q (hs.wk hw) k
end
end Go.Proofs.YtpffahmmklpifaaGreat.Abs
