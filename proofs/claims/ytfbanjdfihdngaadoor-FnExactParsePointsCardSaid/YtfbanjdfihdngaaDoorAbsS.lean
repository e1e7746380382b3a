/- Arrays' places; rows' steps as a walk takes them. -/
import Derived.Test.YtfbanjdfihdngaaDoorAbsR
namespace Go.Proofs.YtfbanjdfihdngaaDoor.Abs
open Go.RowKit
set_option linter.unusedVariables false
set_option linter.unusedSimpArgs false

def ark (P : Program) (t : TypeId) : Option (Nat × Nat) := match P.underlying t with
  | some (.array n e) => (P.info? e).map fun i => (n, i.size)
  | _ => none
theorem ark_inv {P : Program} {t : TypeId} {n sz : Nat} (h : ark P t = some (n, sz)) : ∃ e, P.underlying t = some (.array n e) ∧ (P.info? e).map (·.size) = some sz := by
  unfold ark at h
  split at h
  · rename_i n' e he
    cases hi : P.info? e with
    | none => rw [hi] at h; cases h
    | some i =>
      rw [hi] at h
      simp at h
      obtain ⟨rfl, h2⟩ := h
      exact ⟨e, he, by rw [hi]; simp [h2]⟩
  · cases h
section
variable {P : Program} {E : Env} {tm : List AV} {M : Mem} {o : Oper}
theorem QOp.at_arr {x y : Operand} {t : TypeId} {n esz id g sz i j : Nat} {b : Blk} {k : IntKind} {m : Int} (ho : o.op = .indexAddr t x y) (ht : ark P t = some (n, esz)) (hx : evA tm x = some (.ref id g sz i j)) (hy : sc tm y = some (.int k m)) (hM : M[id]? = some (some b)) (hg : b.gen = g)
    (h0 : 0 ≤ m) (hlt : m < n) : QOp P o tm M (.ref id g sz i (j + m.toNat * esz)) := fun base w0 a w Fx β hh hs => by
  obtain ⟨e, h1, h2⟩ := ark_inv ht
  obtain ⟨i0, hi0, hs0⟩ := info_size h2
  have hrep := hs.ev hx
  generalize hu : a.eval x = u at hrep
  cases hrep with
  | ref ho1 hi hgg h =>
    obtain ⟨v, kb, hv, hk, rfl⟩ := h (by rw [← hg]; exact gens_of hM)
    refine ⟨.pointer (some ⟨kb, i * sz + (j + m.toNat * esz), none⟩), fun w' _ => ?_, .ref rfl hi hgg fun _ => ⟨v, kb, hv, hk, rfl⟩⟩
    have e1 : (⟨kb, i * sz + j, none⟩ : Addr).add (m.toNat * esz) = ⟨kb, i * sz + (j + m.toNat * esz), none⟩ := by rw [Addr.add_mid, Nat.add_assoc]
    simp [execOp, ho, hu, hs.sc hy, Instr.indexAt, asIntOf, run_underlying h1, Instr.sureAddr, h0, hlt, sizeOf, typeInfo, hi0, hs0, e1]
end
end Go.Proofs.YtfbanjdfihdngaaDoor.Abs
