/- A literal that is never written again: it stays from the start. -/
import Derived.Test.YtfbanjdfihdngaaDoorAbsV
import Derived.Test.YtfbanjdfihdngaaDoorAbsR
namespace Go.Proofs.YtfbanjdfihdngaaDoor.Abs
open Go.RowKit
set_option linter.unusedVariables false
set_option linter.unusedSimpArgs false

section
variable {P : Program} {E : Env} {tm : List AV} {M : Mem} {o : Oper} {w w0 : World} {Fx : Nat → Prop} {β : List Hd} {base : Nat}
theorem HS.freeze {id : Nat} {b : Blk} {u : Hd} (hh : HS base w0 w Fx β M) (hM : M[id]? = some (some b)) (hv : β[id]? = some u) (hb : b.box = false) (hc : ∀ r ∈ b.es, ∀ x ∈ r, Clo x) :
    HS base w0 w (fun k => Fx k ∨ u.has k) β (M.set id none) ∧ Mv w Fx β (gens M) w (fun k => Fx k ∨ u.has k) β (gens (M.set id none)) ∧ Rep w (fun k => Fx k ∨ u.has k) β (gens (M.set id none)) (.ro b.sz b.es) u.v := by
  obtain ⟨v2, hv2, hok⟩ := hh.blk id b hM
  rw [hv] at hv2
  obtain rfl := Option.some.inj hv2
  have up : ∀ {i : Nat} {b1 : Blk}, (M.set id none)[i]? = some (some b1) → i ≠ id ∧ M[i]? = some (some b1) := fun {i b1} h => by
    rw [List.getElem?_set] at h
    by_cases e : id = i
    · subst e
      rw [if_pos rfl] at h
      split at h <;> simp at h
    · rw [if_neg e] at h
      exact ⟨fun h => e h.symm, h⟩
  have m : Mv w Fx β (gens M) w (fun k => Fx k ∨ u.has k) β (gens (M.set id none)) := ⟨fun k h => .inl h, fun k h => rfl, by simp [gens], fun i g' hi hg' => ⟨g', (gens_none hg').2, Nat.le_refl _, fun _ => rfl⟩⟩
  refine ⟨⟨hh.bel, hh.bs, fun k hk => ?_, by simp [hh.len], fun i b1 h1 => ?_, fun i1 i2 b1 b2 v1 v2 k hne h1 h2 hv1 hv2 hk1 => hh.inj i1 i2 b1 b2 v1 v2 k hne (up h1).2 (up h2).2 hv1 hv2 hk1⟩, m, (hh.rowRep hM hb hc (fun k h => .inl h) hv (fun k hk => .inr hk)).of_clo⟩
  · rcases hk with hk | hk
    · exact hh.fx k hk
    · exact (hok.1 k hk).2.1
  · obtain ⟨hne, h1⟩ := up h1
    obtain ⟨v1, hv1, hok1⟩ := hh.blk i b1 h1
    refine ⟨v1, hv1, hok1.mv m (Nat.le_refl _) (fun k hk => rfl) (fun k hk hF => ?_)⟩
    rcases hF with hF | hF
    · exact (hok1.1 k hk).2.2 hF
    · exact hh.inj i id b1 b v1 u k hne h1 hM hv1 hv hk hF
theorem Wk.refl : ∀ l : List AV, Wk l l
  | [] => Wk.nil
  | x :: l => Wk.same (Wk.refl l)
end
end Go.Proofs.YtfbanjdfihdngaaDoor.Abs
