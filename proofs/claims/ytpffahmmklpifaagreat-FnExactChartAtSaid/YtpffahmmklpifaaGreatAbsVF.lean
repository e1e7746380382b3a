/- A literal that is never written again: it stays from the start. -/
import Derived.Test.YtpffahmmklpifaaGreatAbsV
import Derived.Test.YtpffahmmklpifaaGreatAbsR
namespace Go.Proofs.YtpffahmmklpifaaGreat.Abs
open Go.RowKit
set_option linter.unusedVariables false
set_option linter.unusedSimpArgs false

section
variable {P : Program} {E : Env} {tm : List AV} {M : Mem} {o : Oper} {w w0 : World} {Fx : Nat → Prop} {β : List Hd} {base : Nat}
theorem HS.freeze {id : Nat} {b : Blk} {u : Hd} (hh : HS base w0 w Fx β M) (hM : M[id]? = some (some b)) (hv : β[id]? = some u) (hb : b.box = false) (hc : ∀ r ∈ b.es, ∀ x ∈ r, Clo x) :
 HS base w0 w (fun k => Fx k ∨ u.has k) β (M.set id none) ∧ Mv w Fx β (gens M) w (fun k => Fx k ∨ u.has k) β (gens (M.set id none)) ∧ Rep w (fun k => Fx k ∨ u.has k) β (gens (M.set id none)) (.ro b.sz b.es) u.v := by
 obtain ⟨v2, hv2, hok⟩ := hh.blk id b hM
 rw [hv] at hv2
 obtain rfl := Option.some.inj hv2
 have up : ∀ {i : Nat} {b1 : Blk}, (M.set id none)[i]? = some (some b1) → i ≠ id ∧ M[i]? = some (some b1) := fun {i b1} h => by
  rw [List.getElem?_set] at h
  by_cases e : id = i
  · subst e
    rw [if_pos rfl] at h
    split at h <;> simp at h
  · rw [if_neg e] at h
    exact ⟨fun h => e h.symm, h⟩
 have m : Mv w Fx β (gens M) w (fun k => Fx k ∨ u.has k) β (gens (M.set id none)) := ⟨fun k h => .inl h, fun k h => rfl, by simp [gens], fun i g' hi hg' => ⟨g', (gens_none hg').2, Nat.le_refl _, fun _ => rfl⟩⟩
 refine ⟨⟨hh.bel, hh.bs, fun k hk => ?_, by simp [hh.len], fun i b1 h1 => ?_, fun i1 i2 b1 b2 v1 v2 k hne h1 h2 hv1 hv2 hk1 => hh.inj i1 i2 b1 b2 v1 v2 k hne (up h1).2 (up h2).2 hv1 hv2 hk1⟩, m, (hh.rowRep hM hb hc (fun k h => .inl h) hv (fun k hk => .inr hk)).of_clo⟩
 · rcases hk with hk | hk
   · exact hh.fx k hk
   · exact (hok.1 k hk).2.1
 · obtain ⟨hne, h1⟩ := up h1
   obtain ⟨v1, hv1, hok1⟩ := hh.blk i b1 h1
   refine ⟨v1, hv1, hok1.mv m (Nat.le_refl _) (fun k hk => rfl) (fun k hk hF => ?_)⟩
   rcases hF with hF | hF
   · exact (hok1.1 k hk).2.2 hF
   · exact hh.inj i id b1 b v1 u k hne h1 hM hv1 hv hk hF
theorem POp.still {b : Blk} (h : POp P o E tm M (.own M.length 0) (M ++ [some b])) (hg : b.gen = 0) (hb : b.box = false) (hc : ∀ r ∈ b.es, ∀ x ∈ r, Clo x) : POp P o E tm M (.ro b.sz b.es) (M ++ [none]) := by
 intro a w K Q Fx β hh hsl hk
 refine h a w K Q Fx β hh hsl fun v w' Fx' β' hh' hx hr => ?_
 have hM : (M ++ [some b])[M.length]? = some (some b) := by simp
 obtain ⟨hd0, hv, rfl⟩ : ∃ hd, β'[M.length]? = some hd ∧ hd.v = v := by
  cases hr with
  | own _ _ _ h => exact h (by rw [← hg]; exact gens_of hM)
 obtain ⟨h1, m, h3⟩ := hh'.freeze hM hv hb hc
 have e : (M ++ [some b]).set M.length none = M ++ [none] := by simp
 rw [e] at h1 m h3
 have hnew : ∀ k, hd0.has k → w.heap.size ≤ k ∨ ∃ (id' : Nat) (b' : Blk) (v' : Hd), M[id']? = some (some b') ∧ β[id']? = some v' ∧ v'.has k := fun k hk => hx.own _ b hd0 k hM hv hk
 refine hk hd0.v w' _ β' h1 ⟨hx.mv.trans m, hx.size, fun k hk => ?_, fun i b1 v1 k g1 g2 g3 => ?_⟩ h3
 · rcases hk with hk | hk
   · exact hx.lim k hk
   · rcases hnew k hk with h | h
     · exact .inr (.inl h)
     · exact .inr (.inr h)
 · refine hx.own i b1 v1 k ?_ g2 g3
   rw [List.getElem?_append] at g1 ⊢
   split at g1
   · rename_i hlt
     rw [if_pos hlt]
     exact g1
   · cases hq : i - M.length with
     | zero => rw [hq] at g1; simp at g1
     | succ n => rw [hq] at g1; simp at g1
theorem Wk.refl : ∀ l : List AV, Wk l l
 | [] => Wk.nil
 | x :: l => Wk.same (Wk.refl l)
end
end Go.Proofs.YtpffahmmklpifaaGreat.Abs
