/- A row of ours that stays from now on. -/
import Derived.Test.YtpffahmmklpifaaGreatAbsU
namespace Go.Proofs.YtpffahmmklpifaaGreat.Abs
open Go.RowKit
set_option linter.unusedVariables false
set_option linter.unusedSimpArgs false

section
variable {P : Program} {E : Env} {tm : List AV} {M : Mem}
theorem gens_none {id i : Nat} {g : Nat} (h : (gens (M.set id none))[i]? = some (some g)) : i ≠ id ∧ (gens M)[i]? = some (some g) := by
 unfold gens at h ⊢
 rw [List.getElem?_map, List.getElem?_set] at h
 by_cases e : id = i
 · subst e
   rw [if_pos rfl] at h
   split at h <;> simp at h
 · rw [if_neg e] at h
   exact ⟨fun h => e h.symm, by rw [List.getElem?_map]; exact h⟩
theorem Sim.freeze {a : Act} {w : World} {t id g : Nat} {b : Blk} (h : Sim E tm M a w) (ht : tm[t]? = some (.own id g)) (hM : M[id]? = some (some b)) (hg : b.gen = g) (hb : b.box = false) (hc : ∀ r ∈ b.es, ∀ x ∈ r, Clo x) :
 Sim E (tm.set t (.ro b.sz b.es)) (M.set id none) a w := by
 obtain ⟨hd, Fx, β, hh, ho, hsl⟩ := h
 obtain ⟨u, hu, hr⟩ := hsl.get ht
 obtain ⟨hd0, hv, hdu⟩ : ∃ hd, β[id]? = some hd ∧ hd.v = u := by
  cases hr with
  | own _ _ _ h => exact h (by rw [← hg]; exact gens_of hM)
 obtain ⟨v2, hv2, hok⟩ := hh.blk id b hM
 rw [hv] at hv2
 obtain rfl := Option.some.inj hv2
 have up : ∀ {i : Nat} {b1 : Blk}, (M.set id none)[i]? = some (some b1) → i ≠ id ∧ M[i]? = some (some b1) := fun {i b1} h => by
  rw [List.getElem?_set] at h
  by_cases e : id = i
  · subst e
    rw [if_pos rfl] at h
    split at h <;> simp at h
  · rw [if_neg e] at h
    exact ⟨fun h => e h.symm, h⟩
 have m : Mv w Fx β (gens M) w (fun k => Fx k ∨ hd0.has k) β (gens (M.set id none)) := ⟨fun k h => .inl h, fun k h => rfl, by simp [gens], fun i g' hi hg' => ⟨g', (gens_none hg').2, Nat.le_refl _, fun _ => rfl⟩⟩
 refine ⟨hd, fun k => Fx k ∨ hd0.has k, β, ⟨hh.bel, hh.bs, fun k hk => ?_, by simp [hh.len], fun i b1 h1 => ?_, fun i1 i2 b1 b2 v1 v2 k hne h1 h2 hv1 hv2 hk1 => hh.inj i1 i2 b1 b2 v1 v2 k hne (up h1).2 (up h2).2 hv1 hv2 hk1⟩, ⟨ho.mv.trans m, ho.size, fun k hk => ?_, fun i b1 v1 k g1 g2 g3 => ho.own i b1 v1 k (up g1).2 g2 g3⟩, by rw [hsl.1]; simp, fun t' x u' hx hu' => ?_⟩
 · rcases hk with hk | hk
   · exact hh.fx k hk
   · exact (hok.1 k hk).2.1
 · obtain ⟨hne, h1⟩ := up h1
   obtain ⟨v1, hv1, hok1⟩ := hh.blk i b1 h1
   refine ⟨v1, hv1, hok1.mv m (Nat.le_refl _) (fun k hk => rfl) (fun k hk hF => ?_)⟩
   rcases hF with hF | hF
   · exact (hok1.1 k hk).2.2 hF
   · exact hh.inj i id b1 b v1 hd0 k hne h1 hM hv1 hv hk hF
 · rcases hk with hk | hk
   · exact ho.lim k hk
   · rcases ho.own id b hd0 k hM hv hk with h | h
     · exact .inr (.inl h)
     · exact .inr (.inr h)
 · rw [List.getElem?_set] at hx
   by_cases e : t = t'
   · subst e
     rw [if_pos rfl] at hx
     split at hx
     · obtain rfl := Option.some.inj hx
       rw [hu] at hu'
       obtain rfl := Option.some.inj hu'
       exact hdu ▸ (hh.rowRep hM hb hc (fun k h => .inl h) hv (fun k hk => .inr hk)).of_clo
     · cases hx
   · rw [if_neg e] at hx
     exact (hsl.2 t' x u' hx hu').mv m
theorem AW.freezeRet {t id g : Nat} {b : Blk} {Qx : XPost} (ht : tm[t]? = some (.own id g)) (hM : M[id]? = some (some b)) (hg : b.gen = g) (hb : b.box = false) (hc : ∀ r ∈ b.es, ∀ x ∈ r, Clo x)
 (h : Qx .ret (tm.set t (.ro b.sz b.es)) (M.set id none)) : AW P .ret E tm M Qx := fun a w Q hs k => AW.ret h a w Q (hs.freeze ht hM hg hb hc) k
theorem AW.freeze {t id g : Nat} {b : Blk} {c : Code} {Qx : XPost} (ht : tm[t]? = some (.own id g)) (hM : M[id]? = some (some b)) (hg : b.gen = g) (hb : b.box = false) (hc : ∀ r ∈ b.es, ∀ x ∈ r, Clo x)
 (h : AW P c E (tm.set t (.ro b.sz b.es)) (M.set id none) Qx) : AW P c E tm M Qx := fun a w Q hs k => h a w Q (hs.freeze ht hM hg hb hc) k
end
end Go.Proofs.YtpffahmmklpifaaGreat.Abs
