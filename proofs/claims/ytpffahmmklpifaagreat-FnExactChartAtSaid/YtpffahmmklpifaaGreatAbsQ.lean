/- Rows of our own: a new one, one that grows, its length and its places. -/
import Derived.Test.YtpffahmmklpifaaGreatAbsP
import Derived.Laws.AppendOwn
import Derived.Laws.OwnMore
import Derived.Great.BuildSlice
namespace Go.Proofs.YtpffahmmklpifaaGreat.Abs
open Go.RowKit
set_option linter.unusedVariables false
set_option linter.unusedSimpArgs false

theorem own_blockOf {w : World} {base : Nat} {e : TypeId} {sz : Nat} {v : Value} {n : Nat} {xs : List Value} (h : w.ownsRow base e sz v n xs) : blockOf v = v.ownBlock := by
 rcases h.2 with ⟨rfl, _⟩ | ⟨g, cap, cur, rfl, _⟩ <;> rfl
section
variable {P : Program} {E : Env} {tm : List AV} {M : Mem} {o : Oper} {w w0 : World} {Fx : Nat → Prop} {β : List Hd} {base : Nat}

theorem HS.addRow (h : HS base w0 w Fx β M) {w' : World} (hg : w.grownBy w' none) {t : TypeId} {sz : Nat} {v : Value} {es : List (List AV)} {xs : List Value} (ho : w'.ownsRow base t sz v es.length xs) (hk : ∀ k, blockOf v = some k → w.heap.size ≤ k) (hc : CellsRep w Fx β (gens M) sz es xs) :
 HS base w0 w' Fx (β ++ [Hd.flat v]) (M ++ [some ⟨t, sz, 0, false, es⟩]) ∧ Nx w Fx β M w' Fx (β ++ [Hd.flat v]) (M ++ [some ⟨t, sz, 0, false, es⟩]) := by
 have hG : gens (M ++ [some (⟨t, sz, 0, false, es⟩ : Blk)]) = gens M ++ [some 0] := by simp [gens]
 have hblk : ∀ k, k < w.heap.size → w'.heap[k]? = w.heap[k]? := fun k hk => hg.block k hk (by simp)
 have m : Mv w Fx β (gens M) w' Fx (β ++ [Hd.flat v]) (gens (M ++ [some (⟨t, sz, 0, false, es⟩ : Blk)])) := ⟨fun _ h => h, fun k hF => hblk k (h.fx k hF), by rw [hG]; simp, fun id g' hid hg' => by
  rw [hG, List.getElem?_append_left hid] at hg'
  refine ⟨g', hg', Nat.le_refl _, fun _ => hd_eq (List.getElem?_append_left ?_)⟩
  rw [h.len, ← gens_length]
  exact hid⟩
 have hlast : (β ++ [Hd.flat v])[M.length]? = some (Hd.flat v) := by simp [← h.len]
 have old : ∀ {id : Nat} {b : Blk}, (M ++ [some (⟨t, sz, 0, false, es⟩ : Blk)])[id]? = some (some b) → (id < M.length ∧ M[id]? = some (some b) ∧ (β ++ [Hd.flat v])[id]? = β[id]?) ∨ (id = M.length ∧ b = ⟨t, sz, 0, false, es⟩) := by
  intro id b hb
  rcases Nat.lt_or_ge id M.length with hid | hid
  · rw [List.getElem?_append_left hid] at hb
    exact .inl ⟨hid, hb, List.getElem?_append_left (by rw [h.len]; exact hid)⟩
  · rw [List.getElem?_append_right hid] at hb
    have e : id - M.length = 0 := by
     rcases Nat.eq_zero_or_pos (id - M.length) with e | e
     · exact e
     · rw [List.getElem?_eq_none (by simp; omega)] at hb; cases hb
    rw [e] at hb
    simp at hb
    exact .inr ⟨by omega, hb.symm⟩
 have hkl : ∀ k, blockOf v = some k → k < w'.heap.size := fun k hk => (ho.lt k (by rw [← own_blockOf ho]; exact hk)).2
 refine ⟨⟨h.bel.grown hg h.bs (fun k h => by cases h), Nat.le_trans h.bs hg.size, fun k hF => Nat.lt_of_lt_of_le (h.fx k hF) hg.size, by simp [h.len], fun id b hb => ?_, fun id id' b b' v1 v2 k hne hb hb' hv hv' hk1 hk2 => ?_⟩, m, hg.size, fun k hk => .inl hk, fun id b v1 k g1 g2 g3 => ?_⟩
 · rcases old hb with ⟨hid, hb0, he⟩ | ⟨rfl, rfl⟩
   · obtain ⟨v1, hv1, hok⟩ := h.blk id b hb0
     exact ⟨v1, he.trans hv1, hok.mv m hg.size (fun k hk' => hblk k (hok.1 k hk').2.1) (fun k hk' => (hok.1 k hk').2.2)⟩
   · refine ⟨Hd.flat v, hlast, fun k hk' => ?_, ⟨xs, ho, (hc.mv m).d⟩⟩
     have hk' := Hd.flat_has.1 hk'
     exact ⟨Nat.le_trans h.bs (hk k hk'), hkl k hk', fun hF => absurd (h.fx _ hF) (by have := hk k hk'; omega)⟩
 · rcases old hb with ⟨hid, hb0, he⟩ | ⟨rfl, _⟩
   · rw [he] at hv
     rcases old hb' with ⟨hid', hb0', he'⟩ | ⟨rfl, _⟩
     · rw [he'] at hv'
       exact h.inj id id' b b' v1 v2 k hne hb0 hb0' hv hv' hk1 hk2
     · rw [hlast] at hv'
       obtain rfl := Option.some.inj hv'
       obtain ⟨v3, hv3, hok⟩ := h.blk id b hb0
       rw [hv] at hv3
       obtain rfl := Option.some.inj hv3
       have := (hok.1 k hk1).2.1
       have := hk k (Hd.flat_has.1 hk2)
       omega
   · rw [hlast] at hv
     obtain rfl := Option.some.inj hv
     rcases old hb' with ⟨hid', hb0', he'⟩ | ⟨rfl, _⟩
     · rw [he'] at hv'
       obtain ⟨v3, hv3, hok⟩ := h.blk id' b' hb0'
       rw [hv'] at hv3
       obtain rfl := Option.some.inj hv3
       have := (hok.1 k hk2).2.1
       have := hk k (Hd.flat_has.1 hk1)
       omega
     · exact hne rfl
 · rcases old g1 with ⟨hid, hb0, he⟩ | ⟨rfl, _⟩
   · exact .inr ⟨id, b, v1, hb0, he ▸ g2, g3⟩
   · rw [hlast] at g2
     obtain rfl := Option.some.inj g2
     exact .inl (hk k (Hd.flat_has.1 g3))
theorem HS.regrow (h : HS base w0 w Fx β M) {id : Nat} {b : Blk} (hM : M[id]? = some (some b)) (hb : b.box = false) {v : Hd} {v' : Value} (hv : β[id]? = some v) {w' : World} (hg : w.grownBy w' v.v.ownBlock) {es : List (List AV)} {xs : List Value}
 (ho : w'.ownsRow base b.ty b.sz v' es.length xs) (hk : ∀ k, blockOf v' = some k → blockOf v.v = some k ∨ w.heap.size ≤ k) (hc : CellsD w Fx β (gens M) v.pv (blockOf v.v) b.sz es xs) :
 HS base w0 w' Fx (β.set id ⟨v', v.pv⟩) (M.set id (some { b with es := es, gen := b.gen + 1 })) ∧ Nx w Fx β M w' Fx (β.set id ⟨v', v.pv⟩) (M.set id (some { b with es := es, gen := b.gen + 1 })) := by
 have hid : id < M.length := (List.getElem?_eq_some_iff.1 hM).1
 obtain ⟨v2, hv2, hok⟩ := h.blk id b hM
 rw [hv] at hv2
 obtain rfl := Option.some.inj hv2
 have hob : blockOf v.v = v.v.ownBlock := by
  have h2 := hok.2
  rw [hb] at h2
  obtain ⟨ys, hoy, _⟩ := h2
  exact own_blockOf hoy
 have oldM : ∀ {i : Nat} {b1 : Blk}, (M.set id (some { b with es := es, gen := b.gen + 1 }))[i]? = some (some b1) → (i = id ∧ b1 = { b with es := es, gen := b.gen + 1 }) ∨ (i ≠ id ∧ M[i]? = some (some b1) ∧ (β.set id ⟨v', v.pv⟩)[i]? = β[i]?) := by
  intro i b1 h1
  rw [List.getElem?_set] at h1
  by_cases e : id = i
  · subst e
    rw [if_pos rfl, if_pos hid] at h1
    simp at h1
    exact .inl ⟨rfl, h1.symm⟩
  · rw [if_neg e] at h1
    exact .inr ⟨fun h => e h.symm, h1, by rw [List.getElem?_set, if_neg e]⟩
 have hself : (β.set id ⟨v', v.pv⟩)[id]? = some ⟨v', v.pv⟩ := by rw [List.getElem?_set, if_pos rfl, if_pos (by rw [h.len]; exact hid)]
 have other : ∀ {i : Nat} {b1 : Blk} {v1 : Hd} {k : Nat}, i ≠ id → M[i]? = some (some b1) → β[i]? = some v1 → v1.has k → w'.heap[k]? = w.heap[k]? := by
  intro i b1 v1 k hne h1 h2 h3
  obtain ⟨v3, hv3, hok3⟩ := h.blk i b1 h1
  rw [h2] at hv3
  obtain rfl := Option.some.inj hv3
  refine hg.block k (hok3.1 k h3).2.1 (fun e => ?_)
  exact h.inj i id b1 b v1 v k hne h1 hM h2 hv h3 (.inl (by rw [hob, ← e]))
 have fixd : ∀ k, Fx k → w'.heap[k]? = w.heap[k]? := fun k hF => hg.block k (h.fx k hF) (fun e => (hok.1 k (.inl (by rw [hob, ← e]))).2.2 hF)
 have hG : ∀ i, (gens (M.set id (some { b with es := es, gen := b.gen + 1 })))[i]? = if i = id then some (some (b.gen + 1)) else (gens M)[i]? := fun i => by
  unfold gens
  rw [List.getElem?_map, List.getElem?_map, List.getElem?_set]
  by_cases e : id = i
  · subst e; simp [hid]
  · rw [if_neg e, if_neg (fun h => e h.symm)]
 have m : Mv w Fx β (gens M) w' Fx (β.set id ⟨v', v.pv⟩) (gens (M.set id (some { b with es := es, gen := b.gen + 1 }))) := ⟨fun _ h => h, fixd, by simp [gens], fun i g' hi hg' => by
  rw [hG] at hg'
  by_cases e : i = id
  · subst e
    rw [if_pos rfl] at hg'
    simp at hg'
    exact ⟨b.gen, gens_of hM, by omega, fun h => by omega⟩
  · rw [if_neg e] at hg'
    exact ⟨g', hg', Nat.le_refl _, fun _ => hd_eq (by rw [List.getElem?_set, if_neg (fun h => e h.symm)])⟩⟩
 have hkl : ∀ k, blockOf v' = some k → base ≤ k ∧ k < w'.heap.size := fun k hk => ho.lt k (by rw [← own_blockOf ho]; exact hk)
 refine ⟨⟨h.bel.grown hg h.bs (fun k hk' => (hok.1 k (.inl (by rw [hob, hk']))).1), Nat.le_trans h.bs hg.size, fun k hF => Nat.lt_of_lt_of_le (h.fx k hF) hg.size, by simp [h.len], fun i b1 h1 => ?_, fun i1 i2 b1 b2 v1 v2 k hne h1 h2 hv1 hv2 hk1 hk2 => ?_⟩, m, hg.size, fun k hk => .inl hk, fun i b1 v1 k g1 g2 g3 => ?_⟩
 · rcases oldM h1 with ⟨rfl, rfl⟩ | ⟨hne, h0, he⟩
   · refine ⟨⟨v', v.pv⟩, hself, fun k hk' => ?_, ?_⟩
     · rcases hk' with hk' | hk'
       · refine ⟨(hkl k hk').1, (hkl k hk').2, fun hF => ?_⟩
         rcases hk k hk' with e | e
         · exact (hok.1 k (.inl e)).2.2 hF
         · have := h.fx k hF; omega
       · have h3 := hok.1 k (.inr hk')
         exact ⟨h3.1, Nat.lt_of_lt_of_le h3.2.1 hg.size, h3.2.2⟩
     · have hbf : ¬ (b.box = true) := by rw [hb]; decide
       show if b.box = true then _ else _
       rw [if_neg hbf]
       have hc' := hc.mv m (fun k hp hn => hg.block k (hok.1 k (.inr hp)).2.1 (fun e => hn (by rw [hob, ← e])))
       obtain ⟨c1, c2, pc, c3, c4, c5⟩ := hc'
       refine ⟨xs, ho, c1, c2, pc, fun i' j' k hp => ⟨(c3 i' j' k hp).1, fun e => ?_⟩, c4, c5⟩
       rcases hk k e with e | e
       · exact (c3 i' j' k hp).2 e
       · have := (hok.1 k (.inr (c3 i' j' k hp).1)).2.1; omega
   · obtain ⟨v1, hv1, hok1⟩ := h.blk i b1 h0
     exact ⟨v1, he.trans hv1, hok1.mv m hg.size (fun k hk' => other hne h0 hv1 hk') (fun k hk' => (hok1.1 k hk').2.2)⟩
 · have clash : ∀ {i : Nat} {b3 : Blk} {v3 : Hd}, i ≠ id → M[i]? = some (some b3) → β[i]? = some v3 → v3.has k → (⟨v', v.pv⟩ : Hd).has k → False := by
    intro i b3 v3 hne h3 hv3 hk3 hk'
    rcases (hk'.elim (fun e => (hk k e).imp .inl (fun h => h)) (fun e => .inl (.inr e)) : v.has k ∨ w.heap.size ≤ k) with e | e
    · exact h.inj i id b3 b v3 v k hne h3 hM hv3 hv hk3 e
    · obtain ⟨v4, hv4, hok4⟩ := h.blk i b3 h3
      rw [hv3] at hv4
      obtain rfl := Option.some.inj hv4
      have := (hok4.1 k hk3).2.1
      omega
   rcases oldM h1 with ⟨rfl, _⟩ | ⟨n1, h10, e1⟩ <;> rcases oldM h2 with ⟨rfl, _⟩ | ⟨n2, h20, e2⟩
   · exact hne rfl
   · rw [hself] at hv1
     obtain rfl := Option.some.inj hv1
     exact clash n2 h20 (e2 ▸ hv2) hk2 hk1
   · rw [hself] at hv2
     obtain rfl := Option.some.inj hv2
     exact clash n1 h10 (e1 ▸ hv1) hk1 hk2
   · exact h.inj i1 i2 b1 b2 v1 v2 k hne h10 h20 (e1 ▸ hv1) (e2 ▸ hv2) hk1 hk2
 · rcases oldM g1 with ⟨rfl, _⟩ | ⟨hne, h0, he⟩
   · rw [hself] at g2
     obtain rfl := Option.some.inj g2
     rcases (g3.elim (fun e => (hk k e).imp .inl (fun h => h)) (fun e => .inl (.inr e)) : v.has k ∨ w.heap.size ≤ k) with e | e
     · exact .inr ⟨i, b, v, hM, hv, e⟩
     · exact .inl e
   · exact .inr ⟨i, b1, v1, h0, he ▸ g2, g3⟩
end
end Go.Proofs.YtpffahmmklpifaaGreat.Abs
