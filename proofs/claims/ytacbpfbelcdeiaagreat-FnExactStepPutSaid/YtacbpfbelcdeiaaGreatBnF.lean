/- Part F of the walk over abstract states and of the functions' walks. -/
import Derived.Test.YtacbpfbelcdeiaaGreatWkStep
import Derived.WalkKit
import Derived.Lib.Overlaps
import Derived.Lib.AppendZerosOnto
import Derived.Laws.Externs
import Derived.Laws.IdiomCopy
import Derived.Shelf.RegionOpenPlain
import Derived.Test.YtacbpfbelcdeiaaGreatBnE
/- A row appended whole, its trees with it. -/
namespace Go.Proofs.YtacbpfbelcdeiaaGreat.Abs
open Go.Proofs Go.RowKit
set_option linter.unusedVariables false
set_option linter.unusedSimpArgs false
set_option maxRecDepth 100000
set_option maxHeartbeats 2000000
section
variable {P : Program} {E : Env} {tm : List AV} {M : Mem} {o : Oper} {w w0 : World} {Fx : Nat → Prop} {β : List Hd} {base : Nat} {G : List (Option Nat)}
theorem CellsD.append2 {pv pv2 : Nat → Prop} {hb hb2 : Option Nat} {sz : Nat} {es es2 : List (List AV)} {xs ys : List Value} (h : CellsD w Fx β G pv hb sz es xs) (k : CellsD w Fx β G pv2 hb2 sz es2 ys) (hd : ∀ q, pv2 q → ¬ pv q ∧ hb ≠ some q) :
    CellsD w Fx β G (fun q => pv q ∨ pv2 q) hb sz (es ++ es2) (xs ++ ys) := by
  obtain ⟨h1, h2, pc, h3, h4, h5⟩ := h
  obtain ⟨k1, k2, pc2, k3, k4, k5⟩ := k
  refine ⟨by rw [List.length_append, List.length_append, h1, k1, Nat.add_mul], fun i r hr => ?_, fun i j q => (i < es.length ∧ pc i j q) ∨ (es.length ≤ i ∧ pc2 (i - es.length) j q), fun i j q hp => ?_, fun i j i' j' q hp hq => ?_, fun i r j d hr hx => ?_⟩
  · rcases Nat.lt_or_ge i es.length with hi | hi
    · rw [List.getElem?_append_left hi] at hr
      refine ⟨(h2 i r hr).1, fun j x hx => ?_⟩
      obtain ⟨u, hu, ho, hR⟩ := (h2 i r hr).2 j x hx
      exact ⟨u, by rw [List.getElem?_append_left (List.getElem?_eq_some_iff.1 hu).1]; exact hu, ho, hR⟩
    · rw [List.getElem?_append_right hi] at hr
      refine ⟨(k2 _ r hr).1, fun j x hx => ?_⟩
      obtain ⟨u, hu, ho, hR⟩ := (k2 _ r hr).2 j x hx
      have e : es.length * sz ≤ i * sz := Nat.mul_le_mul_right _ hi
      refine ⟨u, ?_, ho, hR⟩
      rw [List.getElem?_append_right (by rw [h1]; omega), h1, show i * sz + j - es.length * sz = (i - es.length) * sz + j by rw [Nat.sub_mul]; omega]
      exact hu
  · rcases hp with ⟨_, hp⟩ | ⟨_, hp⟩
    · exact ⟨.inl (h3 i j q hp).1, (h3 i j q hp).2⟩
    · exact ⟨.inr (k3 _ j q hp).1, (hd q (k3 _ j q hp).1).2⟩
  · rcases hp with ⟨a1, hp⟩ | ⟨a1, hp⟩ <;> rcases hq with ⟨a2, hq⟩ | ⟨a2, hq⟩
    · exact h4 _ _ _ _ q hp hq
    · exact absurd (h3 _ _ q hp).1 (hd q (k3 _ _ q hq).1).1
    · exact absurd (h3 _ _ q hq).1 (hd q (k3 _ _ q hp).1).1
    · have := k4 _ _ _ _ q hp hq
      exact ⟨by omega, this.2⟩
  · rcases Nat.lt_or_ge i es.length with hi | hi
    · rw [List.getElem?_append_left hi] at hr
      obtain ⟨u, hu, hR⟩ := h5 i r j d hr hx
      refine ⟨u, by rw [List.getElem?_append_left (List.getElem?_eq_some_iff.1 hu).1]; exact hu, hR.mono fun q hq => .inl ⟨hi, hq⟩⟩
    · rw [List.getElem?_append_right hi] at hr
      obtain ⟨u, hu, hR⟩ := k5 _ r j d hr hx
      have e : es.length * sz ≤ i * sz := Nat.mul_le_mul_right _ hi
      refine ⟨u, ?_, hR.mono fun q hq => .inr ⟨hi, hq⟩⟩
      rw [List.getElem?_append_right (by rw [h1]; omega), h1, show i * sz + j - es.length * sz = (i - es.length) * sz + j by rw [Nat.sub_mul]; omega]
      exact hu
/-- One row's trees, given to another; the first is forgotten. -/
theorem HS.give (hh : HS base w0 w Fx β M) {id id2 : Nat} {b b2 : Blk} {u u2 : Hd} (hM : M[id]? = some (some b)) (hM2 : M[id2]? = some (some b2)) (hne : id ≠ id2) (hu : β[id]? = some u) (hu2 : β[id2]? = some u2) :
    HS base w0 w Fx (β.set id ⟨u.v, fun q => u.pv q ∨ u2.pv q⟩) (M.set id2 none) ∧ Mv w Fx β (gens M) w Fx (β.set id ⟨u.v, fun q => u.pv q ∨ u2.pv q⟩) (gens (M.set id2 none)) ∧
      ∀ (i : Nat) b' (v : Hd) k, (M.set id2 none)[i]? = some (some b') → (β.set id ⟨u.v, fun q => u.pv q ∨ u2.pv q⟩)[i]? = some v → v.has k → ∃ (i' : Nat) (b'' : Blk) (v' : Hd), M[i']? = some (some b'') ∧ β[i']? = some v' ∧ v'.has k := by
  have up : ∀ {i : Nat} {b1 : Blk}, (M.set id2 none)[i]? = some (some b1) → i ≠ id2 ∧ M[i]? = some (some b1) := fun {i b1} h => by
    rcases set_get h with ⟨_, e, _⟩ | h
    · cases e
    · exact h
  have m : Mv w Fx β (gens M) w Fx (β.set id ⟨u.v, fun q => u.pv q ∨ u2.pv q⟩) (gens (M.set id2 none)) := ⟨fun _ h => h, fun _ _ => rfl, by simp [gens], fun i g' hi hg' => ⟨g', (gens_none hg').2, Nat.le_refl _, fun _ => by
    by_cases e : id = i
    · subst e
      rw [List.getElem?_set, if_pos rfl, if_pos (List.getElem?_eq_some_iff.1 hu).1, hu]
      rfl
    · rw [List.getElem?_set, if_neg e]⟩⟩
  have has : ∀ {i : Nat} {v : Hd} {k : Nat}, (β.set id ⟨u.v, fun q => u.pv q ∨ u2.pv q⟩)[i]? = some v → v.has k → (i = id ∧ (u.has k ∨ u2.has k)) ∨ (i ≠ id ∧ β[i]? = some v) := fun {i v k} h hk => by
    rcases set_get h with ⟨e, rfl, _⟩ | h
    · refine .inl ⟨e, ?_⟩
      rcases hk with hk | hk | hk
      · exact .inl (.inl hk)
      · exact .inl (.inr hk)
      · exact .inr (.inr hk)
    · exact .inr h
  obtain ⟨u0, hu0, hok⟩ := hh.blk id b hM
  rw [hu] at hu0
  obtain rfl := Option.some.inj hu0
  obtain ⟨u0, hu0, hok2⟩ := hh.blk id2 b2 hM2
  rw [hu2] at hu0
  obtain rfl := Option.some.inj hu0
  refine ⟨⟨hh.bel, hh.bs, hh.fx, by simp [hh.len], fun i b1 h1 => ?_, fun i1 i2 b1 c2 v1 v2 k hne2 h1 h2 hv1 hv2 hk1 hk2 => ?_⟩, m, fun i b' v k h1 h2 h3 => ?_⟩
  · obtain ⟨n2, h1⟩ := up h1
    by_cases e : i = id
    · subst e
      rw [hM] at h1
      obtain rfl := Option.some.inj (Option.some.inj h1)
      obtain ⟨xs, hcd, mk⟩ := hok.open
      refine ⟨⟨u.v, fun q => u.pv q ∨ u2.pv q⟩, by rw [List.getElem?_set, if_pos rfl, if_pos (List.getElem?_eq_some_iff.1 hu).1], mk b ⟨u.v, fun q => u.pv q ∨ u2.pv q⟩ _ _ rfl rfl rfl rfl rfl (fun k hk => ?_) ?_⟩
      · rcases hk with hk | hk | hk
        · exact hok.1 k (.inl hk)
        · exact hok.1 k (.inr hk)
        · exact hok2.1 k (.inr hk)
      · obtain ⟨c1, c2, pc, c3, c4, c5⟩ := hcd.mv m (fun k _ _ => rfl)
        exact ⟨c1, c2, pc, fun i j k hp => ⟨.inl (c3 i j k hp).1, (c3 i j k hp).2⟩, c4, c5⟩
    · obtain ⟨v, hv, hk⟩ := hh.blk i b1 h1
      exact ⟨v, by rw [List.getElem?_set, if_neg (Ne.symm e)]; exact hv, hk.mv m (Nat.le_refl _) (fun _ _ => rfl) (fun k hk' => (hk.1 k hk').2.2)⟩
  · obtain ⟨n1, h1⟩ := up h1
    obtain ⟨n2, h2⟩ := up h2
    rcases has hv1 hk1 with ⟨rfl, hq1⟩ | ⟨e1, hw1⟩
    · rcases has hv2 hk2 with ⟨rfl, _⟩ | ⟨e2, hw2⟩
      · exact hne2 rfl
      · rcases hq1 with hq1 | hq1
        · exact hh.inj i1 i2 _ _ _ _ k hne2 hM h2 hu hw2 hq1 hk2
        · exact hh.inj id2 i2 _ _ _ _ k (Ne.symm n2) hM2 h2 hu2 hw2 hq1 hk2
    · rcases has hv2 hk2 with ⟨rfl, hq2⟩ | ⟨e2, hw2⟩
      · rcases hq2 with hq2 | hq2
        · exact hh.inj i1 i2 _ _ _ _ k hne2 h1 hM hw1 hu hk1 hq2
        · exact hh.inj i1 id2 _ _ _ _ k n1 h1 hM2 hw1 hu2 hk1 hq2
      · exact hh.inj i1 i2 _ _ _ _ k hne2 h1 h2 hw1 hw2 hk1 hk2
  · obtain ⟨n1, h1⟩ := up h1
    rcases has h2 h3 with ⟨rfl, h3 | h3⟩ | ⟨_, h2⟩
    · exact ⟨i, _, _, hM, hu, h3⟩
    · exact ⟨id2, _, _, hM2, hu2, h3⟩
    · exact ⟨i, _, _, h1, h2, h3⟩
/-- append(a row of ours, another row of ours, which is given up): its trees go with it. -/
theorem POp.appendMv {s x : Operand} {t e : TypeId} {sz bytes id g id2 g2 : Nat} {zs : List Value} {b b2 : Blk} (ho : o.op = .call { callee := .builtin .append, args := #[s, x], argTypes := #[t, t] }) (hr : rwk P t = some (e, sz, bytes, zs))
    (hs : evA tm s = some (.own id g)) (hM : M[id]? = some (some b)) (hg : b.gen = g) (hb : b.box = false) (hty : b.ty = e) (hbs : b.sz = sz) (hx : evA tm x = some (.own id2 g2)) (hM2 : M[id2]? = some (some b2)) (hg2 : b2.gen = g2) (hb2 : b2.box = false) (hbs2 : b2.sz = sz) (hne : Nat.beq id id2 = false)
    (hlen : (b.es.length + b2.es.length) * bytes ≤ 140737488355328) (hm : b.es.length + b2.es.length ≤ maxLen) : POp P o E tm M (.own id (g + 1)) ((M.set id2 none).set id (some { b with es := b.es ++ b2.es, gen := b.gen + 1 })) := by
  obtain ⟨i, z, h1, h2, h3, h4, h5, h6, h7, h8, h9⟩ := rwk_inv hr
  have hne : id ≠ id2 := Nat.ne_of_beq_eq_false hne
  intro a w K Q Fx β hh hsl hk
  have hrs := hsl.ev hs
  generalize hv0 : a.eval s = v at hrs
  obtain ⟨hd, hvv, hdv⟩ : ∃ hd, β[id]? = some hd ∧ hd.v = v := by
    cases hrs with
    | own _ _ _ h => exact h (by rw [← hg]; exact gens_of hM)
  have hrx := hsl.ev hx
  generalize hu0 : a.eval x = u at hrx
  obtain ⟨hd2, hvv2, hdv2⟩ : ∃ hd, β[id2]? = some hd ∧ hd.v = u := by
    cases hrx with
    | own _ _ _ h => exact h (by rw [← hg2]; exact gens_of hM2)
  obtain ⟨hh2, m2, own2⟩ := hh.give hM hM2 hne hvv hvv2
  obtain ⟨v2, hv2, hok⟩ := hh.blk id b hM
  rw [hvv] at hv2
  obtain rfl := Option.some.inj hv2
  obtain ⟨v2, hv2, hokx⟩ := hh.blk id2 b2 hM2
  rw [hvv2] at hv2
  obtain rfl := Option.some.inj hv2
  obtain ⟨hok1, hok2⟩ := hok
  obtain ⟨hokx1, hokx2⟩ := hokx
  rw [hb] at hok2
  rw [hb2] at hokx2
  obtain ⟨xs, hown, hc⟩ := hok2
  obtain ⟨ys, hownx, hcx⟩ := hokx2
  subst hty hbs
  rw [hbs2] at hownx hcx
  rw [← hdv] at hv0
  rw [← hdv2] at hu0
  clear hrs hdv v hrx hdv2 u
  obtain ⟨v, pv⟩ := hd
  obtain ⟨u, pv2⟩ := hd2
  dsimp only at hv0 hu0 hown hc hownx hcx hh2 m2 own2
  have hc2 := (hc.mv m2 (fun _ _ _ => rfl)).append2 (hcx.mv m2 (fun _ _ _ => rfl)) (fun q hq => ⟨fun hp => hh.inj id id2 _ _ _ _ q hne hM hM2 hvv hvv2 (.inr hp) (.inr hq), fun hp => hh.inj id id2 _ _ _ _ q hne hM hM2 hvv hvv2 (.inl hp) (.inr hq)⟩)
  have hidl : id < M.length := (List.getElem?_eq_some_iff.1 hM).1
  have hM' : (M.set id2 none)[id]? = some (some b) := by rw [List.getElem?_set, if_neg (Ne.symm hne)]; exact hM
  have hv' : (β.set id ⟨v, fun q => pv q ∨ pv2 q⟩)[id]? = some ⟨v, fun q => pv q ∨ pv2 q⟩ := by rw [List.getElem?_set, if_pos rfl, if_pos (by rw [hh.len]; exact hidl)]
  have fin : ∀ v' w' xs', (Builtin.append_ #[t, t] o.type #[v, u]).run P w = .ok v' w' → w'.ownsRow E.base b.ty b.sz v' (b.es.length + b2.es.length) xs' → w.grownBy w' v.ownBlock → (∀ k, blockOf v' = some k → blockOf v = some k ∨ w.heap.size ≤ k) →
      CellsD w Fx (β.set id ⟨v, fun q => pv q ∨ pv2 q⟩) (gens (M.set id2 none)) (fun q => pv q ∨ pv2 q) (blockOf v) b.sz (b.es ++ b2.es) xs' → o.wp P a w K Q := by
    intro v' w' xs' hrun ho' hgr hfr hc'
    obtain ⟨hh', hx'⟩ := hh2.regrow hM' hb hv' hgr (es := b.es ++ b2.es) (by rw [List.length_append]; exact ho') hfr hc'
    unfold Oper.wp
    have e : (execOp a.eval o).run P w = .ok (.value v') w' := by simp [execOp, ho, resolve, invoke, builtin, hv0, hu0, hrun]
    rw [e, Oper.upon_value]
    have hl2 : id < (M.set id2 none).length := by simpa using hidl
    refine hk _ _ _ _ hh' ⟨m2.trans hx'.mv, hx'.size, fun k hF => ?_, fun i b1 v1 k g1 g2 g3 => ?_⟩ (.own ?_ (by simp [gens, hidl]) (fun g1 hg1 => ?_) (fun _ => ?_))
    · rcases hx'.lim k hF with h | h | ⟨i, b1, v1, g1, g2, g3⟩
      · exact .inl h
      · exact .inr (.inl h)
      · obtain ⟨i', b', v', k1, k2, k3⟩ := own2 i b1 v1 k g1 g2 g3
        exact .inr (.inr ⟨i', b', v', k1, k2, k3⟩)
    · rcases hx'.own i b1 v1 k g1 g2 g3 with h | ⟨i', b', v', k1, k2, k3⟩
      · exact .inl h
      · exact .inr (own2 i' b' v' k k1 k2 k3)
    · rcases ho'.2 with ⟨rfl, _⟩ | ⟨g', cap, cur, rfl, _⟩ <;> rfl
    · have := gens_of (M := (M.set id2 none).set id (some { b with es := b.es ++ b2.es, gen := b.gen + 1 })) (id := id) (b := { b with es := b.es ++ b2.es, gen := b.gen + 1 }) (by rw [List.getElem?_set, if_pos rfl, if_pos hl2])
      rw [this] at hg1
      simp at hg1
      omega
    · exact ⟨_, by rw [List.getElem?_set, if_pos rfl, if_pos (by rw [hh2.len]; exact hl2)], rfl⟩
  have one : ∀ v ∈ ys, v.oneCell' = true := fun v hv => by
    obtain ⟨q, hq⟩ := List.getElem?_of_mem hv
    have hlt : q < _ := (List.getElem?_eq_some_iff.1 hq).1
    rw [hcx.len] at hlt
    have hi' : q / b.sz < b2.es.length := (Nat.div_lt_iff_lt_mul h9).2 hlt
    have hrl := (hcx.cel (q / b.sz) _ (List.getElem?_eq_getElem hi')).1
    have hj : q % b.sz < (b2.es[q / b.sz]).length := by rw [hrl]; exact Nat.mod_lt _ h9
    obtain ⟨v2, hv2, h1, _⟩ := (hcx.cel (q / b.sz) _ (List.getElem?_eq_getElem hi')).2 (q % b.sz) _ (List.getElem?_eq_getElem hj)
    rw [Nat.div_add_mod'] at hv2
    rw [hq] at hv2
    obtain rfl := Option.some.inj hv2
    exact h1
  rcases hownx.2 with ⟨rfl, hn⟩ | ⟨g', cap, cur, rfl, _⟩
  · have e0 : b2.es = [] := List.length_eq_zero_iff.1 hn
    have e1 : ys = [] := List.eq_nil_of_length_eq_zero (by rw [hownx.1, hn, Nat.zero_mul])
    subst e1
    refine fin v w xs (run_append_none h1 h2 hown) (by rw [e0]; simpa using hown) ⟨rfl, rfl, rfl, Nat.le_refl _, fun _ _ _ => rfl⟩ (fun k hk => .inl hk) (by simpa using hc2)
  · obtain ⟨v', w', q1, q2, q3, q4⟩ := run_append_fresh (P := P) (ty := o.type) h1 h2 h3 h4 h5 h6 h9 hown hcx.len (hownx.cells (g := g') rfl) one hm hlen hh.bs
    exact fin v' w' _ q1 q2 q3 q4 hc2
end

end Go.Proofs.YtacbpfbelcdeiaaGreat.Abs

/- slices.Insert of one entry into a log. -/
namespace Go.Proofs.YtacbpfbelcdeiaaGreat.Abs
open Go.Proofs Go.RowKit
set_option linter.unusedVariables false
set_option linter.unusedSimpArgs false
set_option maxRecDepth 100000
set_option maxHeartbeats 2000000
open Go.Lib in
/-- copy into a block of rows: what it holds afterwards. -/
theorem run_copyR {P : Program} (w : World) (dT sT ty elem : TypeId) (i : TypeInfo) (hu : P.underlying dT = some (.slice elem)) (hi : P.info? elem = some i) (g o dLen dCap : Nat) (cur : Array Value) (hg : w.heap[g]? = some (.cells cur elem (0, 0))) (a : Addr) (sLen sCap : Nat) (cs : List Value)
    (hn : cs.length = Nat.min sLen dLen * i.size) (hsrc : ∀ j v, cs[j]? = some v → w.cell? (a.add j) = some v) (hfit : o + cs.length ≤ cur.size) (h1 : ∀ v ∈ cs, v.oneCell' = true) :
    (Builtin.copy_ #[dT, sT] ty #[.slice (some ⟨g, o, none⟩) dLen dCap, .slice (some a) sLen sCap]).run P w = .ok (goInt (Nat.min sLen dLen)) (w.setRow g (cur.toList.take o ++ cs ++ cur.toList.drop (o + cs.length)).toArray) := by
  have hl := run_loadCells_list (P := P) w a cs hsrc
  have hst := run_storeCells_at P g o elem cs 0 cur w hg (by simpa using hfit) h1
  simp only [Nat.add_zero] at hst
  simp [Builtin.copy_, run_underlying hu, Builtin.lenOf, Builtin.firstCells, sizeOf, typeInfo, hi, ← hn, hl, hst]
theorem step_copyR {P : Program} {ops : Array Oper} {o : Oper} {a : Act} {w : World} {K : Act → World → Prop} {Q : Exit → Act → World → Prop} {E : Prop} (hg : o.guard = none) (d x : Operand) (dT sT : TypeId) (hop : o.op = Op.call { callee := Callee.builtin Builtin.copy, args := #[d, x], argTypes := #[dT, sT] })
    (v u : Value) (hd : a.eval d = v) (hx : a.eval x = u) {v' : Value} {w' : World} (hr : (Builtin.copy_ #[dT, sT] o.type #[v, u]).run P w = .ok v' w') (hK : K (a.put o.dst v') w') :
    if Region.wanted o (yielded ops a.tmps) = true then Oper.wp P o a w K Q else E := by
  have hw : Region.wanted o (yielded ops a.tmps) = true := by simp [Region.wanted, hg]
  rw [if_pos hw]
  unfold Oper.wp
  simp [execOp, hop, resolve, invoke, builtin, hd, hx, hr, Result.andThen]
  exact hK
theorem ins_list {cur xd ys : List Value} {a : Nat} (ha : a + ys.length ≤ cur.length) : ((cur.take (a + ys.length) ++ xd ++ cur.drop (a + ys.length + xd.length)).take a ++ ys ++ (cur.take (a + ys.length) ++ xd ++ cur.drop (a + ys.length + xd.length)).drop (a + ys.length)) = cur.take a ++ ys ++ xd ++ cur.drop (a + ys.length + xd.length) := by
  have hl : (cur.take (a + ys.length)).length = a + ys.length := by rw [List.length_take]; omega
  rw [List.append_assoc (cur.take _), List.take_append_of_le_length (by omega), List.drop_left' hl, List.take_take, Nat.min_eq_left (Nat.le_add_right _ _)]
  simp only [List.append_assoc]
section
variable {w : World} {base : Nat} {n : Nat} {xs ys : List Value}
/-- What slices.Insert gives. -/
def InsPost (w : World) (base : Nat) (v : Value) (n i : Nat) (xs ys : List Value) (e : Ending) (w' : World) : Prop :=
  ∃ v', e = .returned v' ∧ w'.ownsRow base 121 8 v' (n + 1) (xs.take (i * 8) ++ ys ++ xs.drop (i * 8)) ∧ w.grownBy w' v.ownBlock ∧ ∀ k, blockOf v' = some k → blockOf v = some k ∨ w.heap.size ≤ k
set_option maxHeartbeats 4000000 in
set_option maxRecDepth 100000 in
/-- At the end: append. -/
theorem ins_end (v : Value) (hown : w.ownsRow base 121 8 v n xs) (vb vc : Nat) (hyl : ys.length = 8) (hys : ∀ j u, ys[j]? = some u → w.cell? ⟨vb, j, none⟩ = some u) (h1 : ∀ u ∈ ys, u.oneCell' = true) (hn : n ≤ 1048576) (hbase : base ≤ w.heap.size) :
    Calls Tryz.prog 151 #[v, .int .i64 n, .slice (some ⟨vb, 0, none⟩) 1 vc] w (InsPost w base v n n xs ys) := by
  obtain ⟨i0, z, q1, q2, q3, q4, q5, q6, q7, q8, q9⟩ := rwk_inv rwk27
  have hxl := hown.1
  have hz : (Go.sizeOf 121).run Tryz.prog = fun w => .ok 8 w := by
    funext w
    simp [sizeOf, typeInfo, q2, q4]
  have hz1 : ∀ w, (Go.sizeOf 121).run Tryz.prog w = .ok 8 w := fun w => by rw [hz]
  have t27 := run_underlying q1
  have hadd : ∀ j, (⟨vb, 0, none⟩ : Addr).add j = ⟨vb, j, none⟩ := fun j => by simp [Addr.add]; omega
  obtain ⟨v2, w2, hr2, ho2, hg2, hb2⟩ := run_append_fresh (P := Tryz.prog) (ty := 27) q1 q2 q3 q4 q5 q6 q9 hown (a := ⟨vb, 0, none⟩) (m := 1) (c := vc) hyl (fun j u hj => by rw [hadd]; exact hys j u hj) h1 (by simp [maxLen]; omega) (by omega) hbase
  have fin : InsPost w base v n n xs ys (.returned v2) w2 := ⟨v2, rfl, by
    have e1 : xs.take (n * 8) = xs := List.take_of_length_le (by omega)
    have e2 : xs.drop (n * 8) = [] := List.drop_eq_nil_of_le (by omega)
    rw [e1, e2, List.append_nil]; exact ho2, hg2, hb2⟩
  have hcap : ∃ b c, v = .slice b n c := by
    rcases hown.2 with ⟨rfl, rfl⟩ | ⟨g, cap, cur, rfl, _⟩
    · exact ⟨_, _, rfl⟩
    · exact ⟨_, _, rfl⟩
  obtain ⟨b, c, rfl⟩ := hcap
  have hbc : n ≤ c := by
    rcases hown.2 with ⟨e, rfl⟩ | ⟨g, cap, cur, e, _, _, h, _⟩
    · omega
    · cases e; exact h
  go_enter Tryz.func151, Tryz.ntmps151
  cases b with
  | none =>
    have h0 : n = 0 ∧ c = 0 := by
      rcases hown.2 with ⟨e, rfl⟩ | ⟨g, cap, cur, e, _⟩
      · cases e; exact ⟨rfl, rfl⟩
      · cases e
    obtain ⟨rfl, rfl⟩ := h0
    go_wp2_with (at_builtin; refine Lib.wpList_append_run _ rfl _ _ _ _ rfl _ _ rfl rfl _ _ hr2 ?_)
    all_goals (go_ret; exact fin)
  | some ad =>
    obtain ⟨g, o, s⟩ := ad
    go_wp2_with (at_builtin; refine Lib.wpList_append_run _ rfl _ _ _ _ rfl _ _ rfl rfl _ _ hr2 ?_)
    all_goals (go_ret; exact fin)
set_option maxHeartbeats 4000000 in
set_option maxRecDepth 100000 in
/-- Ahead of the end, there is room: in place. -/
theorem ins_room (g i c : Nat) (cur : Array Value) (hg : w.heap[g]? = some (.cells cur 121 (0, 0))) (hcs : cur.size = c * 8) (hxs : cur.toList.take (n * 8) = xs) (hbg : base ≤ g) (hi : i < n) (hroom : n + 1 ≤ c) (hcm : c ≤ maxLen) (vb vc : Nat) (hvb : vb ≠ g) (cuy : Array Value) (hgv : w.heap[vb]? = some (.cells cuy 121 (0, 0))) (hyl : ys.length = 8) (hys : ∀ j u, ys[j]? = some u → w.cell? ⟨vb, j, none⟩ = some u) (h1x : ∀ u ∈ xs, u.oneCell' = true) (h1 : ∀ u ∈ ys, u.oneCell' = true) (hn : n ≤ 1048576) :
    Calls Tryz.prog 151 #[.slice (some ⟨g, 0, none⟩) n c, .int .i64 i, .slice (some ⟨vb, 0, none⟩) 1 vc] w (InsPost w base (.slice (some ⟨g, 0, none⟩) n c) n i xs ys) := by
  obtain ⟨i0, z, q1, q2, q3, q4, q5, q6, q7, q8, q9⟩ := rwk_inv rwk27
  have hz1 : ∀ w, (Go.sizeOf 121).run Tryz.prog w = .ok 8 w := fun w => by simp [sizeOf, typeInfo, q2, q4]
  have t27 := run_underlying q1
  have hov : ∀ lb cb, (callFunc 171 #[.slice (some ⟨vb, 0, none⟩) 1 vc, .slice (some ⟨g, (i + 1) * 8, none⟩) lb cb]).run Tryz.prog w = .ok (.value (.bool false)) w := fun lb cb => by
    rw [run_callFunc_extern Tryz.func171 (by kernel_rfl) (by kernel_rfl) (by kernel_rfl) (e := Extern.SlicesOverlaps.overlaps #[27, 27] #[4]) (by kernel_rfl),
      Lib.run_overlaps_apart w 27 4 121 q1 8 hz1 ⟨vb, 0, none⟩ ⟨g, (i + 1) * 8, none⟩ 1 vc lb cb hvb 121 121 cuy.size cur.size (by simp [World.shape?, hgv]) (by simp [World.shape?, hg]) (by omega) (by simp [World.frozen?, hgv]) (by simp [World.frozen?, hgv])]
    rfl
  have mixed : Tryz.prog.follows .mixedOrders = true := by kernel_rfl
  have hb1 : ¬ ((i : Int) = (n : Int)) := by omega
  have hb2 : (i : Int) ≤ (n : Int) := by omega
  have hxl : xs.length = n * 8 := by rw [← hxs, List.length_take, Array.length_toList]; omega
  have hcl : cur.toList.length = c * 8 := by simpa using hcs
  obtain ⟨L1, hL1⟩ : ∃ L1, L1 = cur.toList.take ((i + 1) * 8) ++ xs.drop (i * 8) ++ cur.toList.drop ((i + 1) * 8 + (xs.drop (i * 8)).length) := ⟨_, rfl⟩
  have hdl : (xs.drop (i * 8)).length = (n - i) * 8 := by rw [List.length_drop]; omega
  have hl1 : L1.length = c * 8 := by rw [hL1, List.length_append, List.length_append, List.length_take, hdl, List.length_drop, hcl]; omega
  have hcp1 : ∀ (W : World) ty dl sl dc sc o1 o2, W.heap[g]? = some (.cells cur 121 (0, 0)) → o1 = (i + 1) * 8 → o2 = i * 8 → dl = n - i → n - i ≤ sl → (Builtin.copy_ #[27, 27] ty #[.slice (some ⟨g, o1, none⟩) dl dc, .slice (some ⟨g, o2, none⟩) sl sc]).run Tryz.prog W = .ok (goInt (Nat.min sl dl)) (W.setRow g L1.toArray) := by
    intro W ty dl sl dc sc o1 o2 hW e1 e2 e3 e4
    subst e1 e2
    rw [hL1]
    have hm : Nat.min sl dl = n - i := by simp only [Nat.min_def]; split <;> omega
    refine run_copyR W 27 27 ty 121 i0 q1 q2 g _ dl dc cur hW ⟨g, i * 8, none⟩ sl sc (xs.drop (i * 8)) (by rw [hm, q4]; exact hdl) (fun j v hj => ?_) (by rw [hdl, hcs]; omega) (fun v hv => h1x v (List.mem_of_mem_drop hv))
    rw [show (⟨g, i * 8, none⟩ : Addr).add j = ⟨g, i * 8 + j, none⟩ by simp [Addr.add], cell_of_row W g (i * 8 + j) cur 121 (0, 0) hW]
    rw [List.getElem?_drop, ← hxs, List.getElem?_take] at hj
    split at hj
    · simpa using hj
    · cases hj
  obtain ⟨L2, hL2⟩ : ∃ L2, L2 = L1.take (i * 8) ++ ys ++ L1.drop (i * 8 + ys.length) := ⟨_, rfl⟩
  have hcp2 : ∀ (W : World) ty dl dc o1, W.heap[g]? = some (.cells L1.toArray 121 (0, 0)) → W.heap[vb]? = w.heap[vb]? → o1 = i * 8 → 1 ≤ dl → (Builtin.copy_ #[27, 27] ty #[.slice (some ⟨g, o1, none⟩) dl dc, .slice (some ⟨vb, 0, none⟩) 1 vc]).run Tryz.prog W = .ok (goInt (Nat.min 1 dl)) (W.setRow g L2.toArray) := by
    rw [hL2]
    intro W ty dl dc o1 hW hV e1 e2
    subst e1
    have hm : Nat.min 1 dl = 1 := by simp only [Nat.min_def]; split <;> omega
    refine run_copyR W 27 27 ty 121 i0 q1 q2 g _ dl dc L1.toArray hW ⟨vb, 0, none⟩ 1 vc ys (by rw [hm, q4, hyl]) (fun j v hj => ?_) (by rw [hyl, List.size_toArray, hl1]; omega) h1
    rw [show (⟨vb, 0, none⟩ : Addr).add j = ⟨vb, j, none⟩ by simp [Addr.add]; omega]
    have := hys j v hj
    unfold World.cell? at this ⊢
    rw [show W.heap[(⟨vb, j, none⟩ : Addr).block]? = w.heap[(⟨vb, j, none⟩ : Addr).block]? from hV]
    exact this
  have hgw : g < w.heap.size := (Array.getElem?_eq_some_iff.1 hg).1
  have fin : ∀ (W1 W2 : World), W1 = w.drew.setRow g L1.toArray → W2 = W1.setRow g L2.toArray → InsPost w base (.slice (some ⟨g, 0, none⟩) n c) n i xs ys (.returned (.slice (some ⟨g, 0, none⟩) (n + 1) c)) W2 := by
    intro W1 W2 hW1 hW2
    have hh1 : W1.heap[g]? = some (.cells L1.toArray 121 (0, 0)) := by rw [hW1]; exact setRow_heap w.drew g cur _ 121 _ hg
    have hh2 : W2.heap[g]? = some (.cells L2.toArray 121 (0, 0)) := by rw [hW2]; exact setRow_heap W1 g _ _ 121 _ hh1
    have hxd : (xs.take (i * 8) ++ ys ++ xs.drop (i * 8)).length = (n + 1) * 8 := by rw [List.length_append, List.length_append, List.length_take, hdl, hyl]; omega
    have e8 : (i + 1) * 8 = i * 8 + ys.length := by omega
    have e0 : L1.take (i * 8) ++ ys ++ L1.drop (i * 8 + ys.length) = xs.take (i * 8) ++ ys ++ xs.drop (i * 8) ++ cur.toList.drop (i * 8 + ys.length + (xs.drop (i * 8)).length) := by
      rw [hL1, e8, ins_list (by omega), ← hxs, List.take_take, show min (i * 8) (n * 8) = i * 8 by omega]
    rw [hL2, e0] at hh2
    refine ⟨_, rfl, ⟨hxd, .inr ⟨g, c, _, rfl, hbg, hh2, hroom, hcm, ?_, ?_⟩⟩, ⟨?_, ?_, ?_, ?_, fun k hk hne => ?_⟩, fun k hk => .inl hk⟩
    · rw [List.size_toArray, List.length_append, hxd, List.length_drop, hcl, hdl, hyl]
      omega
    · exact List.take_left' hxd
    · rw [hW2, hW1]; rfl
    · rw [hW2, hW1]; rfl
    · rw [hW2, hW1]; rfl
    · rw [hW2, hW1]; simp
    · have hk2 : k ≠ g := fun e => hne (by rw [e]; rfl)
      rw [hW2, hW1, setRow_other _ _ _ _ hk2, setRow_other _ _ _ _ hk2]; rfl
  unfold maxLen at hcm
  have hsub : n + 1 - (i + 1) = n - i := by omega
  have hw1 : IntKind.i64.wrap ((i : Int) + 1) = (i : Int) + 1 := w64 (by omega) (by omega)
  have hb3 : (0 : Int) ≤ (i : Int) + 1 := by omega
  have htn : ((i : Int) + 1).toNat = i + 1 := by omega
  have hb4 : ¬ (c = i + 1) := by omega
  have hb5 : ¬ (c = i) := by omega
  have hb6 : (i : Int) ≤ (n : Int) + 1 := by omega
  clear hL2 hL1 hl1 hcl hxl hdl
  go_enter Tryz.func151, Tryz.ntmps151
  go_wp2_with (simp only [hov])
  go_region_law_o (refine step_copyR rfl _ _ 27 27 rfl _ _ (by simp [Act.eval, Act.put]) (by simp [Act.eval, Act.put]) (hcp1 w.drew 3 (n - i) (n + 1 - i) (c - (i + 1)) (c - i) ((i + 1) * 8) (i * 8) hg rfl rfl rfl (by omega)) ?_)
  go_wp2
  rw [hcp2 (w.drew.setRow g L1.toArray) 3 (n + 1 - i) (c - i) (i * 8) (setRow_heap w.drew g cur _ 121 _ hg) (setRow_other _ _ _ _ hvb) rfl (by omega)]
  simp only [Result.andThen]
  rw [Oper.upon_value]
  go_wp2
  go_ret
  all_goals exact fin _ _ rfl rfl
set_option maxHeartbeats 4000000 in
set_option maxRecDepth 100000 in
/-- Ahead of the end, there is no room: a new row. -/
theorem ins_grow (g i c : Nat) (cur : Array Value) (hg : w.heap[g]? = some (.cells cur 121 (0, 0))) (hcs : cur.size = c * 8) (hxs : cur.toList.take (n * 8) = xs) (hi : i < n) (hnc : n ≤ c) (hroom : c < n + 1) (vb vc : Nat) (cuy : Array Value) (hgv : w.heap[vb]? = some (.cells cuy 121 (0, 0))) (hyl : ys.length = 8) (hys : ∀ j u, ys[j]? = some u → w.cell? ⟨vb, j, none⟩ = some u) (h1x : ∀ u ∈ xs, u.oneCell' = true) (h1 : ∀ u ∈ ys, u.oneCell' = true) (hn : n ≤ 1048576) (hbase : base ≤ w.heap.size) :
    Calls Tryz.prog 151 #[.slice (some ⟨g, 0, none⟩) n c, .int .i64 i, .slice (some ⟨vb, 0, none⟩) 1 vc] w (InsPost w base (.slice (some ⟨g, 0, none⟩) n c) n i xs ys) := by
  obtain ⟨i0, z, q1, q2, q3, q4, q5, q6, q7, q8, q9⟩ := rwk_inv rwk27
  have hz1 : ∀ w, (Go.sizeOf 121).run Tryz.prog w = .ok 8 w := fun w => by simp [sizeOf, typeInfo, q2, q4]
  have t27 := run_underlying q1
  have mixed : Tryz.prog.follows .mixedOrders = true := by kernel_rfl
  have hb1 : ¬ ((i : Int) = (n : Int)) := by omega
  have hb2 : (i : Int) ≤ (n : Int) := by omega
  have hxl : xs.length = n * 8 := by rw [← hxs, List.length_take, Array.length_toList]; omega
  have hcl : cur.toList.length = c * 8 := by simpa using hcs
  have hgw : g < w.heap.size := (Array.getElem?_eq_some_iff.1 hg).1
  have hvw : vb < w.heap.size := (Array.getElem?_eq_some_iff.1 hgv).1
  have hkk : (n : Int) + 1 - (i : Int) = ((n + 1 - i : Nat) : Int) := by omega
  have hik : i + (n + 1 - i) = n + 1 := by omega
  have hdl : (xs.drop (i * 8)).length = (n - i) * 8 := by rw [List.length_drop]; omega
  have htl : (xs.take (i * 8)).length = i * 8 := by rw [List.length_take]; omega
  have hsrc : ∀ (W : World), W.heap[g]? = w.heap[g]? → ∀ (q : Nat) j u, (xs.drop q)[j]? = some u → W.cell? ⟨g, q + j, none⟩ = some u := fun W hW q j u hj => by
    rw [cell_of_row W g (q + j) cur 121 (0, 0) (by rw [hW]; exact hg)]
    rw [List.getElem?_drop, ← hxs, List.getElem?_take] at hj
    split at hj
    · simpa using hj
    · cases hj
  have hold : (Builtin.firstCells i0.size i (.slice (some ⟨g, 0, none⟩) i c)).run Tryz.prog w.drew = .ok (xs.take (i * 8)).toArray w.drew := by
    rw [q4]
    exact run_firstCells_some w.drew 8 i ⟨g, 0, none⟩ i c (xs.take (i * 8)) (by rw [htl]) (fun j u hj => by
      rw [List.getElem?_take] at hj
      split at hj
      · have := hsrc w.drew rfl 0 j u (by simpa using hj)
        rw [show (⟨g, 0, none⟩ : Addr).add j = ⟨g, 0 + j, none⟩ by simp [Addr.add]; omega]
        exact this
      · cases hj)
  obtain ⟨G, hG⟩ : ∃ G, G = grownCap w (n + 1) c 121 := ⟨_, rfl⟩
  obtain ⟨ROW, hROW⟩ : ∃ ROW : Array Value, ROW = (xs.take (i * 8)).toArray ++ Builtin.zeroCells z.cells (n + 1 - i) ++ Builtin.zeroCells z.cells (G - (n + 1)) := ⟨_, rfl⟩
  have hrz : ∀ ty (k : Int), k = ((n + 1 - i : Nat) : Int) → (Builtin.append_ #[27, 3] ty #[.slice (some ⟨g, 0, none⟩) i c, .int .i64 k]).run Tryz.prog w = .ok (.slice (some ⟨w.heap.size, 0, none⟩) (n + 1) G) (w.drew.alloc (.cells ROW 121)) := fun ty k hk => by
    have h := Lib.run_append_grow_zeros w 27 3 ty 121 i0 _ .i64 .i64 q1 Tryz.underlying3 q2 q3 (some ⟨g, 0, none⟩) i c (xs.take (i * 8)) hold (n + 1 - i) (by omega) (by omega) (by omega) (by omega) (by rw [q5]; omega) (by rw [q5, hik]; exact growslice_fits hroom (by omega))
    rw [hik, ← hG, ← hROW, ← hk] at h
    exact h
  have hGn : n + 1 ≤ G := by rw [hG]; exact grownCap_ge w _ _ _
  have hGm : G ≤ maxLen := by rw [hG]; exact grownCap_le_maxLen w (n + 1) c 121 (by unfold maxLen; omega)
  have hRs : ROW.size = G * 8 := by
    rw [hROW, Array.size_append, Array.size_append, size_zeroCells, size_zeroCells, q6, List.size_toArray, htl]
    omega
  have hRt : ROW.toList.take (i * 8) = xs.take (i * 8) := by
    rw [hROW, Array.toList_append, Array.toList_append, List.append_assoc]
    exact List.take_left' htl
  obtain ⟨L1, hL1⟩ : ∃ L1, L1 = ROW.toList.take (i * 8) ++ ys ++ ROW.toList.drop (i * 8 + ys.length) := ⟨_, rfl⟩
  have hRl : ROW.toList.length = G * 8 := by simpa using hRs
  have hl1 : L1.length = G * 8 := by rw [hL1, List.length_append, List.length_append, List.length_take, List.length_drop, hyl, hRl]; omega
  obtain ⟨N, hN⟩ : ∃ N, N = w.heap.size := ⟨_, rfl⟩
  rw [← hN] at hrz
  have hcp1 : ∀ (W : World) ty dl dc o1, W.heap[N]? = some (.cells ROW 121 (0, 0)) → W.heap[vb]? = w.heap[vb]? → o1 = i * 8 → 1 ≤ dl → (Builtin.copy_ #[27, 27] ty #[.slice (some ⟨N, o1, none⟩) dl dc, .slice (some ⟨vb, 0, none⟩) 1 vc]).run Tryz.prog W = .ok (goInt (Nat.min 1 dl)) (W.setRow N L1.toArray) := by
    intro W ty dl dc o1 hW hV e1 e2
    subst e1
    rw [hL1]
    have hm : Nat.min 1 dl = 1 := by simp only [Nat.min_def]; split <;> omega
    refine run_copyR W 27 27 ty 121 i0 q1 q2 N _ dl dc ROW hW ⟨vb, 0, none⟩ 1 vc ys (by rw [hm, q4, hyl]) (fun j v hj => ?_) (by rw [hyl, hRs]; omega) h1
    rw [show (⟨vb, 0, none⟩ : Addr).add j = ⟨vb, j, none⟩ by simp [Addr.add]; omega]
    have := hys j v hj
    unfold World.cell? at this ⊢
    rw [show W.heap[(⟨vb, j, none⟩ : Addr).block]? = w.heap[(⟨vb, j, none⟩ : Addr).block]? from hV]
    exact this
  obtain ⟨L2, hL2⟩ : ∃ L2, L2 = L1.take ((i + 1) * 8) ++ xs.drop (i * 8) ++ L1.drop ((i + 1) * 8 + (xs.drop (i * 8)).length) := ⟨_, rfl⟩
  have hcp2 : ∀ (W : World) ty dl sl dc sc o1 o2, W.heap[N]? = some (.cells L1.toArray 121 (0, 0)) → W.heap[g]? = w.heap[g]? → o1 = (i + 1) * 8 → o2 = i * 8 → dl = n - i → sl = n - i → (Builtin.copy_ #[27, 27] ty #[.slice (some ⟨N, o1, none⟩) dl dc, .slice (some ⟨g, o2, none⟩) sl sc]).run Tryz.prog W = .ok (goInt (Nat.min sl dl)) (W.setRow N L2.toArray) := by
    rw [hL2]
    intro W ty dl sl dc sc o1 o2 hW hV e1 e2 e3 e4
    subst e1 e2 e3 e4
    have hm : Nat.min (n - i) (n - i) = n - i := Nat.min_self _
    refine run_copyR W 27 27 ty 121 i0 q1 q2 N _ _ dc L1.toArray hW ⟨g, i * 8, none⟩ _ sc (xs.drop (i * 8)) (by rw [hm, q4]; exact hdl) (fun j v hj => ?_) (by rw [hdl, List.size_toArray, hl1]; omega) (fun v hv => h1x v (List.mem_of_mem_drop hv))
    rw [show (⟨g, i * 8, none⟩ : Addr).add j = ⟨g, i * 8 + j, none⟩ by simp [Addr.add]]
    exact hsrc W hV _ j v hj
  have fin : ∀ (W0 W1 W2 : World), W0.heap = (w.alloc (.cells ROW 121)).heap → W0.os = w.os → W0.tape = w.tape → W0.output = w.output → W1 = W0.setRow N L1.toArray → W2.heap = (W1.setRow N L2.toArray).heap → W2.os = w.os → W2.tape = w.tape → W2.output = w.output →
      InsPost w base (.slice (some ⟨g, 0, none⟩) n c) n i xs ys (.returned (.slice (some ⟨N, 0, none⟩) (n + 1) G)) W2 := by
    intro W0 W1 W2 hW0 _ _ _ hW1 hW2 hos htp hop
    have hh0 : W0.heap[N]? = some (.cells ROW 121 (0, 0)) := by rw [hW0, hN]; exact heap_alloc_new w _
    have hh1 : W1.heap[N]? = some (.cells L1.toArray 121 (0, 0)) := by rw [hW1]; exact setRow_heap W0 N _ _ 121 _ hh0
    have hh2 : W2.heap[N]? = some (.cells L2.toArray 121 (0, 0)) := by rw [hW2]; exact setRow_heap W1 N _ _ 121 _ hh1
    have hxd : (xs.take (i * 8) ++ ys ++ xs.drop (i * 8)).length = (n + 1) * 8 := by rw [List.length_append, List.length_append, htl, hdl, hyl]; omega
    have e8 : (i + 1) * 8 = i * 8 + ys.length := by omega
    have e0 : L1.take ((i + 1) * 8) = xs.take (i * 8) ++ ys := by
      rw [hL1, hRt]
      exact List.take_left' (by rw [List.length_append, htl, e8])
    rw [hL2, e0] at hh2
    have hsz : W2.heap.size = w.heap.size + 1 := by rw [hW2, hW1]; simp [World.setRow, hW0]
    refine ⟨_, rfl, ⟨hxd, .inr ⟨N, G, _, rfl, by omega, hh2, hGn, hGm, ?_, ?_⟩⟩, ⟨hos, htp, hop, by omega, fun k hk hne => ?_⟩, fun k hk => .inr ?_⟩
    · rw [List.size_toArray, List.length_append, hxd, List.length_drop, hl1, hdl]
      omega
    · exact List.take_left' hxd
    · have hk2 : k ≠ N := by omega
      rw [hW2, setRow_other _ _ _ _ hk2, hW1, setRow_other _ _ _ _ hk2, hW0]
      exact heap_alloc_old w _ hk
    · simp [blockOf] at hk
      omega
  unfold maxLen at hGm
  have hsub : n + 1 - (i + 1) = n - i := by omega
  have hw1 : IntKind.i64.wrap ((i : Int) + 1) = (i : Int) + 1 := w64 (by omega) (by omega)
  have hw2 : IntKind.i64.wrap ((n : Int) + 1) = (n : Int) + 1 := w64 (by omega) (by omega)
  have hw3 : IntKind.i64.wrap ((n : Int) + 1 - (i : Int)) = (n : Int) + 1 - (i : Int) := w64 (by omega) (by omega)
  have hb3 : (0 : Int) ≤ (i : Int) + 1 := by omega
  have htn : ((i : Int) + 1).toNat = i + 1 := by omega
  have hb4 : ¬ (G = i + 1) := by omega
  have hb5 : ¬ (G = i) := by omega
  have hb7 : ¬ (c = i) := by omega
  have hb6 : (i : Int) ≤ (n : Int) + 1 := by omega
  have hb8 : (c : Int) < (n : Int) + 1 := by omega
  have hr1 := hrz 27 ((n : Int) + 1 - (i : Int)) hkk
  subst hN
  have hx1 : ((w.alloc (.cells ROW 121)).drew.setRow w.heap.size L1.toArray).drew.heap[w.heap.size]? = some (.cells L1.toArray 121 (0, 0)) := setRow_heap (w.alloc (.cells ROW 121)) _ _ _ 121 _ (heap_alloc_new w _)
  have hx2 : ((w.alloc (.cells ROW 121)).drew.setRow w.heap.size L1.toArray).drew.heap[g]? = w.heap[g]? := (setRow_other (w.alloc (.cells ROW 121)) _ _ _ (Nat.ne_of_lt hgw)).trans (heap_alloc_old w _ hgw)
  clear hL2 hL1 hl1 hcl hxl hdl hROW hG hold hRl hRt hRs hkk hrz hik
  go_enter Tryz.func151, Tryz.ntmps151
  go_wp2_with (at_builtin; refine Lib.wpList_append_run _ rfl _ _ _ _ rfl _ _ rfl rfl _ _ hr1 ?_)
  rw [hcp1 ((w.alloc (.cells ROW 121)).drew) 3 (n + 1 - i) (G - i) (i * 8) (heap_alloc_new w _) (heap_alloc_old w _ hvw) rfl (by omega)]
  simp only [Result.andThen]
  rw [Oper.upon_value]
  go_wp2
  go_region_law_o (refine step_copyR rfl _ _ 27 27 rfl _ _ (by simp [Act.eval, Act.put]) (by simp [Act.eval, Act.put]) (hcp2 ((w.alloc (.cells ROW 121)).drew.setRow w.heap.size L1.toArray).drew 3 (n - i) (n - i) (G - (i + 1)) (c - i) ((i + 1) * 8) (i * 8) hx1 hx2 rfl rfl rfl rfl) ?_)
  go_wp2
  go_ret
  exact fin _ _ _ rfl rfl rfl rfl rfl rfl rfl rfl rfl
end
section
variable {w : World} {Fx : Nat → Prop} {β : List Hd} {G : List (Option Nat)}
theorem CellsD.reix {pv : Nat → Prop} {hb : Option Nat} {sz : Nat} {es es' : List (List AV)} {xs xs' : List Value} (h : CellsD w Fx β G pv hb sz es xs) (p : Nat → Nat) (hl : xs'.length = es'.length * sz) (hinj : ∀ i j, i < es'.length → j < es'.length → p i = p j → i = j)
    (he : ∀ i, i < es'.length → es'[i]? = es[p i]?) (hx : ∀ i j, i < es'.length → j < sz → xs'[i * sz + j]? = xs[p i * sz + j]?) : CellsD w Fx β G pv hb sz es' xs' := by
  obtain ⟨h1, h2, pc, h3, h4, h5⟩ := h
  have lt : ∀ {i : Nat} {r : List AV}, es'[i]? = some r → i < es'.length := fun h => (List.getElem?_eq_some_iff.1 h).1
  have wd : ∀ {i j : Nat} {r : List AV} {x : AV}, es'[i]? = some r → r[j]? = some x → j < sz := fun {i j r x} hr hj => by
    have := (h2 _ r ((he i (lt hr)).symm.trans hr)).1
    rw [← this]
    exact (List.getElem?_eq_some_iff.1 hj).1
  refine ⟨hl, fun i r hr => ⟨(h2 _ r ((he i (lt hr)).symm.trans hr)).1, fun j x hj => ?_⟩, fun i j q => i < es'.length ∧ pc (p i) j q, fun i j q hp => h3 _ j q hp.2, fun i j i' j' q hp hq => ?_, fun i r j d hr hj => ?_⟩
  · obtain ⟨u, hu, ho, hR⟩ := (h2 _ r ((he i (lt hr)).symm.trans hr)).2 j x hj
    exact ⟨u, (hx i j (lt hr) (wd hr hj)).trans hu, ho, hR⟩
  · have := h4 _ _ _ _ q hp.2 hq.2
    exact ⟨hinj i i' hp.1 hq.1 this.1, this.2⟩
  · obtain ⟨u, hu, hR⟩ := h5 _ r j d ((he i (lt hr)).symm.trans hr) hj
    exact ⟨u, (hx i j (lt hr) (wd hr hj)).trans hu, hR.mono fun q hq => ⟨lt hr, hq⟩⟩
theorem CellsD.ins {pv pv2 : Nat → Prop} {hb hb2 : Option Nat} {es : List (List AV)} {e : List AV} {xs ys : List Value} {k : Nat} (hk : k ≤ es.length) (h : CellsD w Fx β G pv hb 8 es xs) (h2 : CellsD w Fx β G pv2 hb2 8 [e] ys) (hd : ∀ q, pv2 q → ¬ pv q ∧ hb ≠ some q) :
    CellsD w Fx β G (fun q => pv q ∨ pv2 q) hb 8 (es.take k ++ [e] ++ es.drop k) (xs.take (k * 8) ++ ys ++ xs.drop (k * 8)) := by
  have hxl := h.len
  have hyl : ys.length = 8 := by simpa using h2.len
  have hL : (es.take k ++ [e] ++ es.drop k).length = es.length + 1 := by simp; omega
  have ht : (xs.take (k * 8)).length = k * 8 := by rw [List.length_take]; omega
  have ht2 : (es.take k).length = k := by rw [List.length_take]; omega
  refine (h.append2 h2 hd).reix (fun i => if i < k then i else if i = k then es.length else i - 1) ?_ (fun i j hi hj e => ?_) (fun i hi => ?_) (fun i j hi hj => ?_)
  · rw [hL, List.length_append, List.length_append, ht, List.length_drop, hyl]; omega
  · rw [hL] at hi hj
    try dsimp only at e
    split at e <;> split at e <;> (try split at e) <;> (try split at e) <;> omega
  · rw [hL] at hi
    try dsimp only
    split
    · rw [List.append_assoc, List.getElem?_append_left (by omega), List.getElem?_take, if_pos (by assumption), List.getElem?_append_left (by omega)]
    · split
      · subst i
        rw [List.append_assoc, List.getElem?_append_right (by omega), ht2, Nat.sub_self, List.getElem?_append_right (Nat.le_refl _), Nat.sub_self]
        rfl
      · rw [List.getElem?_append_right (by simp; omega), List.getElem?_drop, List.getElem?_append_left (by omega)]
        congr 1
        simp
        omega
  · rw [hL] at hi
    try dsimp only
    split
    · rw [List.append_assoc, List.getElem?_append_left (by omega), List.getElem?_take, if_pos (by omega), List.getElem?_append_left (by omega)]
    · split
      · subst i
        rw [List.append_assoc, List.getElem?_append_right (by omega), ht, List.getElem?_append_left (by omega), List.getElem?_append_right (by omega)]
        congr 1
        omega
      · rw [List.getElem?_append_right (by rw [List.length_append, ht, hyl]; omega), List.getElem?_drop, List.getElem?_append_left (by omega)]
        congr 1
        rw [List.length_append, ht, hyl]
        omega
end
section
variable {E : Env} {tm : List AV} {M : Mem} {o : Oper}
theorem ins_calls {w : World} {base n i : Nat} {v u : Value} {xs ys : List Value} (hown : w.ownsRow base 121 8 v n xs) (hu : w.ownsRow base 121 8 u 1 ys) (hne : ∀ k, blockOf v = some k → blockOf u ≠ some k) (hi : i ≤ n) (hn : n ≤ 1048576) (hbase : base ≤ w.heap.size) (h1x : ∀ u ∈ xs, u.oneCell' = true) (h1 : ∀ u ∈ ys, u.oneCell' = true) :
    Calls Tryz.prog 151 #[v, .int .i64 i, u] w (InsPost w base v n i xs ys) := by
  have hyl : ys.length = 8 := by simpa using hu.1
  rcases hu.2 with ⟨_, h0⟩ | ⟨vb, vc, cuy, rfl, hb1, hgv, hb2, hb3, hb4, hb5⟩
  · omega
  have hys : ∀ j u, ys[j]? = some u → w.cell? ⟨vb, j, none⟩ = some u := fun j u hj => by
    have := hu.cells (g := vb) rfl j u hj
    rwa [show (⟨vb, 0, none⟩ : Addr).add j = ⟨vb, j, none⟩ by simp [Addr.add]; omega] at this
  by_cases hin : i = n
  · subst hin
    exact ins_end v hown vb vc hyl hys h1 hn hbase
  · rcases hown.2 with ⟨_, h0⟩ | ⟨g, c, cur, rfl, hbg, hg, hnc, hcm, hcs, hxs⟩
    · omega
    · have hvb : vb ≠ g := fun e => hne g rfl (by rw [e]; rfl)
      by_cases hr : n + 1 ≤ c
      · exact ins_room g i c cur hg hcs hxs hbg (by omega) hr hcm vb vc hvb cuy hgv hyl hys h1x h1 hn
      · exact ins_grow g i c cur hg hcs hxs (by omega) hnc (by omega) vb vc cuy hgv hyl hys h1x h1 hn hbase
/-- slices.Insert of one entry, which is given up: its trees go with it. -/
theorem POp.ins {s x y : Operand} {tys : Array TypeId} {id g id2 g2 k : Nat} {b b2 : Blk} {e : List AV} {b' : Mem} (ho : o.op = .call { callee := .value (.func 151), args := #[s, y, x], argTypes := tys } := by rfl) (hs : evA tm s = some (.own id g) := by rfl) (hM : M[id]? = some (some b) := by rfl) (hg : b.gen = g := by rfl) (hb : b.box = false := by rfl) (hty : b.ty = 121 := by rfl) (hbs : b.sz = 8 := by rfl)
    (hx : evA tm x = some (.own id2 g2) := by rfl) (hM2 : M[id2]? = some (some b2) := by rfl) (hg2 : b2.gen = g2 := by rfl) (hb2 : b2.box = false := by rfl) (hty2 : b2.ty = 121 := by rfl) (hbs2 : b2.sz = 8 := by rfl) (he2 : b2.es = [e] := by rfl) (hne : Nat.beq id id2 = false := by rfl) (hy : sc tm y = some (.int .i64 (k : Int)) := by rfl)
    (hk : k ≤ b.es.length := by assumption) (hn : b.es.length ≤ 1048576 := by assumption) (em : (M.set id2 none).set id (some { b with es := b.es.take k ++ [e] ++ b.es.drop k, gen := b.gen + 1 }) = b' := by rfl) : POp Tryz.prog o E tm M (.own id (g + 1)) b' := by
  subst em
  have hne : id ≠ id2 := Nat.ne_of_beq_eq_false hne
  intro a w K Q Fx β hh hsl hkk
  have hrs := hsl.ev hs
  generalize hv0 : a.eval s = v at hrs
  obtain ⟨hd, hvv, hdv⟩ : ∃ hd, β[id]? = some hd ∧ hd.v = v := by
    cases hrs with
    | own _ _ _ h => exact h (by rw [← hg]; exact gens_of hM)
  have hrx := hsl.ev hx
  generalize hu0 : a.eval x = u at hrx
  obtain ⟨hd2, hvv2, hdv2⟩ : ∃ hd, β[id2]? = some hd ∧ hd.v = u := by
    cases hrx with
    | own _ _ _ h => exact h (by rw [← hg2]; exact gens_of hM2)
  obtain ⟨hh2, m2, own2⟩ := hh.give hM hM2 hne hvv hvv2
  obtain ⟨v2, hv2, hok⟩ := hh.blk id b hM
  rw [hvv] at hv2
  obtain rfl := Option.some.inj hv2
  obtain ⟨v2, hv2, hokx⟩ := hh.blk id2 b2 hM2
  rw [hvv2] at hv2
  obtain rfl := Option.some.inj hv2
  obtain ⟨hok1, hok2⟩ := hok
  obtain ⟨hokx1, hokx2⟩ := hokx
  rw [hb] at hok2
  rw [hb2] at hokx2
  obtain ⟨xs, hown, hc⟩ := hok2
  obtain ⟨ys, hownx, hcx⟩ := hokx2
  rw [hty, hbs] at hown
  rw [hbs] at hc
  rw [hty2, hbs2, he2] at hownx
  rw [hbs2, he2] at hcx
  rw [← hdv] at hv0
  rw [← hdv2] at hu0
  clear hrs hdv v hrx hdv2 u
  obtain ⟨v, pv⟩ := hd
  obtain ⟨u, pv2⟩ := hd2
  dsimp only at hv0 hu0 hown hc hownx hcx hh2 m2 own2
  have hc2 := CellsD.ins hk (hc.mv m2 (fun _ _ _ => rfl)) (hcx.mv m2 (fun _ _ _ => rfl)) (fun q hq => ⟨fun hp => hh.inj id id2 _ _ _ _ q hne hM hM2 hvv hvv2 (.inr hp) (.inr hq), fun hp => hh.inj id id2 _ _ _ _ q hne hM hM2 hvv hvv2 (.inl hp) (.inr hq)⟩)
  have one : ∀ {es : List (List AV)} {zs : List Value} {pv : Nat → Prop} {hb : Option Nat}, CellsD w Fx β (gens M) pv hb 8 es zs → ∀ v ∈ zs, v.oneCell' = true := fun {es zs pv hb} hcx v hv => by
    obtain ⟨q, hq⟩ := List.getElem?_of_mem hv
    have hlt : q < _ := (List.getElem?_eq_some_iff.1 hq).1
    rw [hcx.len] at hlt
    have hi' : q / 8 < es.length := by omega
    have hrl := (hcx.cel (q / 8) _ (List.getElem?_eq_getElem hi')).1
    have hj : q % 8 < (es[q / 8]).length := by rw [hrl]; omega
    obtain ⟨v2, hv2, h1, _⟩ := (hcx.cel (q / 8) _ (List.getElem?_eq_getElem hi')).2 (q % 8) _ (List.getElem?_eq_getElem hj)
    rw [Nat.div_add_mod'] at hv2
    rw [hq] at hv2
    obtain rfl := Option.some.inj hv2
    exact h1
  have hidl : id < M.length := (List.getElem?_eq_some_iff.1 hM).1
  have hM' : (M.set id2 none)[id]? = some (some b) := by rw [List.getElem?_set, if_neg (Ne.symm hne)]; exact hM
  have hv' : (β.set id ⟨v, fun q => pv q ∨ pv2 q⟩)[id]? = some ⟨v, fun q => pv q ∨ pv2 q⟩ := by rw [List.getElem?_set, if_pos rfl, if_pos (by rw [hh.len]; exact hidl)]
  have hl : (b.es.take k ++ [e] ++ b.es.drop k).length = b.es.length + 1 := by simp; omega
  have hy0 : a.eval y = .int .i64 (k : Int) := hsl.sc hy
  unfold Oper.wp
  rw [run_call ho Tryz.func151 rfl rfl, Oper.upon_enter]
  have ea : (#[s, y, x] : Array Operand).map a.eval = #[v, .int .i64 k, u] := by simp [hv0, hu0, hy0]
  rw [ea]
  refine (ins_calls hown hownx (fun q h1 h2 => hh.inj id id2 _ _ _ _ q hne hM hM2 hvv hvv2 (.inl h1) (.inl h2)) hk hn hh.bs (one hc) (one hcx)).mono ?_
  rintro e' w' ⟨v', rfl, ho', hgr, hfr⟩
  obtain ⟨hh', hx'⟩ := hh2.regrow hM' hb hv' hgr (es := b.es.take k ++ [e] ++ b.es.drop k) (by rw [hl, hty, hbs]; exact ho') hfr (by rw [hbs]; exact hc2)
  have hl2 : id < (M.set id2 none).length := by simpa using hidl
  refine hkk _ _ _ _ hh' ⟨m2.trans hx'.mv, hx'.size, fun q hF => ?_, fun i b1 v1 q g1 g2 g3 => ?_⟩ (.own ?_ (by simp [gens, hidl]) (fun g1 hg1 => ?_) (fun _ => ?_))
  · rcases hx'.lim q hF with h | h | ⟨i, b1, v1, g1, g2, g3⟩
    · exact .inl h
    · exact .inr (.inl h)
    · obtain ⟨i', b', v', k1, k2, k3⟩ := own2 i b1 v1 q g1 g2 g3
      exact .inr (.inr ⟨i', b', v', k1, k2, k3⟩)
  · rcases hx'.own i b1 v1 q g1 g2 g3 with h | ⟨i', b', v', k1, k2, k3⟩
    · exact .inl h
    · exact .inr (own2 i' b' v' q k1 k2 k3)
  · rcases ho'.2 with ⟨rfl, _⟩ | ⟨g', cap, cur, rfl, _⟩ <;> rfl
  · have := gens_of (M := (M.set id2 none).set id (some { b with es := b.es.take k ++ [e] ++ b.es.drop k, gen := b.gen + 1 })) (id := id) (b := { b with es := b.es.take k ++ [e] ++ b.es.drop k, gen := b.gen + 1 }) (by rw [List.getElem?_set, if_pos rfl, if_pos hl2])
    rw [this] at hg1
    simp at hg1
    omega
  · exact ⟨_, by rw [List.getElem?_set, if_pos rfl, if_pos (by rw [hh2.len]; exact hl2)], rfl⟩
end

end Go.Proofs.YtacbpfbelcdeiaaGreat.Abs

/- The walk of the program's TakeEntry. -/
namespace Go.Proofs.YtacbpfbelcdeiaaGreat.Abs
open Go.Proofs Go.RowKit
set_option linter.unusedVariables false
set_option linter.unusedSimpArgs false
set_option maxRecDepth 100000
set_option maxHeartbeats 2000000
attribute [local irreducible] OpA AL AW DL DLM DLR DLS QOp POp VCalls VCallsI
theorem AW.row1 {P : Program} {E : Env} {tm : List AV} {c : Code} {Qx : XPost} {b0 : Option Blk} {A X : List (List AV)} {ty : TypeId} {sz g : Nat} {bx : Bool} {Mr : Mem} (hx : A = X) (h : AW P c E tm (b0 :: some ⟨ty, sz, g, bx, X⟩ :: Mr) Qx) : AW P c E tm (b0 :: some ⟨ty, sz, g, bx, A⟩ :: Mr) Qx := by
  subst hx
  exact h
theorem fitsM_dcl {n : Nat} {b : Blk} {M : Mem} (h : DCl b.es) (hm : FitsM n M) : FitsM n (some b :: M) := fun b' hb r hr x hx => by
  rcases List.mem_cons.1 hb with e | e
  · exact fits_dcl (n := n) h b' (by rw [e]; exact List.mem_singleton_self _) r hr x hx
  · exact hm b' e r hr x hx
theorem set_app {l : List TEntry} {K : Nat} {y : TEntry} (h : K < l.length) : (l.map TEntry.ed).set K y.ed = (l.take K ++ [y] ++ l.drop (K + 1)).map TEntry.ed := by
  rw [List.set_eq_take_append_cons_drop, if_pos (by rw [List.length_map]; exact h), List.map_append, List.map_append, List.map_take, List.map_drop, List.append_assoc]
  rfl
theorem ins_app {l : List TEntry} {K : Nat} {y : TEntry} : (l.map TEntry.ed).take K ++ [y.ed] ++ (l.map TEntry.ed).drop K = (l.take K ++ [y] ++ l.drop K).map TEntry.ed := by
  rw [List.map_append, List.map_append, List.map_take, List.map_drop]
  rfl
theorem take_i0 (l : List TEntry) (y : TEntry) (hl : l.length ≤ 1048576) (hp : ∀ x ∈ l, x.feature.gd) (hy : y.feature.gd) (hL : isLog l = false) : VCalls Tryz.prog 124 [.ro 8 (l.map TEntry.en), .agg y.en] (fun r M => r = .own 0 0 ∧ M = [some ⟨121, 8, 0, false, (takeE l y).map TEntry.ed⟩]) := by
  refine VCalls.body Tryz.func124 rfl 72 rfl (fun E => ?_)
  simp only [List.reduceReplicate, List.cons_append, List.nil_append]
  have hclo : Clo (.ro 8 (l.map TEntry.en)) := clo_list TEntry.clo_en
  have hclY : Clo (.agg y.en) := Clo.agg y.clo_en
  have hclP : Clo (.ro 2 (y.feature.points.map TPoint.en)) := clo_list TPoint.clo_en
  have hys := hy.1
  have hsm : ∀ x ∈ l, x.feature.sm := fun x hx => (hp x hx).1
  dsimp only [TEntry.en]
  repeat' ((first
    | ((with_reducible show AL ..); first | refine AL.any ?_ | refine AL.any (h := POp.k Tryz.func89 (hc := isLog_i l (by assumption) (by assumption))) ?_ | refine AL.any (h := POp.D Tryz.func89 (hc := isLog_i (newL l y) hnl (newL_all hp hy)) (hvw := vwlF)) ?_ | refine AL.any (h := POp.O Tryz.func115 (hc := cpL_i l (by assumption) (by assumption))) ?_ | refine AL.any (h := POp.O Tryz.func122 (hc := cloneF y.feature (by assumption))) ?_ | refine AL.any (h := POp.D Tryz.func150 (hc := newer_i y x)) ?_ | refine AL.U ?_ | refine AL.F ?_ | refine AL.T ?_ | refine AL.W ?_ | refine AL.nil ?_)
    | ((with_reducible show DL ..); first | refine DL.any ?_ | refine DL.U ?_ | refine DL.F ?_ | refine DL.T ?_ | refine DL.W ?_ | refine DL.nil ?_)
    | ((with_reducible show AW ..); first | refine AW.seq ?_ | refine AW.region ?_ | refine AW.skip ?_ | refine AW.dr (id := 5) 14 ?_ | refine AW.dr (id := 8) 14 ?_ | refine AW.dr (id := 9) 5 ?_ | refine AW.cT ?_ | refine AW.cF ?_ | (refine AW.c2 ?_ ?_ <;> (intro h; try simp only [bT, bF] at h)) | refine AW.block ?_ | refine AW.exit ?_ | refine AW.ret ?_)
    | with_reducible refine ifP ?_
    | with_reducible refine ifN ?_) <;> (try dsimp only))
  all_goals (rw [takeE_1 hL]; exact Fin.r1 [1] rfl (RV.tmp (by rfl)) ⟨rfl, rfl⟩)

theorem take_i1 (l : List TEntry) (y : TEntry) (hl : l.length ≤ 1048576) (hp : ∀ x ∈ l, x.feature.gd) (hy : y.feature.gd) (hL : isLog l = true) (hnl : (newL l y).length ≤ 1048576) : VCalls Tryz.prog 124 [.ro 8 (l.map TEntry.en), .agg y.en] (fun r M => r = .own 0 0 ∧ M = [some ⟨121, 8, 0, false, (takeE l y).map TEntry.ed⟩]) := by
  refine VCalls.bodyE Tryz.func124 rfl 72 rfl (fun E hE => ?_)
  simp only [List.reduceReplicate, List.cons_append, List.nil_append]
  have hclo : Clo (.ro 8 (l.map TEntry.en)) := clo_list TEntry.clo_en
  have hclY : Clo (.agg y.en) := Clo.agg y.clo_en
  have hclP : Clo (.ro 2 (y.feature.points.map TPoint.en)) := clo_list TPoint.clo_en
  have hys := hy.1
  have hsm : ∀ x ∈ l, x.feature.sm := fun x hx => (hp x hx).1
  dsimp only [TEntry.en]
  repeat' ((first
    | ((with_reducible show AL ..); first | refine AL.any (h := POp.gh (POp.literal (by rfl) rwk27 (by rfl) (by rfl) (by rfl) (by rfl) (by rfl) (by rfl)) (Gh.absorbA (q := 3) (A := []) (id := 2) (j := 4) rfl rfl rfl rfl rfl rfl (DCl.map (fun _ => rfl)) TPoint.und)) ?_ | refine AL.any (h := POp.gh (POp.sto (by rfl) (by rfl) (by rfl) (by rfl) (by rfl) hgd (by rfl) (by rfl) (TT_ok.ld _ _ (by rfl)) (by rfl) (Nat.le_of_ble_eq_true (by rfl)) (by rfl)) (Gh.absorbS (q := 1) (id := 2) (j := 4) rfl hKn rfl rfl rfl rfl rfl (DCl.map (fun _ => rfl)) TPoint.und)) ?_ | refine AL.any (h := POp.ins (k := K)) ?_ | refine AL.any ?_ | refine AL.any (h := POp.k Tryz.func89 (hc := isLog_i l (by assumption) (by assumption))) ?_ | refine AL.any (h := POp.D Tryz.func89 (hc := isLog_i (newL l y) hnl (newL_all hp hy)) (hvw := vwlF)) ?_ | refine AL.any (h := POp.O Tryz.func115 (hc := cpL_i l (by assumption) (by assumption))) ?_ | refine AL.any (h := POp.O Tryz.func122 (hc := cloneF y.feature (by assumption))) ?_ | refine AL.any (h := POp.D Tryz.func150 (hc := newer_i y x)) ?_ | refine AL.U ?_ | refine AL.F ?_ | refine AL.T ?_ | refine AL.W ?_ | refine AL.nil ?_)
    | ((with_reducible show DL ..); first | refine DL.any ?_ | refine DL.U ?_ | refine DL.F ?_ | refine DL.T ?_ | refine DL.W ?_ | refine DL.nil ?_)
    | ((with_reducible show AW ..); first | (refine AW.row1 (X := (newL l y).map TEntry.ed) hnew ?_) | refine AW.seq ?_ | refine AW.region ?_ | refine AW.skip ?_ | (refine AW.loopD hE (fun i : Nat => (.ro 8 (l.map TEntry.en) :: .any :: .any :: .ref 0 0 8 0 0 :: .any :: .own 1 0 :: I (i : Int) :: .any :: .any :: .any :: .any :: .any :: .any :: .any :: .any :: .any :: .any :: .any :: .any :: .any :: .any :: .any :: .any :: .any :: .any :: .any :: .any :: .any :: .any :: .any :: .any :: .any :: .any :: .any :: .any :: .any :: .any :: .any :: .any :: .any :: .any :: .any :: .any :: .any :: .any :: .any :: .any :: .any :: .any :: .any :: .any :: .any :: .any :: .any :: .any :: .any :: .any :: .any :: .any :: .any :: .any :: .any :: .any :: .any :: .any :: .any :: .any :: .any :: .any :: .any :: .any :: .any :: .any :: .any :: [])) (fun i => [some ⟨121, 8, 0, true, [y.en]⟩, some ⟨121, 8, 0, false, l.map TEntry.ed⟩]) (fun i => (posTo l y.feature.id) - i) (fun i => i ≤ (posTo l y.feature.id)) 0 (by simp) ?_ (by first | rfl | (simp [fil_zero]; done)) ?_) | refine AW.dr (id := 5) 14 ?_ | refine AW.dr (id := 8) 14 ?_ | refine AW.dr (id := 9) 5 ?_ | refine AW.cT ?_ | refine AW.cF ?_ | (refine AW.c2 ?_ ?_ <;> (intro h; try simp only [bT, bF] at h)) | refine AW.block ?_ | refine AW.exit ?_ | refine AW.ret ?_)
    | with_reducible refine ifP ?_
    | with_reducible refine ifN ?_) <;> (try dsimp only))
  · (repeat' (first | exact Wk.nil | refine Wk.any ?_ | (with_reducible refine Wk.same ?_) | refine Wk.of ?_ ?_)) <;> first | rfl | (simp)
  · intro i hi
    have hclo : Clo (.ro 8 (l.map TEntry.en)) := clo_list TEntry.clo_en
    have hclY : Clo (.agg y.en) := Clo.agg y.clo_en
    have hclP : Clo (.ro 2 (y.feature.points.map TPoint.en)) := clo_list TPoint.clo_en
    have hys := hy.1
    have hsm : ∀ x ∈ l, x.feature.sm := fun x hx => (hp x hx).1
    by_cases hlt : i < (posTo l y.feature.id)
    · skip
      obtain ⟨x, hx, hxl⟩ := posTo_lt hlt
      have hN := (List.getElem?_eq_some_iff.1 hx).1
      have hg := map_get (f := TEntry.en) hx
      have ht := lt_true (f := TEntry.en) hN
      have hn := next_ix hN (by omega)
      repeat' ((first
        | ((with_reducible show AL ..); first | refine AL.any (h := POp.gh (POp.literal (by rfl) rwk27 (by rfl) (by rfl) (by rfl) (by rfl) (by rfl) (by rfl)) (Gh.absorbA (q := 3) (A := []) (id := 2) (j := 4) rfl rfl rfl rfl rfl rfl (DCl.map (fun _ => rfl)) TPoint.und)) ?_ | refine AL.any (h := POp.gh (POp.sto (by rfl) (by rfl) (by rfl) (by rfl) (by rfl) hgd (by rfl) (by rfl) (TT_ok.ld _ _ (by rfl)) (by rfl) (Nat.le_of_ble_eq_true (by rfl)) (by rfl)) (Gh.absorbS (q := 1) (id := 2) (j := 4) rfl hKn rfl rfl rfl rfl rfl (DCl.map (fun _ => rfl)) TPoint.und)) ?_ | refine AL.any (h := POp.ins (k := K)) ?_ | refine AL.any ?_ | refine AL.any (h := POp.k Tryz.func89 (hc := isLog_i l (by assumption) (by assumption))) ?_ | refine AL.any (h := POp.D Tryz.func89 (hc := isLog_i (newL l y) hnl (newL_all hp hy)) (hvw := vwlF)) ?_ | refine AL.any (h := POp.O Tryz.func115 (hc := cpL_i l (by assumption) (by assumption))) ?_ | refine AL.any (h := POp.O Tryz.func122 (hc := cloneF y.feature (by assumption))) ?_ | refine AL.any (h := POp.D Tryz.func150 (hc := newer_i y x)) ?_ | refine AL.U ?_ | refine AL.F ?_ | refine AL.T ?_ | refine AL.W ?_ | refine AL.nil ?_)
        | ((with_reducible show DL ..); first | refine DL.any ?_ | refine DL.U ?_ | refine DL.F ?_ | refine DL.T ?_ | refine DL.W ?_ | refine DL.nil ?_)
        | ((with_reducible show AW ..); first | (refine AW.row1 (X := (newL l y).map TEntry.ed) hnew ?_) | refine AW.seq ?_ | refine AW.region ?_ | refine AW.skip ?_ | refine AW.dr (id := 5) 14 ?_ | refine AW.dr (id := 8) 14 ?_ | refine AW.dr (id := 9) 5 ?_ | refine AW.cT ?_ | refine AW.cF ?_ | (refine AW.c2 ?_ ?_ <;> (intro h; try simp only [bT, bF] at h)) | refine AW.block ?_ | refine AW.exit ?_ | refine AW.ret ?_)
        | with_reducible refine ifP ?_
        | with_reducible refine ifN ?_) <;> (try dsimp only))
      all_goals first
        | (refine ⟨i + 1, [], hlt, by omega, ?_, rfl, ?_, ?_⟩; (focus ((repeat' (first | exact Wk.nil | refine Wk.any ?_ | (with_reducible refine Wk.same ?_) | refine Wk.of ?_ ?_)) <;> (simp_all))); (focus ((repeat' (first | exact Fits.nil _ | refine Fits.cons ?_ ?_ | exact Fits.any _ | exact Fits.c _ _ | exact Fits.own (by rfl) | exact Fits.ref (by rfl) | exact Fits.clo (by assumption) | exact Fits.clo (clo_of (by rfl)) | exact Fits.clo (clo_fn _))))); (focus (exact fitsM_cons (clo_one y.clo_en) (fitsM_dcl (DCl.map (fun _ => rfl)) (FitsM.nil _)))))
    · have e : i = (posTo l y.feature.id) := by omega
      subst e
      have hle := posTo_le l y.feature.id
      have hpc := pos_cases l y
      have hnw : newL l y = l.take (posTo l y.feature.id) ++ [y] ++ l.drop (if sameAt l y.feature.id = true then posTo l y.feature.id + 1 else posTo l y.feature.id) := rfl
      obtain ⟨K, hK⟩ : ∃ K, K = posTo l y.feature.id := ⟨_, rfl⟩
      rw [← hK] at hpc hle hnw ⊢
      have hKl : K ≤ (l.map TEntry.ed).length := by rw [List.length_map]; omega
      have hlm : (l.map TEntry.ed).length ≤ 1048576 := by rw [List.length_map]; omega
      rcases hpc with ⟨q1, q2, hrf, q4⟩ | ⟨x, hx, hxl, q2, q3⟩
      have ht : decide (((K : Nat) : Int) < ((l.map TEntry.en).length : Int)) = false := by rw [List.length_map]; simp; omega
      have hnew := (ins_app (l := l) (K := K) (y := y)).trans (congrArg (List.map TEntry.ed) (by rw [hnw, q2]; rfl : l.take K ++ [y] ++ l.drop K = newL l y))
      rotate_left 1
      have hN := (List.getElem?_eq_some_iff.1 hx).1
      have hg := map_get (f := TEntry.en) hx
      have hgd := map_get (f := TEntry.ed) hx
      have ht := lt_true (f := TEntry.en) hN
      have hKn : ((K : Nat) : Int).toNat < (l.map TEntry.ed).length := by rw [Int.toNat_natCast, List.length_map]; omega
      have hclx : Clo (.agg x.en) := Clo.agg x.clo_en
      have hclxp : Clo (.ro 2 (x.feature.points.map TPoint.en)) := clo_list TPoint.clo_en
      rcases Bool.eq_false_or_eq_true (x.feature.id == y.feature.id) with he | he
      rcases Bool.eq_false_or_eq_true (newer y x) with hw | hw
      have hnew := (set_app (y := y) hN).trans (congrArg (List.map TEntry.ed) (by rw [hnw, q2, he]; rfl : l.take K ++ [y] ++ l.drop (K + 1) = newL l y))
      have hrf : refused l y = false := by rw [q3, he, hw]; rfl
      rotate_left 1
      have hrt : refused l y = true := by rw [q3, he, hw]; rfl
      rotate_left 1
      have hnew := (ins_app (l := l) (K := K) (y := y)).trans (congrArg (List.map TEntry.ed) (by rw [hnw, q2, he]; rfl : l.take K ++ [y] ++ l.drop K = newL l y))
      have hrf : refused l y = false := by rw [q3, he]; rfl
      rotate_left 1
      repeat' ((first
        | ((with_reducible show AL ..); first | refine AL.any (h := POp.gh (POp.literal (by rfl) rwk27 (by rfl) (by rfl) (by rfl) (by rfl) (by rfl) (by rfl)) (Gh.absorbA (q := 3) (A := []) (id := 2) (j := 4) rfl rfl rfl rfl rfl rfl (DCl.map (fun _ => rfl)) TPoint.und)) ?_ | refine AL.any (h := POp.gh (POp.sto (by rfl) (by rfl) (by rfl) (by rfl) (by rfl) hgd (by rfl) (by rfl) (TT_ok.ld _ _ (by rfl)) (by rfl) (Nat.le_of_ble_eq_true (by rfl)) (by rfl)) (Gh.absorbS (q := 1) (id := 2) (j := 4) rfl hKn rfl rfl rfl rfl rfl (DCl.map (fun _ => rfl)) TPoint.und)) ?_ | refine AL.any (h := POp.ins (k := K)) ?_ | refine AL.any ?_ | refine AL.any (h := POp.k Tryz.func89 (hc := isLog_i l (by assumption) (by assumption))) ?_ | refine AL.any (h := POp.D Tryz.func89 (hc := isLog_i (newL l y) hnl (newL_all hp hy)) (hvw := vwlF)) ?_ | refine AL.any (h := POp.O Tryz.func115 (hc := cpL_i l (by assumption) (by assumption))) ?_ | refine AL.any (h := POp.O Tryz.func122 (hc := cloneF y.feature (by assumption))) ?_ | refine AL.any (h := POp.D Tryz.func150 (hc := newer_i y x)) ?_ | refine AL.U ?_ | refine AL.F ?_ | refine AL.T ?_ | refine AL.W ?_ | refine AL.nil ?_)
        | ((with_reducible show DL ..); first | refine DL.any ?_ | refine DL.U ?_ | refine DL.F ?_ | refine DL.T ?_ | refine DL.W ?_ | refine DL.nil ?_)
        | ((with_reducible show AW ..); first | (refine AW.row1 (X := (newL l y).map TEntry.ed) hnew ?_) | refine AW.seq ?_ | refine AW.region ?_ | refine AW.skip ?_ | refine AW.dr (id := 5) 14 ?_ | refine AW.dr (id := 8) 14 ?_ | refine AW.dr (id := 9) 5 ?_ | refine AW.cT ?_ | refine AW.cF ?_ | (refine AW.c2 ?_ ?_ <;> (intro h; try simp only [bT, bF] at h)) | refine AW.block ?_ | refine AW.exit ?_ | refine AW.ret ?_)
        | with_reducible refine ifP ?_
        | with_reducible refine ifN ?_) <;> (try dsimp only))
      all_goals first
        | (rw [takeE_2 (by assumption)]; exact Fin.r1 [1] rfl (RV.tmp (by rfl)) ⟨rfl, rfl⟩)
        | (rw [takeE_2 (by assumption)]; exact Fin.r1 [3] rfl (RV.tmp (by rfl)) ⟨rfl, rfl⟩)
        | (rw [takeE_2 (by assumption)]; exact Fin.r1 [4] rfl (RV.tmp (by rfl)) ⟨rfl, rfl⟩)
        | (rw [takeE_3 (by assumption)]; exact Fin.r1 [1] rfl (RV.tmp (by rfl)) ⟨rfl, rfl⟩)
        | (rw [takeE_3 (by assumption)]; exact Fin.r1 [3] rfl (RV.tmp (by rfl)) ⟨rfl, rfl⟩)
        | (rw [takeE_3 (by assumption)]; exact Fin.r1 [4] rfl (RV.tmp (by rfl)) ⟨rfl, rfl⟩)
        | (rw [takeE_4 hL (by assumption) (by assumption)]; exact Fin.r1 [1] rfl (RV.tmp (by rfl)) ⟨rfl, rfl⟩)

theorem take_i (l : List TEntry) (y : TEntry) (hl : l.length ≤ 1048576) (hp : ∀ x ∈ l, x.feature.gd) (hy : y.feature.gd) : VCalls Tryz.prog 124 [.ro 8 (l.map TEntry.en), .agg y.en] (fun r M => r = .own 0 0 ∧ M = [some ⟨121, 8, 0, false, (takeE l y).map TEntry.ed⟩]) := by
  rcases isLog_cases l y with ⟨hL, hnl⟩ | hL
  · exact take_i1 l y hl hp hy hL hnl
  · exact take_i0 l y hl hp hy hL
end Go.Proofs.YtacbpfbelcdeiaaGreat.Abs

/- Pieces of lists that stay. -/
namespace Go.Proofs.YtacbpfbelcdeiaaGreat.Abs
open Go.Proofs Go.RowKit
set_option linter.unusedVariables false
set_option linter.unusedSimpArgs false
set_option maxRecDepth 100000
set_option maxHeartbeats 2000000
section
variable {P : Program} {o : Oper} {tm : List AV} {M : Mem}
theorem elem_of {t e : TypeId} (h : P.underlying t = some (.slice e)) : P.elem t = e := by simp [Program.elem, h]
theorem Addr.add_block (a : Addr) (n : Nat) : (a.add n).block = a.block := by unfold Addr.add; split <;> rfl
/-- A list that stays, from a place on. -/
theorem QOp.cut_l {x y : Operand} {t e : TypeId} {sz : Nat} {es : List (List AV)} {k : IntKind} {n : Int} {es2 : List (List AV)} (ho : o.op = .slice t x (some y) none none) (ht : slk P t = some (e, sz)) (hx : evA tm x = some (.ro sz es)) (hy : sc tm y = some (.int k n)) (h0 : 0 ≤ n) (h1 : n ≤ (es.length : Int)) (he : es.drop n.toNat = es2) :
    QOp P o tm M (.ro sz es2) := he ▸ fun base w0 a w Fx β hh hs => by
  have hrep := hs.ev hx
  generalize hu : a.eval x = u at hrep
  cases hrep with
  | @ro _ _ A cap f hc hm hA hl h1c h =>
    have hun := (slk_inv ht).1
    obtain ⟨i0, hi0, hs0⟩ := info_size (slk_inv ht).2
    have hun2 : P.underlying t = some (.slice (P.elem t)) := by rw [elem_of hun]; exact hun
    refine ⟨sliced A n.toNat es.length cap sz, fun w' _ => ?_, ?_⟩
    · simp [execOp, ho, hu, hs.sc hy, run_sliceAt_slice w' t _ _ _ _ hun2, run_slice_l w' t A es.length cap hun2 k n h0 h1, elem_of hun, sizeOf, typeInfo, hi0, hs0, Result.andThen]
    · have e1 : es.length - n.toNat = (es.drop n.toNat).length := by simp
      unfold sliced
      rw [e1]
      refine .ro (fun i j => f (i + n.toNat) j) (by rw [← e1]; omega) (by rw [← e1]; omega) (fun hp => ?_) (fun i r hr => hl (i + n.toNat) r (by rw [List.getElem?_drop] at hr; rw [Nat.add_comm]; exact hr)) (fun i j => h1c _ _) (fun i r j z hr hz => h (i + n.toNat) r j z (by rw [List.getElem?_drop] at hr; rw [Nat.add_comm]; exact hr) hz)
      have hlt : n.toNat < es.length := by rw [← e1] at hp; omega
      obtain ⟨ad, rfl, hF, hcell⟩ := hA (by omega)
      rw [if_neg (by omega)]
      refine ⟨ad.add (n.toNat * sz), rfl, by rw [Addr.add_block]; exact hF, fun i r j hr hj => ?_⟩
      rw [Addr.add_add, show n.toNat * sz + (i * sz + j) = (i + n.toNat) * sz + j by rw [Nat.add_mul]; omega]
      exact hcell (i + n.toNat) r j (by rw [List.getElem?_drop] at hr; rw [Nat.add_comm]; exact hr) hj
/-- A list that stays, up to a place. -/
theorem QOp.cut_h {x y : Operand} {t e : TypeId} {sz : Nat} {es : List (List AV)} {k : IntKind} {n : Int} {es2 : List (List AV)} (ho : o.op = .slice t x none (some y) none) (ht : slk P t = some (e, sz)) (hx : evA tm x = some (.ro sz es)) (hy : sc tm y = some (.int k n)) (h0 : 0 ≤ n) (h1 : n ≤ (es.length : Int)) (he : es.take n.toNat = es2) :
    QOp P o tm M (.ro sz es2) := he ▸ fun base w0 a w Fx β hh hs => by
  have hrep := hs.ev hx
  generalize hu : a.eval x = u at hrep
  cases hrep with
  | @ro _ _ A cap f hc hm hA hl h1c h =>
    have hun := (slk_inv ht).1
    obtain ⟨i0, hi0, hs0⟩ := info_size (slk_inv ht).2
    have hun2 : P.underlying t = some (.slice (P.elem t)) := by rw [elem_of hun]; exact hun
    refine ⟨sliced A 0 n.toNat cap sz, fun w' _ => ?_, ?_⟩
    · simp [execOp, ho, hu, hs.sc hy, run_sliceAt_slice w' t _ _ _ _ hun2, run_slice_h w' t A es.length cap hun2 k n h0 (by omega), elem_of hun, sizeOf, typeInfo, hi0, hs0, Result.andThen]
    · have e1 : n.toNat - 0 = (es.take n.toNat).length := by simp; omega
      have tk : ∀ {i : Nat} {r : List AV}, (es.take n.toNat)[i]? = some r → es[i]? = some r := fun {i r} hr => by
        rw [List.getElem?_take] at hr
        split at hr
        · exact hr
        · cases hr
      unfold sliced
      rw [e1, Nat.sub_zero]
      refine .ro f (by rw [← e1]; omega) (by rw [← e1]; omega) (fun hp => ?_) (fun i r hr => hl i r (tk hr)) h1c (fun i r j z hr hz => h i r j z (tk hr) hz)
      have hlt : 0 < es.length := by rw [← e1] at hp; omega
      obtain ⟨ad, rfl, hF, hcell⟩ := hA hlt
      refine ⟨ad, ?_, hF, fun i r j hr hj => hcell i r j (tk hr) hj⟩
      split
      · rfl
      · simp [Addr.add]
end

/-- The memory, by which of the changers have gone: each waits for the one ahead of it. -/
def memOf (L : Array Bool) : Mem → List (Nat × Mem) → Mem
  | M, [] => M
  | M, (m, X) :: cs => bif L.getD m false then memOf L X cs else M
def lastOf : Mem → List (Nat × Mem) → Mem
  | M, [] => M
  | _, (_, X) :: cs => lastOf X cs
def chainB (bms : List Nat) : List (Nat × Mem) → Bool
  | (m, _) :: (m2, X) :: cs => (bms.getD m2 0).testBit m && chainB bms ((m2, X) :: cs)
  | _ => true
/-- What operation j must do in each of the memories in which it may find itself. -/
def stepOk (P : Program) (ops : Array Oper) (o : Oper) (E : Env) (tm : List AV) (bms : List Nat) (j : Nat) (r : AV) : Mem → List (Nat × Mem) → Prop
  | M, [] => GOp P ops o E tm M r
  | M, (m, X) :: cs => (j = m ∧ o.guard = none ∧ POp P o E tm M r X) ∨ (j ≠ m ∧ ((bms.getD j 0).testBit m = true ∨ GOp P ops o E tm M r) ∧ ((bms.getD m 0).testBit j = true ∨ stepOk P ops o E tm bms j r X cs))
theorem memOf_all {L : Array Bool} : ∀ (M : Mem) (cs : List (Nat × Mem)), (∀ c ∈ cs, L.getD c.1 false = true) → memOf L M cs = lastOf M cs
  | _, [], _ => rfl
  | _, (m, X) :: cs, h => by
    unfold memOf lastOf
    rw [h (m, X) (List.mem_cons_self ..)]
    exact memOf_all X cs fun c hc => h c (List.mem_cons_of_mem _ hc)
theorem memOf_none {L : Array Bool} (h : ∀ q, L.getD q false = false) (M : Mem) (cs : List (Nat × Mem)) : memOf L M cs = M := by
  cases cs with
  | nil => rfl
  | cons c cs => unfold memOf; rw [h]; rfl
theorem stepOk.run {P : Program} {ops : Array Oper} {o : Oper} {E : Env} {tm : List AV} {bms : List Nat} {j : Nat} {r : AV} {L L2 : Array Bool} (hun : L.getD j false = false) (hset : ∀ q, q ≠ j → L2.getD q false = L.getD q false) (hdone : L2.getD j false = true)
    (bef : ∀ i, (bms.getD j 0).testBit i = true → L.getD i false = true) (down : ∀ m i, L.getD m false = true → (bms.getD m 0).testBit i = true → L.getD i false = true) :
    ∀ (M : Mem) (cs : List (Nat × Mem)), chainB bms cs = true → stepOk P ops o E tm bms j r M cs →
      (GOp P ops o E tm (memOf L M cs) r ∧ memOf L2 M cs = memOf L M cs) ∨ (o.guard = none ∧ POp P o E tm (memOf L M cs) r (memOf L2 M cs))
  | M, [], _, h => .inl ⟨h, rfl⟩
  | M, (m, X) :: cs, hc, h => by
    have hc2 : chainB bms cs = true := by
      cases cs with
      | nil => rfl
      | cons c cs => simp only [chainB, Bool.and_eq_true] at hc; exact hc.2
    rcases h with ⟨rfl, hg, hp⟩ | ⟨hne, h1, h2⟩
    · refine .inr ⟨hg, ?_⟩
      have e1 : memOf L M ((j, X) :: cs) = M := by unfold memOf; rw [hun]; rfl
      have e2 : memOf L2 M ((j, X) :: cs) = X := by
        show (bif L2.getD j false then memOf L2 X cs else M) = X
        rw [hdone]
        cases cs with
        | nil => rfl
        | cons c cs =>
          obtain ⟨m2, X2⟩ := c
          simp only [chainB, Bool.and_eq_true] at hc
          have hm2 : L.getD m2 false = false := by
            rcases e : L.getD m2 false with _ | _
            · rfl
            · have := down m2 j e hc.1
              rw [hun] at this
              cases this
          have hne : m2 ≠ j := fun e => by
            have := bef j (by rw [← e]; rw [← e] at hc; exact hc.1)
            rw [hun] at this
            cases this
          show (bif L2.getD m2 false then memOf L2 X2 cs else X) = X
          rw [hset m2 hne, hm2]
          rfl
      rw [e1, e2]
      exact hp
    · have em : L2.getD m false = L.getD m false := hset m (Ne.symm hne)
      rcases e : L.getD m false with _ | _
      · have e1 : memOf L M ((m, X) :: cs) = M := by unfold memOf; rw [e]; rfl
        have e2 : memOf L2 M ((m, X) :: cs) = M := by unfold memOf; rw [em, e]; rfl
        rw [e1, e2]
        rcases h1 with hl | hg
        · have := bef m hl
          rw [e] at this
          cases this
        · exact .inl ⟨hg, rfl⟩
      · have e1 : memOf L M ((m, X) :: cs) = memOf L X cs := by show (bif L.getD m false then memOf L X cs else M) = _; rw [e]; rfl
        have e2 : memOf L2 M ((m, X) :: cs) = memOf L2 X cs := by show (bif L2.getD m false then memOf L2 X cs else M) = _; rw [em, e]; rfl
        rw [e1, e2]
        rcases h2 with hb | hs
        · have := down m j e hb
          rw [hun] at this
          cases this
        · exact stepOk.run hun hset hdone bef down X cs hc2 hs
section
variable {P : Program} {E : Env} {M : Mem} {cs : List (Nat × Mem)} {l : List Oper} {n1 : Nat} {rs tm0 : List AV}
/-- How far a drawn region has come: some of the first n1 have gone. -/
structure DInvN (E : Env) (M : Mem) (cs : List (Nat × Mem)) (l : List Oper) (n1 : Nat) (rs tm0 : List AV) (L : Array Bool) (a : Act) (w : World) : Prop where
  sz : L.size = l.length
  down : ∀ (j : Nat) o, L.getD j false = true → l[j]? = some o → ∀ e ∈ o.after, Region.binds .any e = true → L.getD e.on false = true
  first : ∀ j, L.getD j false = true → j < n1
  st : a.defers = [] ∧ ∃ Fx β, HS E.base E.w0 w Fx β (memOf L M cs) ∧ Out E w Fx β (memOf L M cs) ∧ a.tmps.size = tm0.length ∧ ∀ (t : Nat) u, a.tmps[t]? = some u →
    (∀ (i : Nat) o r, L.getD i false = true → l[i]? = some o → o.dst = some t → rs[i]? = some r → Rep w Fx β (gens (memOf L M cs)) r u) ∧ ((∀ (i : Nat) o, L.getD i false = true → l[i]? = some o → o.dst ≠ some t) → ∀ x, tm0[t]? = some x → Rep w Fx β (gens (memOf L M cs)) x u)
theorem wpAny_chgN {Q : Exit → Act → World → Prop} (hc : ChkD l n1) (hn : n1 ≤ l.length) (hm : ∀ c ∈ cs, c.1 < n1) (hch : chainB (masks l []) cs = true) (hrl : rs.length = n1)
    (hops : ∀ (j : Nat) o, j < n1 → l[j]? = some o → ∃ r, rs[j]? = some r ∧ stepOk P l.toArray o E (msk (o.looksAt l.toArray) (run (l.take n1) rs tm0 j)) (masks l []) j r M cs)
    (hend : ∀ a w, Sim E (run (l.take n1) rs tm0 n1) (lastOf M cs) a w → wpList P l.toArray Q (l.drop n1) a w) :
    ∀ (fuel : Nat) (L : Array Bool) (a : Act) (w : World), DInvN E M cs l n1 rs tm0 L a w → cnt L ≤ fuel → wpAny P .any l.toArray Q fuel L a w := by
  have hrlen : rs.length = (l.take n1).length := by rw [hrl, List.length_take]; omega
  have tk : ∀ {i : Nat} {o : Oper}, (l.take n1)[i]? = some o → i < n1 ∧ l[i]? = some o := fun {i o} h => by
    rw [List.getElem?_take] at h
    split at h
    · exact ⟨by assumption, h⟩
    · cases h
  have tk2 : ∀ {i : Nat} {o : Oper}, i < n1 → l[i]? = some o → (l.take n1)[i]? = some o := fun hi h => by rw [List.getElem?_take, if_pos hi]; exact h
  -- when all of the first have gone
  have fin : ∀ (fuel : Nat) (L : Array Bool) (a : Act) (w : World), DInvN E M cs l n1 rs tm0 L a w → cnt L ≤ fuel → (∀ i, i < n1 → L.getD i false = true) → wpAny P .any l.toArray Q fuel L a w := by
    intro fuel L a w hI hcnt hall
    refine wpAny_tail hc fuel n1 L a w (Nat.le_refl _) hn hI.sz (fun i => ⟨hI.first i, hall i⟩) hcnt (hend a w ?_)
    obtain ⟨hd, Fx, β, hh, ho, hsz, hs⟩ := hI.st
    have eM : memOf L M cs = lastOf M cs := memOf_all M cs fun c hc => hall c.1 (hm c hc)
    rw [eM] at hh ho hs
    refine ⟨hd, Fx, β, hh, ho, by rw [run_length]; exact hsz, fun t x u hx hu => ?_⟩
    obtain ⟨h1, h2⟩ := hs t u hu
    rcases run_get _ _ _ _ _ _ hrlen hx with ⟨i, o, hi, ho', hdst, hr⟩ | ⟨hno, hx0⟩
    · exact h1 i o x (hall i hi) (tk ho').2 hdst hr
    · exact h2 (fun i o hL ho' => hno i o (hI.first i hL) (tk2 (hI.first i hL) ho')) x hx0
  intro fuel
  induction fuel with
  | zero =>
    intro L a w hI hcnt
    refine fin 0 L a w hI hcnt (fun i hi => ?_)
    have := cnt_zero (by omega) (i := i) (L := L) (by rw [hI.sz]; omega)
    rwa [getD_tf (by rw [hI.sz]; omega)] at this
  | succ fuel ih =>
    intro L a w hI hcnt
    by_cases hall : ∀ i, i < n1 → L.getD i false = true
    · exact fin _ L a w hI hcnt hall
    · have hex : ∃ i, i < n1 ∧ L.getD i false ≠ true := Classical.byContradiction fun h => hall fun i hi => Classical.byContradiction fun h2 => h ⟨i, hi, h2⟩
      obtain ⟨i0, ⟨hi0, hu0⟩, hmin⟩ := least_of hex
      have hi0l : i0 < l.length := by omega
      refine ⟨fun hr => ?_, fun j hj => ?_⟩
      · have : i0 ∈ Region.ready .any l.toArray L := mem_ready.2 ⟨by
          rw [getD_tf (by rw [hI.sz]; omega)]
          simpa using hu0, l[i0], by simp, fun e he hbe => by
            have hlt := hc.top i0 _ e (List.getElem?_eq_getElem hi0l) he hbe
            rcases e2 : L.getD e.on false with _ | _
            · exact absurd (hmin e.on ⟨by omega, by rw [e2]; decide⟩) (by omega)
            · rfl⟩
        rw [hr] at this
        simp at this
      · obtain ⟨hun, o, ho, hdep⟩ := mem_ready.1 hj
        have ho' : l[j]? = some o := by simpa using ho
        have hjl : j < l.length := (List.getElem?_eq_some_iff.1 ho').1
        have hunf : L.getD j false = false := by rw [← getD_tf (by rw [hI.sz]; omega)]; exact hun
        have bef : ∀ i, ((masks l []).getD j 0).testBit i = true → L.getD i false = true := fun i hb => before (l := l) (L := fun i => L.getD i false = true) hI.down j o i ho' hdep hb
        have hjn : j < n1 := by
          rcases Nat.lt_or_ge j n1 with h | h
          · exact h
          · exact absurd (bef i0 (hc.tail j o i0 ho' h (by omega))) hu0
        obtain ⟨r, hr, hg⟩ := hops j o hjn ho'
        obtain ⟨hd, Fx, β, hh, hout, hsz, hs⟩ := hI.st
        have hsl : Slots w Fx β (gens (memOf L M cs)) (msk (o.looksAt l.toArray) (run (l.take n1) rs tm0 j)) a.tmps := by
          refine ⟨by rw [msk, mskG_length, run_length]; exact hsz, fun t x u hx hu => ?_⟩
          rcases msk_get hx with rfl | ⟨hlook, hx⟩
          · exact .any u
          · obtain ⟨h1, h2⟩ := hs t u hu
            rcases run_get _ _ _ _ _ _ hrlen hx with ⟨i, oi, hi, hoi, hdst, hri⟩ | ⟨hno, hx0⟩
            · have hoi := (tk hoi).2
              exact h1 i oi x (bef i ((hc.look j o t i oi ho' hjn hlook hoi hdst (by omega)).1 hi)) hoi hdst hri
            · refine h2 (fun i oi hL hoi hdst => ?_) x hx0
              rcases Nat.lt_trichotomy i j with h | h | h
              · exact hno i oi h (tk2 (by omega) hoi) hdst
              · subst h; rw [hunf] at hL; cases hL
              · have hb := (hc.look j o t i oi ho' hjn hlook hoi hdst (by omega)).2 h
                have := before (l := l) (L := fun i => L.getD i false = true) hI.down i oi j hoi (hI.down i oi hL hoi) hb
                rw [hunf] at this
                cases this
        have go : ∀ v w' Fx' β', HS E.base E.w0 w' Fx' β' (memOf (L.setIfInBounds j true) M cs) → Nx w Fx β (memOf L M cs) w' Fx' β' (memOf (L.setIfInBounds j true) M cs) → Rep w' Fx' β' (gens (memOf (L.setIfInBounds j true) M cs)) r v → wpAny P .any l.toArray Q fuel (L.setIfInBounds j true) (a.put o.dst v) w' := by
          intro v w' Fx' β' hh' hx hrep
          refine ih _ _ _ ⟨by simpa using hI.sz, fun j' o2 hj' ho2 e he hbe => ?_, fun j' hj' => ?_, (put_defers a o.dst v).trans hd, Fx', β', hh', ?_, by rw [put_size]; exact hsz, fun t u hu => ?_⟩ (by have := cnt_set (L := L) (i := j) (by rw [hI.sz]; omega) hun; omega)
          · rw [getD_set (by rw [hI.sz]; omega)] at hj' ⊢
            rcases hj' with rfl | hj'
            · rw [ho'] at ho2
              obtain rfl := Option.some.inj ho2
              exact .inr (hdep e he hbe)
            · exact .inr (hI.down j' o2 hj' ho2 e he hbe)
          · rw [getD_set (by rw [hI.sz]; omega)] at hj'
            rcases hj' with rfl | hj'
            · exact hjn
            · exact hI.first j' hj'
          · refine ⟨hout.mv.trans hx.mv, Nat.le_trans hout.size hx.size, fun k hk => ?_, fun id b v k h1 h2 h3 => ?_⟩
            · rcases hx.lim k hk with h | h | ⟨id, b, v, h1, h2, h3⟩
              · exact hout.lim k h
              · exact .inr (.inl (Nat.le_trans hout.size h))
              · rcases hout.own id b v k h1 h2 h3 with h | h
                · exact .inr (.inl h)
                · exact .inr (.inr h)
            · rcases hx.own id b v k h1 h2 h3 with h | ⟨id', b', v', g1, g2, g3⟩
              · exact .inl (Nat.le_trans hout.size h)
              · exact hout.own id' b' v' k g1 g2 g3
          · rcases put_get a o.dst v t u hu with ⟨hdt, rfl⟩ | ⟨hdt, hu⟩
            · refine ⟨fun i oi ri hL hoi hdst hri => ?_, fun hno => absurd hdt (hno j o ((getD_set (by rw [hI.sz]; omega)).2 (.inl rfl)) ho')⟩
              have hin : i < n1 := by
                rw [getD_set (by rw [hI.sz]; omega)] at hL
                rcases hL with rfl | hL
                · exact hjn
                · exact hI.first i hL
              have e : i = j := by
                rcases Nat.lt_trichotomy i j with h | h | h
                · exact absurd hdst (hc.one j i o oi t ho' hjn h hoi hdt)
                · exact h
                · exact absurd hdt (hc.one i j oi o t hoi hin h ho' hdst)
              subst e
              rw [hr] at hri
              obtain rfl := Option.some.inj hri
              exact hrep
            · obtain ⟨h1, h2⟩ := hs t u hu
              refine ⟨fun i oi ri hL hoi hdst hri => ?_, fun hno x hx0 => (h2 (fun i oi hL hoi => hno i oi ((getD_set (by rw [hI.sz]; omega)).2 (.inr hL)) hoi) x hx0).mv hx.mv⟩
              rw [getD_set (by rw [hI.sz]; omega)] at hL
              rcases hL with rfl | hL
              · rw [ho'] at hoi
                obtain rfl := Option.some.inj hoi
                exact absurd hdst hdt
              · exact (h1 i oi ri hL hoi hdst hri).mv hx.mv
        unfold wpOp
        rw [ho]
        have keep : ∀ q, q ≠ j → (L.setIfInBounds j true).getD q false = L.getD q false := fun q hq => by
          rcases e : L.getD q false with _ | _
          · rcases e3 : (L.setIfInBounds j true).getD q false with _ | _
            · rfl
            · rcases (getD_set (by rw [hI.sz]; omega)).1 e3 with h | h
              · exact absurd h hq
              · rw [e] at h; cases h
          · exact (getD_set (by rw [hI.sz]; omega)).2 (.inr e)
        have done : (L.setIfInBounds j true).getD j false = true := (getD_set (L := L) (i := j) (j := j) (by rw [hI.sz]; omega)).2 (.inl rfl)
        have down : ∀ m i, L.getD m false = true → ((masks l []).getD m 0).testBit i = true → L.getD i false = true := fun m i e hb => by
          have hml : m < l.length := by have := hI.first m e; omega
          exact before (l := l) (L := fun i => L.getD i false = true) hI.down m l[m] i (List.getElem?_eq_getElem hml) (hI.down m l[m] e (List.getElem?_eq_getElem hml)) hb
        rcases hg.run (L := L) (L2 := L.setIfInBounds j true) hunf keep done bef down M cs hch with ⟨hp, e2⟩ | ⟨hgd, hp⟩
        · exact hp.go hh hsl fun v w' Fx' β' h1 h2 h3 => go v w' Fx' β' (by rw [e2]; exact h1) (by rw [e2]; exact h2) (by rw [e2]; exact h3)
        · have hw : Region.wanted o (yielded l.toArray a.tmps) = true := by simp [Region.wanted, hgd]
          simp only [hw, if_true]
          exact .inl (hp a w _ Q Fx β hh hsl fun v w' Fx' β' h1 h2 h3 => go v w' Fx' β' h1 h2 h3)

/-- The operations in their written order, some of which change the memory, each waiting for the one ahead of it. -/
def DN (P : Program) (ops : Array Oper) (E : Env) (M : Mem) (cs : List (Nat × Mem)) (bms : List Nat) : Nat → List Oper → List AV → (List AV → Prop) → Prop
  | _, [], tm, N => N tm
  | j, o :: rest, tm, N => ∃ r, stepOk P ops o E (msk (o.looksAt ops) tm) bms j r M cs ∧ DN P ops E M cs bms (j + 1) rest (dput tm o.dst r) N
theorem DN.data {bms : List Nat} {ops : Array Oper} {N : List AV → Prop} : ∀ (os : List Oper) (j0 : Nat) (tm : List AV), DN P ops E M cs bms j0 os tm N →
    ∃ (rs : List AV), rs.length = os.length ∧ N (run os rs tm os.length) ∧ ∀ (j : Nat) o, os[j]? = some o → ∃ r, rs[j]? = some r ∧ stepOk P ops o E (msk (o.looksAt ops) (run os rs tm j)) bms (j0 + j) r M cs
  | [], j0, tm, h => ⟨[], rfl, h, fun j o ho => by simp at ho⟩
  | o :: os, j0, tm, ⟨r, hp, h⟩ => by
    obtain ⟨rs, h1, h2, h3⟩ := DN.data os (j0 + 1) _ h
    refine ⟨r :: rs, by simp [h1], h2, fun j o' ho => ?_⟩
    cases j with
    | zero =>
      simp only [List.getElem?_cons_zero, Option.some.injEq] at ho
      subst ho
      exact ⟨r, rfl, by simpa [run] using hp⟩
    | succ j =>
      obtain ⟨r', g1, g2⟩ := h3 j o' (by simpa using ho)
      refine ⟨r', by simpa using g1, ?_⟩
      rw [show j0 + (j + 1) = j0 + 1 + j by omega]
      exact g2
/-- A region whose order is drawn, with several changes in a row. -/
theorem AW.drawnN {id : Nat} {tm : List AV} {Qx : XPost} (n1 : Nat) (bms : List Nat) (cs : List (Nat × Mem)) (hbm : masks l [] = bms) (hch : chainB bms cs = true) (hmx : P.follows .mixedOrders = true) (hc : chkD l n1 = true) (hn : Nat.ble n1 l.length = true) (hm : cs.all (fun c => Nat.blt c.1 n1) = true)
    (h : DN P l.toArray E M cs bms 0 (l.take n1) tm (fun tm' => AL P l.toArray (l.drop n1) E tm' (lastOf M cs) (Qx .normal))) : AW P (.region id l.toArray true) E tm M Qx := by
  intro a w Q hs hq
  have hn := Nat.le_of_ble_eq_true hn
  have hm : ∀ c ∈ cs, c.1 < n1 := fun c hcc => by have := Nat.le_of_ble_eq_true (List.all_eq_true.1 hm c hcc); omega
  obtain ⟨rs, h1, h2, h3⟩ := DN.data _ _ _ h
  have htl : (l.take n1).length = n1 := by rw [List.length_take]; omega
  refine wp_region_any hmx ?_
  obtain ⟨hd, Fx, β, hh, ho, hsl⟩ := hs
  have hdrew : ∀ {k : Nat}, ({ w with drawn := w.drawn + 1 } : World).heap[k]? = w.heap[k]? := rfl
  have hbel : Below w.heap.size w { w with drawn := w.drawn + 1 } := by exact (Below.refl w.heap.size w).drew
  obtain ⟨hh', mv⟩ := hh.step hbel
  rw [htl] at h2
  have e0 : memOf (Array.replicate l.toArray.size false) M cs = M := memOf_none (fun q => by
    rw [Array.getD_eq_getD_getElem?, Array.getElem?_replicate]
    split <;> rfl) M cs
  refine wpAny_chgN (E := E) (M := M) (cs := cs) (rs := rs) (tm0 := tm) (chkD_ok hc) hn hm (by rw [hbm]; exact hch) (by rw [h1, htl]) (fun j o hj ho => by
    obtain ⟨r, g1, g2⟩ := h3 j o (by rw [List.getElem?_take, if_pos hj]; exact ho)
    rw [Nat.zero_add, ← hbm] at g2
    exact ⟨r, g1, g2⟩) (fun a' w' hs' => h2 a' w' Q hs' fun tm' M' a2 w2 hx hs2 => hq _ _ _ _ _ hx hs2) _ _ _ _ ⟨by simp, fun j o hj => ?_, fun j hj => ?_, hd, Fx, β, by rw [e0]; exact hh', by rw [e0]; exact ⟨ho.mv.trans mv, Nat.le_trans ho.size hbel.size, ho.lim, ho.own⟩, hsl.1, fun t u hu => ⟨fun i o r hL => ?_, fun _ x hx => by rw [e0]; exact (hsl.2 t x u hx hu).mv mv⟩⟩ ?_
  · simp [Array.getD_eq_getD_getElem?, Array.getElem?_replicate] at hj
    split at hj <;> simp at hj
  · simp [Array.getD_eq_getD_getElem?, Array.getElem?_replicate] at hj
    split at hj <;> simp at hj
  · simp [Array.getD_eq_getD_getElem?, Array.getElem?_replicate] at hL
    split at hL <;> simp at hL
  · unfold cnt
    have := List.countP_le_length (p := fun b => !b) (l := (Array.replicate l.toArray.size false).toList)
    simpa using this
end
section
variable {E : Env} {tm tm' : List AV} {M X : Mem} {cs : List (Nat × Mem)} {bms : List Nat} {j m : Nat} {o : Oper} {ops : Array Oper} {rest : List Oper} {N : List AV → Prop} {r : AV}
theorem S.nil (hg : o.guard = none := by rfl) (h : POp Tryz.prog o E tm M r M := by exact POp.qt) : stepOk Tryz.prog ops o E tm bms j r M [] := by unfold stepOk GOp; rw [hg]; exact h
theorem S.pre (hj : Nat.beq j m = false := by rfl) (hb : (bms.getD m 0).testBit j = true := by rfl) (hg : o.guard = none := by rfl) (h : POp Tryz.prog o E tm M r M := by exact POp.qt) : stepOk Tryz.prog ops o E tm bms j r M ((m, X) :: cs) := .inr ⟨Nat.ne_of_beq_eq_false hj, .inr (by unfold GOp; rw [hg]; exact h), .inl hb⟩
theorem S.on (hN : stepOk Tryz.prog ops o E tm bms j r X cs) (hj : Nat.beq j m = false := by rfl) (hg : o.guard = none := by rfl) (h : POp Tryz.prog o E tm M r M := by exact POp.qt) : stepOk Tryz.prog ops o E tm bms j r M ((m, X) :: cs) := .inr ⟨Nat.ne_of_beq_eq_false hj, .inr (by unfold GOp; rw [hg]; exact h), .inr hN⟩
theorem S.late (hN : stepOk Tryz.prog ops o E tm bms j r X cs) (hj : Nat.beq j m = false := by rfl) (hl : (bms.getD j 0).testBit m = true := by rfl) : stepOk Tryz.prog ops o E tm bms j r M ((m, X) :: cs) := .inr ⟨Nat.ne_of_beq_eq_false hj, .inl hl, .inr hN⟩
theorem S.chg {M' : Mem} (hj : Nat.beq j m = true := by rfl) (hg : o.guard = none := by rfl) (h : POp Tryz.prog o E tm M r M' := by exact POp.mk) (hX : M' = X := by first | rfl | exact nrm) : stepOk Tryz.prog ops o E tm bms j r M ((m, X) :: cs) := .inl ⟨Nat.eq_of_beq_eq_true hj, hg, hX ▸ h⟩
theorem DN.nil (h : N tm) : DN Tryz.prog ops E M cs bms j [] tm N := h
theorem DN.step (h : stepOk Tryz.prog ops o E (msk (o.looksAt ops) tm) bms j r M cs) (hN : DN Tryz.prog ops E M cs bms (j + 1) rest tm' N) (e : dput tm o.dst r = tm' := by exact nrm) : DN Tryz.prog ops E M cs bms j (o :: rest) tm N := by
  subst e
  exact ⟨r, h, hN⟩
theorem AW.drN {l l1 l2 : List Oper} {id : Nat} {Qx : XPost} {Y : Mem} (n1 : Nat) (bms : List Nat) (cs : List (Nat × Mem)) (h : DN Tryz.prog l.toArray E M cs bms 0 l1 tm (fun tm' => AL Tryz.prog l.toArray l2 E tm' Y (Qx .normal))) (hY : lastOf M cs = Y := by rfl) (e1 : l.take n1 = l1 := by exact nrm) (e2 : l.drop n1 = l2 := by exact nrm) (hbm : masks l [] = bms := by kernel_rfl) (hch : chainB bms cs = true := by rfl)
    (hmx : Tryz.prog.follows .mixedOrders = true := by kernel_rfl) (hc : chkD l n1 = true := by kernel_rfl) (hn : Nat.ble n1 l.length = true := by rfl) (hm : cs.all (fun c => Nat.blt c.1 n1) = true := by rfl) : AW Tryz.prog (.region id l.toArray true) E tm M Qx := AW.drawnN n1 bms cs hbm hch hmx hc hn hm (by rw [e1, e2, hY]; exact h)
end

end Go.Proofs.YtacbpfbelcdeiaaGreat.Abs
