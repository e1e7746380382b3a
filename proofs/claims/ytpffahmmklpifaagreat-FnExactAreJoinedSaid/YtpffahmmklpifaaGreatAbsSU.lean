/- Parts of rows of ours, and trees in their cells whose values are named: copied, lent. -/
import Derived.Test.YtpffahmmklpifaaGreatAbsSO
namespace Go.Proofs.YtpffahmmklpifaaGreat.Abs
open Go.RowKit
set_option linter.unusedVariables false
set_option linter.unusedSimpArgs false
section
variable {P : Program} {E : Env} {tm : List AV} {M : Mem} {o : Oper} {w w0 : World} {Fx : Nat → Prop} {β : List Hd} {base : Nat} {G : List (Option Nat)}
theorem elemO {t e : TypeId} (h : P.underlying t = some (.slice e)) : P.elem t = e := by simp [Program.elem, h]
theorem QOp.from_own {x y : Operand} {t e : TypeId} {sz id g i m : Nat} {b : Blk} {k : IntKind} {n : Int} (ho : o.op = .slice t x (some y) none none) (ht : slk P t = some (e, sz)) (hx : evA tm x = some (.own id g)) (hy : sc tm y = some (.int k n)) (hM : M[id]? = some (some b)) (hg : b.gen = g) (hb : b.box = false) (hsz : b.sz = sz)
    (h0 : 0 ≤ n) (h1 : n ≤ (b.es.length : Int)) (hi2 : n.toNat = i) (hm : b.es.length - i = m) : QOp P o tm M (.sub id g sz i m) := fun base w0 a w Fx β hh hs => by
  have hrep := hs.ev hx
  generalize hu : a.eval x = u at hrep
  cases hrep with
  | own h1' hi hgg h =>
    obtain ⟨⟨u, pv⟩, hv, rfl⟩ := h (by rw [← hg]; exact gens_of hM)
    obtain ⟨v, hv', _, h2⟩ := hh.blk _ _ hM
    rw [hv] at hv'
    obtain rfl := Option.some.inj hv'
    rw [hb] at h2
    obtain ⟨xs, hown, _⟩ := h2
    dsimp only at hown hu
    obtain ⟨i0, hi0, hs0⟩ := info_size (slk_inv ht).2
    have hun2 : P.underlying t = some (.slice (P.elem t)) := by rw [elemO (slk_inv ht).1]; exact (slk_inv ht).1
    subst hi2 hm hsz
    rcases hown.2 with ⟨rfl, hn⟩ | ⟨g', cap, cur, rfl, _, _, hnc, hcm, _⟩
    · refine ⟨sliced none n.toNat 0 0 b.sz, fun w' _ => ?_, ?_⟩
      · simp [execOp, ho, hu, hs.sc hy, run_sliceAt_slice w' t _ _ _ _ hun2, run_slice_l w' t none 0 0 hun2 k n h0 (by omega), elemO (slk_inv ht).1, sizeOf, typeInfo, hi0, hs0, Result.andThen]
      · unfold sliced
        rw [hn]
        exact .sub rfl hi hgg fun hG => ⟨_, _, _, hv, rfl, by omega, by omega, fun h => by omega⟩
    · refine ⟨sliced (some ⟨g', 0, none⟩) n.toNat b.es.length cap b.sz, fun w' _ => ?_, ?_⟩
      · simp [execOp, ho, hu, hs.sc hy, run_sliceAt_slice w' t _ _ _ _ hun2, run_slice_l w' t _ b.es.length cap hun2 k n h0 h1, elemO (slk_inv ht).1, sizeOf, typeInfo, hi0, hs0, Result.andThen]
      · unfold sliced
        refine .sub rfl hi hgg fun hG => ⟨_, _, _, hv, rfl, by omega, by unfold maxLen at hcm; omega, fun h => ⟨g', rfl, ?_⟩⟩
        rw [if_neg (by omega), Option.map_some, Addr.add_mid, Nat.zero_add]
theorem QOp.len_sub {x : Operand} {t e : TypeId} {n id g sz i m : Nat} {b : Blk} (ho : o.op = .call { callee := .builtin .len, args := #[x], argTypes := #[t] }) (ht : slk P t = some (e, n)) (hx : evA tm x = some (.sub id g sz i m)) (hM : M[id]? = some (some b)) (hg : b.gen = g) :
    QOp P o tm M (.c (.int .i64 m)) := fun base w0 a w Fx β hh hs => by
  have hrep := hs.ev hx
  generalize hu : a.eval x = u at hrep
  cases hrep with
  | sub h1 hi hgg h =>
    obtain ⟨hd, ad, cap, hv, rfl, _⟩ := h (by rw [← hg]; exact gens_of hM)
    refine ⟨_, fun w' _ => ?_, .c _⟩
    simp [execOp, ho, resolve, invoke, builtin, hu, Builtin.len_, run_underlying (slk_inv ht).1, goInt]
theorem QOp.at_sub {x y : Operand} {t e : TypeId} {sz id g i m q : Nat} {b : Blk} {k : IntKind} {n : Int} (ho : o.op = .indexAddr t x y) (ht : slk P t = some (e, sz)) (hx : evA tm x = some (.sub id g sz i m)) (hy : sc tm y = some (.int k n)) (hM : M[id]? = some (some b)) (hg : b.gen = g)
    (h0 : 0 ≤ n) (hlt : n.toNat < m) (hq : i + n.toNat = q) : QOp P o tm M (.ref id g sz q 0) := fun base w0 a w Fx β hh hs => by
  have hrep := hs.ev hx
  generalize hu : a.eval x = u at hrep
  cases hrep with
  | sub h1 hi hgg h =>
    obtain ⟨hd, ad, cap, hv, rfl, _, _, ha⟩ := h (by rw [← hg]; exact gens_of hM)
    obtain ⟨bk, hbk, rfl⟩ := ha (by omega)
    obtain ⟨i0, hi0, hs0⟩ := info_size (slk_inv ht).2
    refine ⟨.pointer (some ⟨bk, q * sz + 0, none⟩), fun w' _ => ?_, .ref rfl hi hgg fun hG => ⟨_, bk, hv, hbk, rfl⟩⟩
    have h2 : n < (m : Int) := by omega
    have e : (⟨bk, i * sz, none⟩ : Addr).add (n.toNat * sz) = ⟨bk, q * sz, none⟩ := by rw [Addr.add_mid, ← hq, Nat.add_mul]
    simp [execOp, ho, hu, hs.sc hy, Instr.indexAt, asIntOf, run_underlying (slk_inv ht).1, h0, h2, sizeOf, typeInfo, hi0, hs0, e]
theorem View.sub {id g sz i m : Nat} {b : Blk} {es' : List (List AV)} (hM : M[id]? = some (some b)) (hg : b.gen = g) (hb : b.box = false) (hsz : b.sz = sz) (hc : DCl b.es) (him : i + m ≤ b.es.length) (he : undpR ((b.es.drop i).take m) = es') : View M (.sub id g sz i m) (.ro sz es') := he ▸ fun base w0 w Fx β Fc u hh hF hown hr => by
  cases hr with
  | sub ho1 hi hg1 h =>
    obtain ⟨v, ad, cap, hvv, rfl, hmc, hm, ha⟩ := h (by rw [← hg]; exact gens_of hM)
    obtain ⟨v', hv', hok⟩ := hh.blk id b hM
    rw [hvv] at hv'
    obtain rfl := Option.some.inj hv'
    have hR := (hok.tree hb hc).rep (Fc := Fc) fun k hk => hown id b v k hM hvv hk
    have hlen : (undpR ((b.es.drop i).take m)).length = m := by rw [undpR_length, List.length_take, List.length_drop]; omega
    subst hsz
    obtain ⟨_, h2⟩ := hok
    rw [hb] at h2
    obtain ⟨xs, hown', _⟩ := h2
    have get : ∀ {q : Nat} {r : List AV}, (undpR ((b.es.drop i).take m))[q]? = some r → q < m ∧ (undpR b.es)[q + i]? = some r := fun {q r} hq => by
      have hlt : q < m := by rw [← hlen]; exact (List.getElem?_eq_some_iff.1 hq).1
      refine ⟨hlt, ?_⟩
      unfold undpR at hq ⊢
      rw [List.getElem?_map, List.getElem?_take, if_pos hlt, List.getElem?_drop] at hq
      rw [List.getElem?_map, Nat.add_comm q i]
      exact hq
    generalize hvd : v.v = vv at hR ha hown'
    cases hR with
    | @ro _ _ A cap' f hc' hm' hA hl h1c h =>
      have : Rep w Fc [] [] (.ro b.sz (undpR ((b.es.drop i).take m))) (.slice ad (undpR ((b.es.drop i).take m)).length cap) := by
        refine .ro (fun q j => f (q + i) j) (by rw [hlen]; exact hmc) (by rw [hlen]; exact hm) (fun hp => ?_) (fun q r hq => hl (q + i) r (get hq).2) (fun q j => h1c _ _) (fun q r j z hq hz => h (q + i) r j z (get hq).2 hz)
        rw [hlen] at hp
        obtain ⟨bk, hbk, rfl⟩ := ha hp
        obtain ⟨ad0, e0, hF0, hcell⟩ := hA (by rw [undpR_length]; omega)
        rcases hown'.2 with ⟨e, _⟩ | ⟨g', cap2, cur, e, _⟩
        · simp only [Value.slice.injEq] at e
          rw [e0] at e
          cases e.1
        · simp only [Value.slice.injEq] at e
          rw [e0] at e
          cases e.1
          rw [e0] at hbk
          simp [blockOf] at hbk
          subst hbk
          refine ⟨_, rfl, hF0, fun q r j hq hj => ?_⟩
          have := hcell (q + i) r j (get hq).2 hj
          rw [Addr.add_mid, Nat.zero_add] at this
          rw [Addr.add_mid, show i * b.sz + (q * b.sz + j) = (q + i) * b.sz + j by rw [Nat.add_mul]; omega]
          exact this
      rwa [hlen] at this
theorem View.is {id i j : Nat} {b : Blk} {r : List AV} {u : Value} {x : AV} (hM : M[id]? = some (some b)) (hr : b.es[i]? = some r) (hx : r[j]? = some (.dp (.is u x))) : View M (.c u) x := fun base w0 w Fx β Fc u' hh hF hown hrep => by
  cases hrep
  obtain ⟨v, hv, hok⟩ := hh.blk id b hM
  obtain ⟨xs, hcd, _⟩ := hok.open
  obtain ⟨_, _, pc, h3, _, h5⟩ := hcd
  obtain ⟨u', _, hD⟩ := h5 i r j _ hr hx
  cases hD with
  | is h => exact h.rep fun k hk => hown id b v k hM hv (.inr (h3 i j k hk).1)
theorem CellsD.takeU {pv : Nat → Prop} {hb : Option Nat} {sz : Nat} {es : List (List AV)} {xs : List Value} (h : CellsD w Fx β G pv hb sz es xs) (i : Nat) (hi : i ≤ es.length) : CellsD w Fx β G pv hb sz (es.take i) (xs.take (i * sz)) := by
  obtain ⟨h1, h2, pc, h3, h4, h5⟩ := h
  have hl : (es.take i).length = i := by rw [List.length_take]; omega
  have hm := Nat.mul_le_mul_right sz hi
  have get : ∀ {q : Nat} {r : List AV}, (es.take i)[q]? = some r → q < i ∧ es[q]? = some r := fun {q r} hq => by
    rw [List.getElem?_take] at hq
    split at hq
    · exact ⟨by assumption, hq⟩
    · cases hq
  have cell : ∀ {q j : Nat} {r : List AV} {x : AV}, (es.take i)[q]? = some r → r[j]? = some x → (xs.take (i * sz))[q * sz + j]? = xs[q * sz + j]? := fun {q j r x} hq hx => by
    obtain ⟨hlt, hq⟩ := get hq
    have hj : j < sz := by rw [← (h2 q r hq).1]; exact (List.getElem?_eq_some_iff.1 hx).1
    have := Nat.mul_le_mul_right sz (show q + 1 ≤ i from hlt)
    rw [Nat.add_mul, Nat.one_mul] at this
    rw [List.getElem?_take, if_pos (by omega)]
  refine ⟨by rw [List.length_take, hl, h1]; omega, fun q r hq => ⟨(h2 q r (get hq).2).1, fun j x hx => ?_⟩, pc, h3, h4, fun q r j d hq hx => ?_⟩
  · obtain ⟨u, hu, ho, hR⟩ := (h2 q r (get hq).2).2 j x hx
    exact ⟨u, (cell hq hx).trans hu, ho, hR⟩
  · obtain ⟨u, hu, hR⟩ := h5 q r j d (get hq).2 hx
    exact ⟨u, (cell hq hx).trans hu, hR⟩
theorem HS.inplace (h : HS base w0 w Fx β M) {id : Nat} {b : Blk} (hM : M[id]? = some (some b)) (hb : b.box = false) {v : Hd} (hv : β[id]? = some v) {w' : World} (hg : w.grownBy w' v.v.ownBlock) {es : List (List AV)} {xs : List Value}
    (ho : w'.ownsRow base b.ty b.sz v.v es.length xs) (hc : CellsD w Fx β (gens M) v.pv (blockOf v.v) b.sz es xs) :
    HS base w0 w' Fx β (M.set id (some { b with es := es })) ∧ Nx w Fx β M w' Fx β (M.set id (some { b with es := es })) := by
  have hid : id < M.length := (List.getElem?_eq_some_iff.1 hM).1
  obtain ⟨v2, hv2, hok⟩ := h.blk id b hM
  rw [hv] at hv2
  obtain rfl := Option.some.inj hv2
  have hob : blockOf v.v = v.v.ownBlock := by
    have h2 := hok.2
    rw [hb] at h2
    obtain ⟨ys, hoy, _⟩ := h2
    exact own_blockOf hoy
  have oldM : ∀ {i : Nat} {b1 : Blk}, (M.set id (some { b with es := es }))[i]? = some (some b1) → (i = id ∧ b1 = { b with es := es }) ∨ (i ≠ id ∧ M[i]? = some (some b1)) := by
    intro i b1 h1
    rw [List.getElem?_set] at h1
    by_cases e : id = i
    · subst e
      rw [if_pos rfl, if_pos hid] at h1
      simp at h1
      exact .inl ⟨rfl, h1.symm⟩
    · rw [if_neg e] at h1
      exact .inr ⟨fun h => e h.symm, h1⟩
  have oldM' : ∀ {i : Nat} {b1 : Blk}, (M.set id (some { b with es := es }))[i]? = some (some b1) → ∃ b2, M[i]? = some (some b2) := fun h1 => by
    rcases oldM h1 with ⟨rfl, _⟩ | ⟨_, h0⟩
    · exact ⟨b, hM⟩
    · exact ⟨_, h0⟩
  have other : ∀ {i : Nat} {b1 : Blk} {v1 : Hd} {k : Nat}, i ≠ id → M[i]? = some (some b1) → β[i]? = some v1 → v1.has k → w'.heap[k]? = w.heap[k]? := by
    intro i b1 v1 k hne h1 h2 h3
    obtain ⟨v3, hv3, hok3⟩ := h.blk i b1 h1
    rw [h2] at hv3
    obtain rfl := Option.some.inj hv3
    refine hg.block k (hok3.1 k h3).2.1 (fun e => ?_)
    exact h.inj i id b1 b v1 v k hne h1 hM h2 hv h3 (.inl (by rw [hob, ← e]))
  have fixd : ∀ k, Fx k → w'.heap[k]? = w.heap[k]? := fun k hF => hg.block k (h.fx k hF) (fun e => (hok.1 k (.inl (by rw [hob, ← e]))).2.2 hF)
  have hG : gens (M.set id (some { b with es := es })) = gens M := by
    refine List.ext_getElem? fun i => ?_
    unfold gens
    rw [List.getElem?_map, List.getElem?_map, List.getElem?_set]
    by_cases e : id = i
    · subst e; rw [if_pos rfl, if_pos hid, hM]; rfl
    · rw [if_neg e]
  have m : Mv w Fx β (gens M) w' Fx β (gens (M.set id (some { b with es := es }))) := ⟨fun _ h => h, fixd, by rw [hG]; exact Nat.le_refl _, fun i g' hi hg' => ⟨g', by rw [hG] at hg'; exact hg', Nat.le_refl _, fun _ => rfl⟩⟩
  refine ⟨⟨h.bel.grown hg h.bs (fun k hk' => (hok.1 k (.inl (by rw [hob, hk']))).1), Nat.le_trans h.bs hg.size, fun k hF => Nat.lt_of_lt_of_le (h.fx k hF) hg.size, by simp [h.len], fun i b1 h1 => ?_, fun i1 i2 b1 b2 v1 v2 k hne h1 h2 hv1 hv2 hk1 hk2 => ?_⟩, m, hg.size, fun k hk => .inl hk, fun i b1 v1 k g1 g2 g3 => ?_⟩
  · rcases oldM h1 with ⟨rfl, rfl⟩ | ⟨hne, h0⟩
    · refine ⟨v, hv, fun k hk' => ⟨(hok.1 k hk').1, Nat.lt_of_lt_of_le (hok.1 k hk').2.1 hg.size, (hok.1 k hk').2.2⟩, ?_⟩
      have hbf : ¬ (b.box = true) := by rw [hb]; decide
      show if b.box = true then _ else _
      rw [if_neg hbf]
      exact ⟨xs, ho, hc.mv m (fun k hp hn => hg.block k (hok.1 k (.inr hp)).2.1 (fun e => hn (by rw [hob, ← e])))⟩
    · obtain ⟨v1, hv1, hok1⟩ := h.blk i b1 h0
      exact ⟨v1, hv1, hok1.mv m hg.size (fun k hk' => other hne h0 hv1 hk') (fun k hk' => (hok1.1 k hk').2.2)⟩
  · obtain ⟨c1, h1⟩ := oldM' h1
    obtain ⟨c2, h2⟩ := oldM' h2
    exact h.inj i1 i2 c1 c2 v1 v2 k hne h1 h2 hv1 hv2 hk1 hk2
  · obtain ⟨c1, h1⟩ := oldM' g1
    exact .inr ⟨i, c1, v1, h1, g2, g3⟩
theorem zeroCells_toList {z : Value} {sz : Nat} (hz : z.cells.size = sz) (m : Nat) : (Builtin.zeroCells z.cells m).toList.length = m * sz ∧ ∀ i j, i < m → j < sz → (Builtin.zeroCells z.cells m).toList[i * sz + j]? = z.cells.toList[j]? := by
  subst hz
  refine ⟨by simp [Builtin.zeroCells], fun i j hi hj => ?_⟩
  have h1 : i * z.cells.size + j < m * z.cells.size := by
    have := Nat.mul_le_mul_right z.cells.size (show i + 1 ≤ m from hi)
    rw [Nat.add_mul, Nat.one_mul] at this
    omega
  have h2 : (i * z.cells.size + j) % z.cells.size = j := by rw [Nat.add_comm, Nat.add_mul_mod_self_right, Nat.mod_eq_of_lt hj]
  simp only [Builtin.zeroCells, Array.toList_map, Array.toList_range, List.getElem?_map, List.getElem?_range h1, Option.map_some, h2, Array.getElem?_toList, Array.getElem?_eq_getElem hj, getElem!_pos z.cells j hj]
theorem POp.clear_tail {x : Operand} {t e : TypeId} {sz bytes id g i m : Nat} {zs : List Value} {b : Blk} (ho : o.op = .call { callee := .builtin .clear, args := #[x], argTypes := #[t] }) (hr : rwk P t = some (e, sz, bytes, zs)) (hx : evA tm x = some (.sub id g sz i m)) (hM : M[id]? = some (some b)) (hg : b.gen = g) (hb : b.box = false) (hty : b.ty = e) (hbs : b.sz = sz)
    (him : i + m = b.es.length) : POp P o E tm M (.tup []) (M.set id (some { b with es := b.es.take i ++ List.replicate m (zs.map .c) })) := by
  obtain ⟨i0, z, h1, h2, h3, h4, h5, h6, h7, h8, h9⟩ := rwk_inv hr
  intro a w K Q Fx β hh hsl hk
  have hrx := hsl.ev hx
  generalize hu0 : a.eval x = u at hrx
  cases hrx with
  | sub ho1 hi hgg h =>
    obtain ⟨hd, ad, cap, hvv, rfl, hmc, _, ha⟩ := h (by rw [← hg]; exact gens_of hM)
    obtain ⟨v2, hv2, hok⟩ := hh.blk id b hM
    rw [hvv] at hv2
    obtain rfl := Option.some.inj hv2
    obtain ⟨_, hok2⟩ := hok
    rw [hb] at hok2
    obtain ⟨xs, hown, hc⟩ := hok2
    subst hty hbs
    have hzl := zeroCells_toList (z := z) h6 m
    have hone : ∀ v ∈ (Builtin.zeroCells z.cells m).toList, v.oneCell' = true := fun v hv => by
      simp only [Builtin.zeroCells, Array.toList_map, Array.toList_range, List.mem_map, List.mem_range] at hv
      obtain ⟨q, _, rfl⟩ := hv
      have hq : q % z.cells.size < z.cells.size := Nat.mod_lt _ (by rw [h6]; exact h9)
      rw [getElem!_pos z.cells _ hq]
      exact h8 _ (by rw [← h7]; simp)
    have hlen : (b.es.take i ++ List.replicate m (zs.map AV.c)).length = b.es.length := by simp; omega
    have hcz : CellsRep w Fx β (gens M) b.sz (List.replicate m (zs.map AV.c)) (Builtin.zeroCells z.cells m).toList := by
      refine ⟨by rw [hzl.1, List.length_replicate], fun q r hq => ?_⟩
      rw [List.getElem?_replicate] at hq
      split at hq
      · rename_i hlt
        obtain rfl := Option.some.inj hq
        refine ⟨by rw [List.length_map, ← h7, Array.length_toList, h6], fun j x hx => ?_⟩
        rw [List.getElem?_map] at hx
        cases hz : zs[j]? with
        | none => rw [hz] at hx; cases hx
        | some y =>
          rw [hz] at hx
          obtain rfl := Option.some.inj hx
          have hj : j < b.sz := by rw [← h6, ← Array.length_toList, h7]; exact (List.getElem?_eq_some_iff.1 hz).1
          exact ⟨y, by rw [hzl.2 q j hlt hj, h7, hz], h8 y (List.mem_of_getElem? hz), .c _⟩
      · cases hq
    have hc' := (hc.takeU i (by omega)).append hcz
    have fin : ∀ w', (Builtin.clear_ #[t] o.type #[.slice ad m cap]).run P w = .ok (.tuple #[]) w' → w.grownBy w' hd.v.ownBlock → w'.ownsRow E.base b.ty b.sz hd.v b.es.length (xs.take (i * b.sz) ++ (Builtin.zeroCells z.cells m).toList) → o.wp P a w K Q := fun w' hrun hgr ho' => by
      obtain ⟨hh', hx'⟩ := hh.inplace hM hb hvv hgr (by rw [hlen]; exact ho') hc'
      unfold Oper.wp
      have e : (execOp a.eval o).run P w = .ok (.value (.tuple #[])) w' := by simp [execOp, ho, resolve, invoke, builtin, hu0, hrun]
      rw [e, Oper.upon_value]
      exact hk _ _ _ _ hh' hx' (Rep.tup (us := []) rfl (fun i x u h => by simp at h))
    rcases Nat.eq_zero_or_pos m with h0 | hpos
    · subst h0
      have e1 : xs.take (i * b.sz) ++ (Builtin.zeroCells z.cells 0).toList = xs := by
        have : (Builtin.zeroCells z.cells 0).toList = [] := List.eq_nil_of_length_eq_zero (by rw [hzl.1]; simp)
        rw [this, List.append_nil]
        exact List.take_of_length_le (by rw [hc.len]; exact Nat.le_of_eq (by rw [← him, Nat.add_zero]))
      refine fin w ?_ ⟨rfl, rfl, rfl, Nat.le_refl _, fun _ _ _ => rfl⟩ (by rw [e1]; exact hown)
      cases ad <;> simp [Builtin.clear_, run_underlying h1]
    · obtain ⟨bk, hbk, rfl⟩ := ha hpos
      rcases hown.2 with ⟨e0, hn⟩ | ⟨g', cap', cur, e0, hb', hkk, hnc, hcm, hcs, htake⟩
      · omega
      · rw [e0] at hbk
        simp [blockOf] at hbk
        subst hbk
        have hz : ∀ w, (zeroValue b.ty).run P w = .ok z w := fun w => by simp [zeroValue, typeInfo, h2, h3]
        have hnn : (i + m) * b.sz ≤ cap' * b.sz := Nat.mul_le_mul_right _ (by omega)
        rw [Nat.add_mul] at hnn
        have hst := run_storeCells_at (P := P) g' (i * b.sz) b.ty (Builtin.zeroCells z.cells m).toList 0 cur w hkk (by rw [hzl.1, Nat.add_zero, hcs]; exact hnn) hone
        obtain ⟨m', rfl⟩ : ∃ m', m = m' + 1 := ⟨m - 1, by omega⟩
        simp only [Nat.add_zero] at hst
        obtain ⟨W, hW⟩ : ∃ W, W = w.setRow g' (cur.toList.take (i * b.sz) ++ (Builtin.zeroCells z.cells (m' + 1)).toList ++ cur.toList.drop (i * b.sz + (Builtin.zeroCells z.cells (m' + 1)).toList.length)).toArray := ⟨_, rfl⟩
        rw [← hW] at hst
        refine fin W (by simp [Builtin.clear_, run_underlying h1, hz, hst]) ?_ ?_ <;> subst hW
        refine ⟨rfl, rfl, rfl, by simp, fun k hk hne => setRow_other _ _ _ _ fun e => hne (by rw [e0, e]; rfl)⟩
        refine ⟨?_, .inr ⟨g', cap', _, e0, hb', setRow_heap w g' cur _ b.ty _ hkk, hnc, hcm, ?_, ?_⟩⟩
        · rw [List.length_append, hzl.1, List.length_take, hc.len, ← him, Nat.add_mul]; omega
        · rw [List.size_toArray, List.length_append, List.length_append, List.length_take, List.length_drop, hzl.1, Array.length_toList, hcs]; omega
        · have ht : cur.toList.take (i * b.sz) = xs.take (i * b.sz) := by
            rw [← htake, List.take_take, Nat.min_eq_left]
            exact Nat.mul_le_mul_right _ (by omega)
          rw [ht]
          refine List.take_left' ?_
          rw [List.length_append, hzl.1, List.length_take, hc.len, ← him, Nat.add_mul]; omega
theorem POp.cutGive {x y : Operand} {t e : TypeId} {sz id g : Nat} {b : Blk} {k : IntKind} {n : Int} {es2 : List (List AV)} (ho : o.op = .slice t x none (some y) none) (ht : slk P t = some (e, sz)) (hx : evA tm x = some (.own id g)) (hy : sc tm y = some (.int k n)) (hM : M[id]? = some (some b)) (hg : b.gen = g) (hb : b.box = false) (hsz : b.sz = sz)
    (h0 : 0 ≤ n) (h1 : n ≤ (b.es.length : Int)) (he : b.es.take n.toNat = es2) : POp P o E tm M (.own id (g + 1)) (M.set id (some { b with es := es2, gen := b.gen + 1 })) := by
  subst he
  intro a w K Q Fx β hh hs hk
  have hrep := hs.ev hx
  generalize hu : a.eval x = u at hrep
  cases hrep with
  | own h1' hi hgg h =>
    obtain ⟨⟨u, pv⟩, hv, rfl⟩ := h (by rw [← hg]; exact gens_of hM)
    obtain ⟨v, hv', _, h2⟩ := hh.blk _ _ hM
    rw [hv] at hv'
    obtain rfl := Option.some.inj hv'
    rw [hb] at h2
    obtain ⟨xs, hown, hc⟩ := h2
    dsimp only at hown hu
    obtain ⟨i0, hi0, hs0⟩ := info_size (slk_inv ht).2
    have hun2 : P.underlying t = some (.slice (P.elem t)) := by rw [elemO (slk_inv ht).1]; exact (slk_inv ht).1
    subst hsz
    have hlen : (b.es.take n.toNat).length = n.toNat := by rw [List.length_take]; omega
    have hid : id < M.length := (List.getElem?_eq_some_iff.1 hM).1
    have fin : ∀ v', (∀ w' : World, (execOp a.eval o).run P w' = .ok (.value v') w') → w.ownsRow E.base b.ty b.sz v' n.toNat (xs.take (n.toNat * b.sz)) → (∀ k, blockOf v' = some k → blockOf u = some k) → o.wp P a w K Q := fun v' hrun ho' hfr => by
      obtain ⟨hh', hx'⟩ := hh.regrow hM hb hv (v' := v') ⟨rfl, rfl, rfl, Nat.le_refl _, fun _ _ _ => rfl⟩ (es := b.es.take n.toNat) (by rw [hlen]; exact ho') (fun k hk => .inl (hfr k hk)) (hc.takeU n.toNat (by omega))
      unfold Oper.wp
      rw [hrun w, Oper.upon_value]
      refine hk _ _ _ _ hh' hx' (.own ?_ (by simp [gens, hid]) (fun g1 hg1 => ?_) (fun _ => ?_))
      · rcases ho'.2 with ⟨rfl, _⟩ | ⟨g', cap, cur, rfl, _⟩ <;> rfl
      · have := gens_of (M := M.set id (some { b with es := b.es.take n.toNat, gen := b.gen + 1 })) (id := id) (b := { b with es := b.es.take n.toNat, gen := b.gen + 1 }) (by rw [List.getElem?_set, if_pos rfl, if_pos hid])
        rw [this] at hg1
        simp at hg1
        omega
      · exact ⟨_, by rw [List.getElem?_set, if_pos rfl, if_pos (by rw [hh.len]; exact hid)], rfl⟩
    rcases hown.2 with ⟨rfl, hn⟩ | ⟨g', cap, cur, rfl, hbg, hkk, hnc, hcm, hcs, htake⟩
    · have e0 : n.toNat = 0 := by omega
      refine fin (.slice none 0 0) (fun w' => ?_) ?_ (fun k hk => by cases hk)
      · have hn0 : n = 0 := by omega
        subst hn0
        simp [execOp, ho, hu, hs.sc hy, run_sliceAt_slice w' t _ _ _ _ hun2, run_slice_h w' t none 0 0 hun2 k 0 h0 (by omega), elemO (slk_inv ht).1, sizeOf, typeInfo, hi0, hs0, Result.andThen, sliced]
      · rw [e0, Nat.zero_mul, List.take_zero]
        exact World.ownsRow_nil _ _ _ _
    · refine fin (.slice (some ⟨g', 0, none⟩) n.toNat cap) (fun w' => ?_) ?_ (fun k hk => hk)
      · have e1 : sliced (some ⟨g', 0, none⟩) 0 n.toNat cap b.sz = .slice (some ⟨g', 0, none⟩) n.toNat cap := by
          unfold sliced
          rw [Nat.zero_mul]
          split <;> simp [Addr.add]
        rw [← e1]
        simp [execOp, ho, hu, hs.sc hy, run_sliceAt_slice w' t _ _ _ _ hun2, run_slice_h w' t _ b.es.length cap hun2 k n h0 (by omega), elemO (slk_inv ht).1, sizeOf, typeInfo, hi0, hs0, Result.andThen]
      · have hmm : n.toNat * b.sz ≤ b.es.length * b.sz := Nat.mul_le_mul_right _ (by omega)
        refine ⟨by rw [List.length_take, hc.len]; omega, .inr ⟨g', cap, cur, rfl, hbg, hkk, by omega, hcm, hcs, ?_⟩⟩
        rw [← htake, List.take_take, Nat.min_eq_left hmm]
end
end Go.Proofs.YtpffahmmklpifaaGreat.Abs
