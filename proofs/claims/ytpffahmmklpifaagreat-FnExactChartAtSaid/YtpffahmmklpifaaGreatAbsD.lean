/- Memory: loads, new variables, stores, calls and results, over abstract states. -/
import Derived.Test.YtpffahmmklpifaaGreatAbsC
import Derived.Laws.NewBlocks
namespace Go.Proofs.YtpffahmmklpifaaGreat.Abs
open Go.RowKit
set_option linter.unusedVariables false
set_option linter.unusedSimpArgs false

theorem list_of {α : Type} (n : Nat) (Q : Nat → α → Prop) (h : ∀ i, i < n → ∃ a, Q i a) : ∃ l : List α, l.length = n ∧ ∀ (i : Nat) a, l[i]? = some a → Q i a := by
 induction n with
 | zero => exact ⟨[], rfl, fun i a h => by simp at h⟩
 | succ n ih =>
  obtain ⟨l, hl, hq⟩ := ih (fun i hi => h i (by omega))
  obtain ⟨a, ha⟩ := h n (by omega)
  refine ⟨l ++ [a], by simp [hl], fun i b hb => ?_⟩
  rcases Nat.lt_or_ge i l.length with hi | hi
  · rw [List.getElem?_append_left hi] at hb; exact hq i b hb
  · rw [List.getElem?_append_right hi] at hb
    have e : i - l.length = 0 := by
     rcases Nat.eq_zero_or_pos (i - l.length) with e | e
     · exact e
     · rw [List.getElem?_eq_none (by simp; omega)] at hb; cases hb
    rw [e] at hb
    simp at hb
    subst hb
    have : i = n := by omega
    subst this
    exact ha

theorem info_size {P : Program} {t : TypeId} {n : Nat} (h : (P.info? t).map (·.size) = some n) : ∃ i, P.info? t = some i ∧ i.size = n := by
 cases hq : P.info? t with
 | none => rw [hq] at h; simp at h
 | some i => rw [hq] at h; exact ⟨i, rfl, by simpa using h⟩

section
variable {P : Program} {E : Env} {tm : List AV} {M : Mem} {o : Oper} {w w0 : World} {Fx : Nat → Prop} {β : List Hd} {base : Nat}
theorem HS.cell (h : HS base w0 w Fx β M) {id : Nat} {b : Blk} (hM : M[id]? = some (some b)) {i j : Nat} {r : List AV} {x : AV} (hr : b.es[i]? = some r) (hx : r[j]? = some x) :
 ∃ v k u, β[id]? = some v ∧ blockOf v.v = some k ∧ k < w.heap.size ∧ w.cell? ⟨k, i * b.sz + j, none⟩ = some u ∧ w.frozen? ⟨k, i * b.sz + j, none⟩ = false ∧ u.oneCell' = true ∧ CRep w Fx β (gens M) x u := by
 obtain ⟨⟨v, pv⟩, hv, h1, h2⟩ := h.blk id b hM
 cases hb : b.box with
 | true =>
  rw [hb] at h2
  obtain ⟨k, xs, hvk, hk, hl, hc⟩ := h2
  obtain rfl : v = _ := hvk
  obtain ⟨u, hu, ho, hR⟩ := (hc.cel i r hr).2 j x hx
  refine ⟨_, k, u, hv, rfl, (h1 k (.inl rfl)).2.1, ?_, ?_, ho, hR⟩
  · rw [cell_of_row w k _ xs b.ty (0, 0) hk]
    simpa using hu
  · simp [World.frozen?, hk]
 | false =>
  rw [hb] at h2
  obtain ⟨xs, ⟨hx1, ho⟩, hc⟩ := h2
  obtain ⟨u, hu, ho1, hR⟩ := (hc.cel i r hr).2 j x hx
  rcases ho with ⟨hv0, hn⟩ | ⟨k, cap, cur, hv0, hg, hk, hcap, hm, hsz, htake⟩ <;> obtain rfl : v = _ := hv0
  · have : i < b.es.length := (List.getElem?_eq_some_iff.1 hr).1
    omega
  · refine ⟨_, k, u, hv, rfl, (h1 k (.inl rfl)).2.1, ?_, ?_, ho1, hR⟩
    · rw [cell_of_row w k _ cur b.ty (0, 0) hk]
      have hlt : i * b.sz + j < xs.length := (List.getElem?_eq_some_iff.1 hu).1
      rw [← htake, List.getElem?_take] at hu
      split at hu
      · simpa using hu
      · cases hu
    · simp [World.frozen?, hk]
theorem cell_stays {w' : World} {k q : Nat} {u : Value} (hw : ∀ k, k < w.heap.size → w'.heap[k]? = w.heap[k]?) (hk : k < w.heap.size) (h : w.cell? ⟨k, q, none⟩ = some u) : w'.cell? ⟨k, q, none⟩ = some u :=
 (World.cell?_of_block (w := w) (a := ⟨k, q, none⟩) (hw k hk)).trans h

theorem QOp.load_ref {x : Operand} {id g sz i j n : Nat} {b : Blk} {t : TypeId} {r : List AV} {d : TypeDesc} (ho : o.op = .load t x) (hx : evA tm x = some (.ref id g sz i j)) (hM : M[id]? = some (some b)) (hg : b.gen = g) (hb : b.sz = sz)
 (hr : b.es[i]? = some r) (hu : P.underlying t = some d) (hd : d.isRow = true) (hn : (P.info? t).map (·.size) = some n) (hj : j + n ≤ r.length) (hnd : ((r.drop j).take n).all nodp = true) : QOp P o tm M (.agg ((r.drop j).take n)) :=
 fun base w0 a w Fx β hh hs => by
  have hrep := hs.ev hx
  generalize hu' : a.eval x = u at hrep
  cases hrep with
  | ref h1 hi hgg h =>
   obtain ⟨v, k, hv, hk, rfl⟩ := h (by rw [← hg]; exact gens_of hM)
   subst hb
   obtain ⟨us, hul, huq⟩ := list_of n (fun q (u : Value) => w.cell? ⟨k, i * b.sz + (j + q), none⟩ = some u ∧ u.oneCell' = true ∧ ∀ y, r[j + q]? = some y → CRep w Fx β (gens M) y u) (fun q hq => by
    have hlt : j + q < r.length := by omega
    obtain ⟨v', k', u, hv', hk', _, hc, _, h1, hR⟩ := hh.cell hM hr (List.getElem?_eq_getElem hlt)
    rw [hv] at hv'
    obtain rfl := Option.some.inj hv'
    rw [hk] at hk'
    obtain rfl := Option.some.inj hk'
    refine ⟨u, hc, h1, fun y hy => ?_⟩
    rw [List.getElem?_eq_getElem hlt] at hy
    obtain rfl := Option.some.inj hy
    exact hR)
   have hkl : k < w.heap.size := by
    obtain ⟨v', hv', hok⟩ := hh.blk id b hM
    rw [hv] at hv'
    obtain rfl := Option.some.inj hv'
    exact (hok.1 k (.inl hk)).2.1
   refine ⟨.agg us.toArray, fun w' hw => ?_, ?_⟩
   · have := run_loadAt_mid (P := P) w' k (i * b.sz + j) t us d (fun q u hq => by
      rw [Nat.add_assoc]
      exact cell_stays hw hkl (huq q u hq).1) hu hd (by rw [hul]; exact hn)
     simp [execOp, ho, hu', this]
   · refine Rep.agg (by simp [hul]; omega) (fun u hmem => ?_) (fun q y u hy hq => ?_)
     · obtain ⟨q, hq⟩ := List.getElem?_of_mem hmem
       exact (huq q u hq).2.1
     · have hq2 : q < n := by rw [← hul]; exact (List.getElem?_eq_some_iff.1 hq).1
       have hmem := List.all_eq_true.1 hnd y (List.mem_of_getElem? hy)
       rw [List.getElem?_take, if_pos hq2, List.getElem?_drop] at hy
       exact (huq q u hq).2.2 y hy hmem
theorem run_load_one {P : Program} {w' : World} {t : TypeId} {d : TypeDesc} {ad : Addr} {u : Value} (hu : P.underlying t = some d) (hd : d.isRow = false) (hc : w'.cell? ad = some u) : (Instr.loadAt t (.pointer (some ad))).run P w' = .ok u w' := by
 have hagg : (isAgg t).run P w' = .ok false w' := by
  unfold isAgg
  rw [Sem.run_bind, run_underlying hu w']
  cases d <;> simp_all
 simp [Instr.loadAt, Instr.sureAddr, loadVar, Sem.run_bind, hagg, hc]
theorem QOp.load_ref1 {x : Operand} {id g sz i j : Nat} {b : Blk} {t : TypeId} {r : List AV} {d : TypeDesc} {y : AV} (ho : o.op = .load t x) (hx : evA tm x = some (.ref id g sz i j)) (hM : M[id]? = some (some b)) (hg : b.gen = g) (hb : b.sz = sz)
 (hr : b.es[i]? = some r) (hu : P.underlying t = some d) (hd : d.isRow = false) (hy : r[j]? = some y) (hnd : nodp y = true) : QOp P o tm M y :=
 fun base w0 a w Fx β hh hs => by
  have hrep := hs.ev hx
  generalize hu' : a.eval x = u at hrep
  cases hrep with
  | ref h1 hi hgg h =>
   obtain ⟨v, k, hv, hk, rfl⟩ := h (by rw [← hg]; exact gens_of hM)
   subst hb
   obtain ⟨v', k', u, hv', hk', hkl, hc, _, h1, hR⟩ := hh.cell hM hr hy
   rw [hv] at hv'
   obtain rfl := Option.some.inj hv'
   rw [hk] at hk'
   obtain rfl := Option.some.inj hk'
   refine ⟨u, fun w' hw => ?_, hR hnd⟩
   simp [execOp, ho, hu', run_load_one hu hd (cell_stays hw hkl hc)]
theorem QOp.load_ro1 {x : Operand} {sz i j : Nat} {es : List (List AV)} {t : TypeId} {r : List AV} {d : TypeDesc} {y : AV} (ho : o.op = .load t x) (hx : evA tm x = some (.rop sz es i j)) (hr : es[i]? = some r) (hu : P.underlying t = some d) (hd : d.isRow = false) (hy : r[j]? = some y) : QOp P o tm M y :=
 fun base w0 a w Fx β hh hs => by
  have hrep := hs.ev hx
  generalize hu' : a.eval x = u at hrep
  cases hrep with
  | @rop _ _ ad _ _ r' f hr' hl hj0 hF hA h1 h =>
   rw [hr] at hr'
   obtain rfl := Option.some.inj hr'
   refine ⟨f j, fun w' hw => ?_, h j y hy⟩
   have hc : w'.cell? (ad.add (i * sz + j)) = some (f j) := (World.cell?_of_block (w := w) (by rw [block_add]; exact hw _ (hh.fx _ hF))).trans (hA j hj0)
   simp [execOp, ho, hu', run_load_one hu hd hc]
theorem QOp.load_ro {x : Operand} {sz i j n : Nat} {es : List (List AV)} {t : TypeId} {r : List AV} {d : TypeDesc} (ho : o.op = .load t x) (hx : evA tm x = some (.rop sz es i j)) (hr : es[i]? = some r) (hu : P.underlying t = some d) (hd : d.isRow = true) (hn : (P.info? t).map (·.size) = some n) (hj : j + n ≤ sz) : QOp P o tm M (.agg ((r.drop j).take n)) :=
 fun base w0 a w Fx β hh hs => by
  have hrep := hs.ev hx
  generalize hu' : a.eval x = u at hrep
  cases hrep with
  | @rop _ _ ad _ _ r' f hr' hl hj0 hF hA h1 h =>
   rw [hr] at hr'
   obtain rfl := Option.some.inj hr'
   obtain ⟨i0, hi0, hs0⟩ := info_size hn
   refine ⟨.agg ((List.range n).map fun q => f (j + q)).toArray, fun w' hw => ?_, ?_⟩
   · have hl : (loadCells (ad.add (i * sz + j)) ((List.range n).map fun q => f (j + q)).length).run P w' = .ok ((List.range n).map fun q => f (j + q)).toArray w' :=
      run_loadCells_list (P := P) w' _ _ (fun q v hq => by
       have hq2 : q < n := by have := (List.getElem?_eq_some_iff.1 hq).1; simpa using this
       rw [add_add_, Nat.add_assoc]
       rw [List.getElem?_map, List.getElem?_range hq2] at hq
       obtain rfl := Option.some.inj hq
       exact (World.cell?_of_block (w := w) (by rw [block_add]; exact hw _ (hh.fx _ hF))).trans (hA (j + q) (by omega)))
     have hagg : (isAgg t).run P w' = .ok true w' := by
      unfold isAgg
      rw [Sem.run_bind, run_underlying hu w']
      cases d <;> simp_all
     have hlen : ((List.range n).map fun q => f (j + q)).length = n := by simp
     rw [hlen] at hl
     simp [execOp, ho, hu', Instr.loadAt, Instr.sureAddr, loadVar, Sem.run_bind, hagg, sizeOf, typeInfo, hi0, hs0, hl]
   · refine Rep.agg (by simp; omega) (fun u hmem => ?_) (fun q y u hy hq => ?_)
     · simp only [List.mem_map] at hmem
       obtain ⟨q, _, rfl⟩ := hmem
       exact h1 _
     · have hq2 : q < n := by have := (List.getElem?_eq_some_iff.1 hq).1; simpa using this
       rw [List.getElem?_map, List.getElem?_range hq2] at hq
       obtain rfl := Option.some.inj hq
       rw [List.getElem?_take, if_pos hq2, List.getElem?_drop] at hy
       exact h _ y hy

def cellsA : AV → Option (List AV)
 | .agg cs => some cs
 | .c (.agg us) => if us.toList.all (·.oneCell') then some (us.toList.map .c) else none
 | .c (.tuple _) => none
 | .c v => some [.c v]
 | .tup _ => none
 | .any => none
 | .when _ _ => none
 | .is _ _ => none
 | x => some [x]
theorem Rep.cells {G : List (Option Nat)} {x : AV} {u : Value} {cs : List AV} (h : Rep w Fx β G x u) (hc : cellsA x = some cs) :
 u.cells.toList.length = cs.length ∧ (∀ v ∈ u.cells.toList, v.oneCell' = true) ∧ ∀ (i : Nat) y v, cs[i]? = some y → u.cells.toList[i]? = some v → Rep w Fx β G y v := by
 have one : ∀ {y : AV} {v : Value}, v.oneCell' = true → Rep w Fx β G y v → v.cells.toList.length = [y].length ∧ (∀ z ∈ v.cells.toList, z.oneCell' = true) ∧ ∀ (i : Nat) q z, [y][i]? = some q → v.cells.toList[i]? = some z → Rep w Fx β G q z := by
  intro y v h1 hR
  have e : v.cells = #[v] := by cases v <;> simp_all [Value.cells, Value.oneCell']
  rw [e]
  refine ⟨rfl, by simpa using h1, fun i q z hq hz => ?_⟩
  cases i with
  | zero => simp at hq hz; subst hq; subst hz; exact hR
  | succ i => simp at hq
 cases h with
 | c =>
  cases u with
  | agg us =>
   simp only [cellsA] at hc
   split at hc
   · rename_i h1
     obtain rfl := Option.some.inj hc
     refine ⟨by simp [Value.cells], fun v hv => List.all_eq_true.1 h1 v hv, fun i y v hy hv => ?_⟩
     rw [List.getElem?_map] at hy
     have hv' : us.toList[i]? = some v := hv
     rw [hv'] at hy
     obtain rfl := Option.some.inj hy
     exact .c v
   · cases hc
  | tuple _ => simp [cellsA] at hc
  | _ => simp only [cellsA, Option.some.injEq] at hc; subst hc; exact one rfl (.c _)
 | agg hl h1 h =>
  simp only [cellsA, Option.some.injEq] at hc
  subst hc
  exact ⟨by simpa [Value.cells] using hl, by simpa [Value.cells] using h1, fun i y v hy hv => h i y v hy (by simpa [Value.cells] using hv)⟩
 | tup hl h => simp [cellsA] at hc
 | any u => simp [cellsA] at hc
 | sub ho hi hg h => simp only [cellsA, Option.some.injEq] at hc; subst hc; exact one ho (.sub ho hi hg h)
 | is _ => simp [cellsA] at hc
 | when _ => simp [cellsA] at hc
 | ro f hc' hm hA hl h1 h => simp only [cellsA, Option.some.injEq] at hc; subst hc; exact one rfl (.ro f hc' hm hA hl h1 h)
 | rop f hr hl hj hF hA h1 h => simp only [cellsA, Option.some.injEq] at hc; subst hc; exact one rfl (.rop f hr hl hj hF hA h1 h)
 | own ho hi hg h => simp only [cellsA, Option.some.injEq] at hc; subst hc; exact one ho (.own ho hi hg h)
 | ref ho hi hg h => simp only [cellsA, Option.some.injEq] at hc; subst hc; exact one ho (.ref ho hi hg h)
 | fn hl h => simp only [cellsA, Option.some.injEq] at hc; subst hc; exact one rfl (.fn hl h)

theorem HS.newBox (h : HS base w0 w Fx β M) (t : TypeId) {cs : List AV} {us : Array Value} (hl : us.size = cs.length) (h1 : ∀ v ∈ us.toList, v.oneCell' = true) (hR : ∀ (i : Nat) y v, cs[i]? = some y → us.toList[i]? = some v → Rep w Fx β (gens M) y v) :
 let M' := M ++ [some ⟨t, cs.length, 0, true, [cs]⟩]
 let β' := β ++ [Hd.flat (.pointer (some ⟨w.heap.size, 0, none⟩))]
 HS base w0 (w.alloc (.cells us t)) Fx β' M' ∧ Mv w Fx β (gens M) (w.alloc (.cells us t)) Fx β' (gens M') := by
 intro M' β'
 have hG : gens M' = gens M ++ [some 0] := by simp [M', gens]
 have hk : ∀ k, k < w.heap.size → (w.alloc (.cells us t)).heap[k]? = w.heap[k]? := fun k hk => Below.heap_alloc _ _ _ hk
 have hs : w.heap.size ≤ (w.alloc (.cells us t)).heap.size := by simp
 have m : Mv w Fx β (gens M) (w.alloc (.cells us t)) Fx β' (gens M') := ⟨fun _ h => h, fun k hF => hk k (h.fx k hF), by rw [hG]; simp, fun id g' hid hg => by
  rw [hG, List.getElem?_append_left hid] at hg
  refine ⟨g', hg, Nat.le_refl _, fun _ => hd_eq (List.getElem?_append_left ?_)⟩
  rw [h.len, ← gens_length]
  exact hid⟩
 have hlast : β'[M.length]? = some (Hd.flat <| .pointer (some ⟨w.heap.size, 0, none⟩)) := by simp [β', ← h.len]
 have old : ∀ {id : Nat} {b : Blk}, M'[id]? = some (some b) → (id < M.length ∧ M[id]? = some (some b)) ∨ (id = M.length ∧ b = ⟨t, cs.length, 0, true, [cs]⟩) := by
  intro id b hb
  rcases Nat.lt_or_ge id M.length with hid | hid
  · rw [List.getElem?_append_left hid] at hb
    exact .inl ⟨hid, hb⟩
  · rw [List.getElem?_append_right hid] at hb
    have e : id - M.length = 0 := by
     rcases Nat.eq_zero_or_pos (id - M.length) with e | e
     · exact e
     · rw [List.getElem?_eq_none (by simp; omega)] at hb; cases hb
    rw [e] at hb
    simp at hb
    exact .inr ⟨by omega, hb.symm⟩
 have oldβ : ∀ {id : Nat}, id < M.length → β'[id]? = β[id]? := fun hid => List.getElem?_append_left (by rw [h.len]; exact hid)
 refine ⟨⟨h.bel.alloc h.bs _, Nat.le_trans h.bs hs, fun k hF => Nat.lt_of_lt_of_le (h.fx k hF) hs, by simp [β', M', h.len], fun id b hb => ?_, fun id id' b b' v v' k hne hb hb' hv hv' hk1 hk2 => ?_⟩, m⟩
 · rcases old hb with ⟨hid, hb0⟩ | ⟨rfl, rfl⟩
   · obtain ⟨v, hv, hok⟩ := h.blk id b hb0
     exact ⟨v, (oldβ hid).trans hv, hok.mv m hs (fun k hk' => hk k (hok.1 k hk').2.1) (fun k hk' => (hok.1 k hk').2.2)⟩
   · refine ⟨_, hlast, fun k hk' => ?_, ?_⟩
     · have e : w.heap.size = k := by simpa [blockOf] using Hd.flat_has.1 hk'
       subst e
       exact ⟨h.bs, by simp, fun hF => absurd (h.fx _ hF) (by omega)⟩
     · refine ⟨w.heap.size, us, rfl, heap_alloc_new w _, rfl, CellsRep.d ⟨by simp [hl], fun i r hr => ?_⟩⟩
       cases i with
       | zero =>
        simp at hr
        subst hr
        refine ⟨rfl, fun j x hx => ?_⟩
        have hj : j < us.toList.length := by simpa [hl] using (List.getElem?_eq_some_iff.1 hx).1
        refine ⟨us.toList[j], by simp only [Nat.zero_mul, Nat.zero_add]; exact List.getElem?_eq_getElem hj, h1 _ (List.getElem_mem hj), (hR j x _ hx (List.getElem?_eq_getElem hj)).mv m⟩
       | succ i => simp at hr
 · rcases old hb with ⟨hid, hb0⟩ | ⟨rfl, _⟩
   · rw [oldβ hid] at hv
     rcases old hb' with ⟨hid', hb0'⟩ | ⟨rfl, _⟩
     · rw [oldβ hid'] at hv'
       exact h.inj id id' b b' v v' k hne hb0 hb0' hv hv' hk1 hk2
     · rw [hlast] at hv'
       obtain rfl := Option.some.inj hv'
       obtain ⟨v2, hv2, hok⟩ := h.blk id b hb0
       rw [hv] at hv2
       obtain rfl := Option.some.inj hv2
       have := (hok.1 k hk1).2.1
       have e : w.heap.size = k := by simpa [blockOf] using Hd.flat_has.1 hk2
       omega
   · rw [hlast] at hv
     obtain rfl := Option.some.inj hv
     have e : w.heap.size = k := by simpa [blockOf] using Hd.flat_has.1 hk1
     rcases old hb' with ⟨hid', hb0'⟩ | ⟨rfl, _⟩
     · rw [oldβ hid'] at hv'
       obtain ⟨v2, hv2, hok⟩ := h.blk id' b' hb0'
       rw [hv'] at hv2
       obtain rfl := Option.some.inj hv2
       have := (hok.1 k hk2).2.1
       omega
     · exact hne rfl
end
end Go.Proofs.YtpffahmmklpifaaGreat.Abs
