/- The operations on rows of our own: literals, make, append, lengths and places. -/
import Derived.Test.YtpffahmmklpifaaGreatAbsQ
namespace Go.Proofs.YtpffahmmklpifaaGreat.Abs
open Go.RowKit
set_option linter.unusedVariables false
set_option linter.unusedSimpArgs false

def rwk (P : Program) (t : TypeId) : Option (TypeId × Nat × Nat × List Value) := match P.underlying t with
 | some (.slice e) => match P.info? e with
  | some i => match i.zero with
   | some z => if z.cells.size = i.size ∧ z.cells.toList.all (·.oneCell') = true ∧ 0 < i.size then some (e, i.size, i.bytes, z.cells.toList) else none
   | none => none
  | none => none
 | _ => none
theorem rwk_inv {P : Program} {t e : TypeId} {sz bytes : Nat} {zs : List Value} (h : rwk P t = some (e, sz, bytes, zs)) :
 ∃ i z, P.underlying t = some (.slice e) ∧ P.info? e = some i ∧ i.zero = some z ∧ i.size = sz ∧ i.bytes = bytes ∧ z.cells.size = sz ∧ z.cells.toList = zs ∧ (∀ u ∈ zs, u.oneCell' = true) ∧ 0 < sz := by
 unfold rwk at h
 split at h
 · rename_i e' he
   split at h
   · rename_i i hi
     split at h
     · rename_i z hz
       split at h
       · rename_i hc
         simp only [Option.some.injEq, Prod.mk.injEq] at h
         obtain ⟨rfl, rfl, rfl, rfl⟩ := h
         exact ⟨i, z, he, hi, hz, rfl, rfl, hc.1, rfl, fun u hu => List.all_eq_true.1 hc.2.1 u hu, hc.2.2⟩
       · cases h
     · cases h
   · cases h
 · cases h

section
variable {P : Program} {E : Env} {tm : List AV} {M : Mem} {o : Oper} {w w0 : World} {Fx : Nat → Prop} {β : List Hd} {base : Nat}
theorem Rep.newRow {w' : World} {v : Value} {b : Blk} (hl : β.length = M.length) (hg : b.gen = 0) (ho : v.oneCell' = true) : Rep w' Fx (β ++ [Hd.flat v]) (gens (M ++ [some b])) (.own M.length 0) v := by
 refine .own ho (by simp [gens]) (fun g1 h1 => Nat.zero_le _) (fun _ => ?_)
 rw [List.getElem?_append_right (by omega), hl]
 exact ⟨Hd.flat v, by simp, rfl⟩
theorem POp.newRow {t : TypeId} {sz : Nat} {es : List (List AV)} (hrun : ∀ (a : Act) (w : World) Fx β, HS E.base E.w0 w Fx β M → Slots w Fx β (gens M) tm a.tmps → ∃ v w' xs, (execOp a.eval o).run P w = .ok (.value v) w' ∧ w.grownBy w' none ∧
 w'.ownsRow E.base t sz v es.length xs ∧ (∀ k, blockOf v = some k → w.heap.size ≤ k) ∧ CellsRep w Fx β (gens M) sz es xs) : POp P o E tm M (.own M.length 0) (M ++ [some ⟨t, sz, 0, false, es⟩]) := by
 intro a w K Q Fx β hh hsl hk
 obtain ⟨v, w', xs, hr, hg, ho, hb, hc⟩ := hrun a w Fx β hh hsl
 obtain ⟨hh', hx⟩ := hh.addRow hg ho hb hc
 unfold Oper.wp
 rw [hr, Oper.upon_value]
 refine hk _ _ _ _ hh' hx (Rep.newRow hh.len rfl ?_)
 rcases ho.2 with ⟨rfl, _⟩ | ⟨g, cap, cur, rfl, _⟩ <;> rfl
def RowRun (P : Program) (o : Oper) (E : Env) (tm : List AV) (M : Mem) (t : TypeId) (sz : Nat) (es : List (List AV)) : Prop := ∀ (a : Act) (w : World) Fx β, HS E.base E.w0 w Fx β M → Slots w Fx β (gens M) tm a.tmps → ∃ v w' xs, (execOp a.eval o).run P w = .ok (.value v) w' ∧ w.grownBy w' none ∧
 w'.ownsRow E.base t sz v es.length xs ∧ (∀ k, blockOf v = some k → w.heap.size ≤ k) ∧ CellsRep w Fx β (gens M) sz es xs
theorem POp.make {t e : TypeId} {sz bytes : Nat} {zs : List Value} {x y : Operand} {k k' : IntKind} {n : Int} (ho : o.op = .makeSlice t x y) (hr : rwk P t = some (e, sz, bytes, zs)) (hx : sc tm x = some (.int k n)) (hy : sc tm y = some (.int k' n)) (h0 : 0 ≤ n)
 (hb : bytes * n.toNat ≤ 281474976710656) (hm : n.toNat ≤ maxLen) : POp P o E tm M (.own M.length 0) (M ++ [some ⟨e, sz, 0, false, List.replicate n.toNat (zs.map .c)⟩]) := by
 obtain ⟨i, z, h1, h2, h3, h4, h5, h6, h7, h8, h9⟩ := rwk_inv hr
 refine POp.newRow fun a w Fx β hh hsl => ?_
 obtain ⟨w', hrun, hown, hg⟩ := run_make_full (P := P) w E.base t e i z sz h1 h2 h3 h4 k k' n.toNat (by rw [h5]; exact hb) hm hh.bs
 refine ⟨_, w', _, ?_, hg, by rw [List.length_replicate]; exact hown, fun q hq => ?_, ?_⟩
 · have e1 : ((n.toNat : Nat) : Int) = n := Int.toNat_of_nonneg h0
   rw [e1] at hrun
   simp [execOp, ho, hsl.sc hx, hsl.sc hy, hrun]
 · simp [blockOf] at hq; omega
 · refine ⟨by simp [size_madeCells], fun i' r hi' => ?_⟩
   rw [List.getElem?_replicate] at hi'
   split at hi'
   · rename_i hlt
     obtain rfl := Option.some.inj hi'
     refine ⟨by rw [List.length_map, ← h7]; simpa using h6, fun j x hx => ?_⟩
     rw [List.getElem?_map] at hx
     cases hq : zs[j]? with
     | none => rw [hq] at hx; cases hx
     | some u =>
      rw [hq] at hx
      obtain rfl := Option.some.inj hx
      have hj : j < sz := by have := (List.getElem?_eq_some_iff.1 hq).1; rw [← h7] at this; simpa [h6] using this
      refine ⟨u, ?_, h8 u (List.mem_of_getElem? hq), .c u⟩
      have hin : i' * sz + j < n.toNat * sz := by
       have : (i' + 1) * sz ≤ n.toNat * sz := Nat.mul_le_mul_right _ hlt
       rw [Nat.add_mul] at this
       omega
      have hmod : (i' * sz + j) % sz = j := by rw [Nat.add_comm, Nat.add_mul_mod_self_right, Nat.mod_eq_of_lt hj]
      have hz : z.cells[j]? = some u := by rw [← h7] at hq; simpa using hq
      have hzj : z.cells[j]! = u := by rw [Array.getElem!_eq_getD, Array.getD_eq_getD_getElem?, hz]; rfl
      simp only [madeCells, Array.toList_map, Array.toList_range, List.getElem?_map, List.getElem?_range hin, Option.map_some, h6, hmod, hzj]
   · cases hi'

def cpy : AV → AV
 | .dp (.is u _) => .c u
 | x => x
def rdb : AV → Bool
 | .dp (.is _ _) => true
 | x => nodp x
theorem CellsD.cpy {w : World} {Fx : Nat → Prop} {β : List Hd} {G : List (Option Nat)} {pv : Nat → Prop} {hb : Option Nat} {sz : Nat} {es : List (List AV)} {xs : List Value} (h : CellsD w Fx β G pv hb sz es xs) {i j : Nat} {r : List AV} {x : AV} (hr : es[i]? = some r) (hx : r[j]? = some x) (hd : rdb x = true) :
 ∃ u, xs[i * sz + j]? = some u ∧ u.oneCell' = true ∧ Rep w Fx β G (cpy x) u := by
 obtain ⟨u, hu, h1, hR⟩ := (h.cel i r hr).2 j x hx
 refine ⟨u, hu, h1, ?_⟩
 cases x with
 | dp d =>
  cases d with
  | is v y =>
   obtain ⟨_, _, pc, _, _, h5⟩ := h
   obtain ⟨u', hu', hD⟩ := h5 i r j _ hr hx
   rw [hu] at hu'
   obtain rfl := Option.some.inj hu'
   cases hD
   exact .c _
  | _ => cases hd
 | _ => exact hR hd
inductive SrcA (M : Mem) (sz : Nat) : AV → List (List AV) → Prop where
 | sub {id g i m : Nat} {b : Blk} (hM : M[id]? = some (some b)) (hg : b.gen = g) (hb : b.box = false) (hs : b.sz = sz) (him : i + m ≤ b.es.length) (hnd : ∀ r ∈ b.es, ∀ x ∈ r, rdb x = true) : SrcA M sz (.sub id g sz i m) (((b.es.drop i).take m).map (·.map Abs.cpy))
 | own {id g : Nat} {b : Blk} (hM : M[id]? = some (some b)) (hg : b.gen = g) (hb : b.box = false) (hs : b.sz = sz) (hnd : ∀ r ∈ b.es, ∀ x ∈ r, nodp x = true) : SrcA M sz (.own id g) b.es
 | ro {es : List (List AV)} : SrcA M sz (.ro sz es) es
theorem CellsD.rep {G : List (Option Nat)} {pv : Nat → Prop} {hb : Option Nat} {sz : Nat} {es : List (List AV)} {xs : List Value} (h : CellsD w Fx β G pv hb sz es xs) (hn : ∀ r ∈ es, ∀ x ∈ r, nodp x = true) : CellsRep w Fx β G sz es xs :=
 ⟨h.len, fun i r hr => ⟨(h.cel i r hr).1, fun j x hx => by
  obtain ⟨u, hu, h1, hR⟩ := (h.cel i r hr).2 j x hx
  exact ⟨u, hu, h1, hR (hn r (List.mem_of_getElem? hr) x (List.mem_of_getElem? hx))⟩⟩⟩
theorem SrcA.cells {sz : Nat} {y : AV} {es : List (List AV)} (h : SrcA M sz y es) (hh : HS base w0 w Fx β M) {u : Value} (hr : Rep w Fx β (gens M) y u) (hs0 : 0 < sz) :
 (u = .slice none 0 0 ∧ es = []) ∨ (∃ c, es = [] ∧ u = .slice none 0 c) ∨ ∃ ad c news, u = .slice (some ad) es.length c ∧ news.length = es.length * sz ∧ (∀ j v, news[j]? = some v → w.cell? (ad.add j) = some v) ∧ (∀ v ∈ news, v.oneCell' = true) ∧ CellsRep w Fx β (gens M) sz es news := by
 cases h with
 | @sub id g i m b hM hg hb hs him hnd =>
  have hlen : (((b.es.drop i).take m).map (·.map Abs.cpy)).length = m := by simp; omega
  cases hr with
  | sub ho hi hgg h =>
   obtain ⟨hd, a, cap, hv, rfl, hmc, _, ha⟩ := h (by rw [← hg]; exact gens_of hM)
   obtain ⟨v, hv', _, h2⟩ := hh.blk _ _ hM
   rw [hv] at hv'
   obtain rfl := Option.some.inj hv'
   rw [hb] at h2
   obtain ⟨xs, hown, hc⟩ := h2
   subst hs
   rcases Nat.eq_zero_or_pos m with h0 | hpos
   · subst h0
     have e : ((b.es.drop i).take 0).map (·.map Abs.cpy) = [] := by simp
     rw [e]
     cases a with
     | none => exact .inr (.inl ⟨cap, rfl, rfl⟩)
     | some ad => exact .inr (.inr ⟨ad, cap, [], rfl, by simp, fun j v hv => by simp at hv, fun v hv => by simp at hv, by simp, fun i r hr => by simp at hr⟩)
   · obtain ⟨bk, hbk, rfl⟩ := ha hpos
     rcases hown.2 with ⟨e0, hn⟩ | ⟨g', cap', cur, e0, _, hk, hnc, _, hcs, htake⟩
     · omega
     · rw [e0] at hbk
       simp [blockOf] at hbk
       subst hbk
       have hxl : xs.length = b.es.length * b.sz := hc.len
       have hnl : ((xs.drop (i * b.sz)).take (m * b.sz)).length = m * b.sz := by
        have := Nat.mul_le_mul_right b.sz him
        rw [Nat.add_mul] at this
        rw [List.length_take, List.length_drop, hxl]; omega
       have hcel := hown.cells (g := g') (by rw [e0]; rfl)
       have get : ∀ {q : Nat} {v : Value}, ((xs.drop (i * b.sz)).take (m * b.sz))[q]? = some v → q < m * b.sz ∧ xs[i * b.sz + q]? = some v := fun {q v} hq => by
        have hlt : q < m * b.sz := by rw [← hnl]; exact (List.getElem?_eq_some_iff.1 hq).1
        rw [List.getElem?_take, if_pos hlt, List.getElem?_drop] at hq
        exact ⟨hlt, hq⟩
       have row : ∀ {q : Nat} {r' : List AV}, (((b.es.drop i).take m).map (·.map Abs.cpy))[q]? = some r' → ∃ r, q < m ∧ b.es[i + q]? = some r ∧ r' = r.map Abs.cpy := fun {q r'} hq => by
        have hlt : q < m := by rw [← hlen]; exact (List.getElem?_eq_some_iff.1 hq).1
        rw [List.getElem?_map, List.getElem?_take, if_pos hlt, List.getElem?_drop] at hq
        cases hq2 : b.es[i + q]? with
        | none => rw [hq2] at hq; cases hq
        | some r => rw [hq2] at hq; exact ⟨r, hlt, rfl, (Option.some.inj hq).symm⟩
       refine .inr (.inr ⟨⟨g', i * b.sz, none⟩, cap, (xs.drop (i * b.sz)).take (m * b.sz), by rw [hlen], by rw [hnl, hlen], fun j v hv => ?_, fun v hv => ?_, by rw [hnl, hlen], fun q r' hr' => ?_⟩)
       · have := hcel (i * b.sz + j) v (get hv).2
         rw [Addr.add_mid, Nat.zero_add] at this
         rw [Addr.add_mid]
         exact this
       · obtain ⟨q, hq⟩ := List.getElem?_of_mem hv
         obtain ⟨hlt, hq⟩ := get hq
         have hx := List.getElem?_eq_some_iff.1 hq
         have hi' : (i * b.sz + q) / b.sz < b.es.length := (Nat.div_lt_iff_lt_mul hs0).2 (by rw [← hxl]; exact hx.1)
         have hrl := (hc.cel _ _ (List.getElem?_eq_getElem hi')).1
         have hj : (i * b.sz + q) % b.sz < (b.es[(i * b.sz + q) / b.sz]).length := by rw [hrl]; exact Nat.mod_lt _ hs0
         obtain ⟨v2, hv2, h1, _⟩ := (hc.cel _ _ (List.getElem?_eq_getElem hi')).2 _ _ (List.getElem?_eq_getElem hj)
         rw [Nat.div_add_mod', hq] at hv2
         obtain rfl := Option.some.inj hv2
         exact h1
       · obtain ⟨r, hlt, hr0, rfl⟩ := row hr'
         refine ⟨by rw [List.length_map]; exact (hc.cel _ r hr0).1, fun j x hx => ?_⟩
         rw [List.getElem?_map] at hx
         cases hq2 : r[j]? with
         | none => rw [hq2] at hx; cases hx
         | some y =>
          rw [hq2] at hx
          obtain rfl := Option.some.inj hx
          obtain ⟨u, hu, h1, hR⟩ := hc.cpy hr0 hq2 (hnd r (List.mem_of_getElem? hr0) y (List.mem_of_getElem? hq2))
          have hj : j < b.sz := by rw [← (hc.cel _ r hr0).1]; exact (List.getElem?_eq_some_iff.1 hq2).1
          refine ⟨u, ?_, h1, hR⟩
          have hjm : q * b.sz + j < m * b.sz := by
           have := Nat.mul_le_mul_right b.sz (show q + 1 ≤ m from hlt)
           rw [Nat.add_mul, Nat.one_mul] at this
           omega
          rw [List.getElem?_take, if_pos hjm, List.getElem?_drop, ← hu]
          congr 1
          rw [Nat.add_mul]
          omega
 | @own id g b hM hg hb hs hnd =>
  cases hr with
  | own ho hi hgg h =>
   obtain ⟨hd, hv, rfl⟩ := h (by rw [← hg]; exact gens_of hM)
   obtain ⟨v, hv', _, h2⟩ := hh.blk _ _ hM
   rw [hv] at hv'
   obtain rfl := Option.some.inj hv'
   rw [hb] at h2
   obtain ⟨xs, hown, hc⟩ := h2
   have hc := hc.rep hnd
   subst hs
   have one : ∀ v ∈ xs, v.oneCell' = true := fun v hv => by
    obtain ⟨q, hq⟩ := List.getElem?_of_mem hv
    have hlt : q < _ := (List.getElem?_eq_some_iff.1 hq).1
    rw [hc.1] at hlt
    have hi' : q / b.sz < b.es.length := (Nat.div_lt_iff_lt_mul hs0).2 hlt
    have hrl := (hc.2 (q / b.sz) _ (List.getElem?_eq_getElem hi')).1
    have hj : q % b.sz < (b.es[q / b.sz]).length := by rw [hrl]; exact Nat.mod_lt _ hs0
    obtain ⟨v2, hv2, h1, _⟩ := (hc.2 (q / b.sz) _ (List.getElem?_eq_getElem hi')).2 (q % b.sz) _ (List.getElem?_eq_getElem hj)
    rw [Nat.div_add_mod'] at hv2
    rw [hq] at hv2
    obtain rfl := Option.some.inj hv2
    exact h1
   rcases hown.2 with ⟨e0, hn⟩ | ⟨g', cap, cur, e0, _⟩
   · exact .inl ⟨e0, List.length_eq_zero_iff.1 hn⟩
   · exact .inr (.inr ⟨⟨g', 0, none⟩, cap, xs, e0, hc.1, hown.cells (g := g') (by rw [e0]; rfl), one, hc⟩)
 | ro =>
  cases hr with
  | @ro _ _ a cap f hcap hm hA hl h1 h =>
   rcases Nat.eq_zero_or_pos es.length with h0 | hpos
   · have e := List.length_eq_zero_iff.1 h0
     subst e
     cases a with
     | none => exact .inr (.inl ⟨cap, rfl, rfl⟩)
     | some ad => exact .inr (.inr ⟨ad, cap, [], rfl, by simp, fun j v hv => by simp at hv, fun v hv => by simp at hv, by simp, fun i r hr => by simp at hr⟩)
   · obtain ⟨ad, rfl, hF, hcell⟩ := hA hpos
     have get : ∀ q : Nat, q < es.length * sz → ((List.range (es.length * sz)).map fun q => f (q / sz) (q % sz))[q]? = some (f (q / sz) (q % sz)) := fun q hq => by rw [List.getElem?_map, List.getElem?_range hq]; rfl
     refine .inr (.inr ⟨ad, cap, (List.range (es.length * sz)).map fun q => f (q / sz) (q % sz), rfl, by simp, fun j v hv => ?_, fun v hv => ?_, by simp, fun i r hr => ⟨hl i r hr, fun j x hx => ?_⟩⟩)
     · have hj : j < es.length * sz := by have := (List.getElem?_eq_some_iff.1 hv).1; simpa using this
       rw [get j hj] at hv
       obtain rfl := Option.some.inj hv
       have hi' : j / sz < es.length := (Nat.div_lt_iff_lt_mul hs0).2 hj
       have := hcell (j / sz) _ (j % sz) (List.getElem?_eq_getElem hi') (Nat.mod_lt _ hs0)
       rwa [Nat.div_add_mod'] at this
     · simp only [List.mem_map] at hv
       obtain ⟨q, _, rfl⟩ := hv
       exact h1 _ _
     · have hj : j < sz := by rw [← hl i r hr]; exact (List.getElem?_eq_some_iff.1 hx).1
       have hi' : i < es.length := (List.getElem?_eq_some_iff.1 hr).1
       have hin : i * sz + j < es.length * sz := by
        have : (i + 1) * sz ≤ es.length * sz := Nat.mul_le_mul_right _ hi'
        rw [Nat.add_mul] at this
        omega
       have e1 : (i * sz + j) / sz = i := by rw [Nat.add_comm, Nat.add_mul_div_right _ _ hs0, Nat.div_eq_of_lt hj, Nat.zero_add]
       have e2 : (i * sz + j) % sz = j := by rw [Nat.add_comm, Nat.add_mul_mod_self_right, Nat.mod_eq_of_lt hj]
       exact ⟨f i j, by rw [get _ hin, e1, e2], h1 _ _, h i r j x hr hx⟩
theorem CellsD.append {G : List (Option Nat)} {pv : Nat → Prop} {hb : Option Nat} {sz : Nat} {es es2 : List (List AV)} {xs ys : List Value} (h : CellsD w Fx β G pv hb sz es xs) (k : CellsRep w Fx β G sz es2 ys) : CellsD w Fx β G pv hb sz (es ++ es2) (xs ++ ys) := by
 obtain ⟨h1, h2, pc, h3, h4, h5⟩ := h
 refine ⟨by rw [List.length_append, List.length_append, h1, k.1, Nat.add_mul], fun i r hr => ?_, pc, h3, h4, fun i r j d hr hd => ?_⟩
 · rcases Nat.lt_or_ge i es.length with hi | hi
   · rw [List.getElem?_append_left hi] at hr
     refine ⟨(h2 i r hr).1, fun j x hx => ?_⟩
     obtain ⟨u, hu, ho, hR⟩ := (h2 i r hr).2 j x hx
     exact ⟨u, by rw [List.getElem?_append_left (List.getElem?_eq_some_iff.1 hu).1]; exact hu, ho, hR⟩
   · rw [List.getElem?_append_right hi] at hr
     refine ⟨(k.2 _ r hr).1, fun j x hx => ?_⟩
     obtain ⟨u, hu, ho, hR⟩ := (k.2 _ r hr).2 j x hx
     have e : es.length * sz ≤ i * sz := Nat.mul_le_mul_right _ hi
     refine ⟨u, ?_, ho, hR.cr⟩
     rw [List.getElem?_append_right (by rw [h1]; omega), h1]
     rw [← hu]
     congr 1
     rw [Nat.sub_mul]
     omega
 · rcases Nat.lt_or_ge i es.length with hi | hi
   · rw [List.getElem?_append_left hi] at hr
     obtain ⟨u, hu, hR⟩ := h5 i r j d hr hd
     exact ⟨u, by rw [List.getElem?_append_left (List.getElem?_eq_some_iff.1 hu).1]; exact hu, hR⟩
   · rw [List.getElem?_append_right hi] at hr
     obtain ⟨u, _, _, hR⟩ := (k.2 _ r hr).2 j _ hd
     cases hR
theorem CellsRep.append {G : List (Option Nat)} {sz : Nat} {es es2 : List (List AV)} {xs ys : List Value} (h : CellsRep w Fx β G sz es xs) (k : CellsRep w Fx β G sz es2 ys) : CellsRep w Fx β G sz (es ++ es2) (xs ++ ys) := by
 refine ⟨by rw [List.length_append, List.length_append, h.1, k.1, Nat.add_mul], fun i r hr => ?_⟩
 rcases Nat.lt_or_ge i es.length with hi | hi
 · rw [List.getElem?_append_left hi] at hr
   refine ⟨(h.2 i r hr).1, fun j x hx => ?_⟩
   obtain ⟨u, hu, h1, hR⟩ := (h.2 i r hr).2 j x hx
   exact ⟨u, by rw [List.getElem?_append_left (List.getElem?_eq_some_iff.1 hu).1]; exact hu, h1, hR⟩
 · rw [List.getElem?_append_right hi] at hr
   refine ⟨(k.2 _ r hr).1, fun j x hx => ?_⟩
   obtain ⟨u, hu, h1, hR⟩ := (k.2 _ r hr).2 j x hx
   have e : es.length * sz ≤ i * sz := Nat.mul_le_mul_right _ hi
   refine ⟨u, ?_, h1, hR⟩
   rw [List.getElem?_append_right (by rw [h.1]; omega), h.1]
   rw [← hu]
   congr 1
   rw [Nat.sub_mul]
   omega
theorem run_append_fresh {t ty e : TypeId} {i : TypeInfo} {z : Value} {size bytes : Nat} (ht : P.underlying t = some (.slice e)) (hi : P.info? e = some i) (hz : i.zero = some z) (hsize : i.size = size) (hby : i.bytes = bytes) (hzs : z.cells.size = size) (hsz : 0 < size)
 {v : Value} {n : Nat} {xs : List Value} (hown : w.ownsRow base e size v n xs) {a : Addr} {m c : Nat} {news : List Value} (hl : news.length = m * size) (hnews : ∀ j u, news[j]? = some u → w.cell? (a.add j) = some u) (h1 : ∀ u ∈ news, u.oneCell' = true)
 (h63 : n + m ≤ maxLen) (hbytes : (n + m) * bytes ≤ 140737488355328) (hbase : base ≤ w.heap.size) :
 ∃ v' w', (Builtin.append_ #[t, t] ty #[v, .slice (some a) m c]).run P w = .ok v' w' ∧ w'.ownsRow base e size v' (n + m) (xs ++ news) ∧ w.grownBy w' v.ownBlock ∧ ∀ k, blockOf v' = some k → blockOf v = some k ∨ w.heap.size ≤ k := by
 obtain ⟨v', w', hr, h2, h3, h4⟩ := run_append_own (P := P) w base t ty e i z size bytes ht hi hz hsize hby hzs hsz v n xs hown a m c news hl hnews h1 h63 hbytes hbase
 refine ⟨v', w', hr, h2, h3, fun k hk => ?_⟩
 have hsmall : n + m ≤ 9223372036854775807 := by simp only [maxLen] at h63; omega
 subst hsize
 subst hby
 rcases hown.2 with ⟨rfl, rfl⟩ | ⟨g, cap, cur, rfl, hbg, hg, hnc, hcm, hcs, htake⟩
 · by_cases hm : m = 0
   · have := h4.2 ⟨rfl, hm⟩
     rw [this] at hk
     cases hk
   · have hr2 := run_append_nil (P := P) w t ty e i z ht hi hz a m c news hl hnews (by omega) (by omega) (by have hb := hbytes; simp only [Nat.zero_add] at hb; omega)
     rw [hr2] at hr
     cases hr
     simp [blockOf] at hk
     exact .inr (by omega)
 · by_cases hroom : n + m ≤ cap
   · obtain ⟨w2, hr2, _⟩ := run_append_fits (P := P) w base t ty e i i.size ht hi rfl g n cap xs hown a m c news hl hnews h1 hroom
     rw [hr2] at hr
     cases hr
     exact .inl hk
   · have holds : ∀ j u, xs[j]? = some u → w.cell? ((⟨g, 0, none⟩ : Addr).add j) = some u := hown.cells (g := g) rfl
     have hr2 := run_append_grow (P := P) w t ty e i z ht hi hz ⟨g, 0, none⟩ n cap xs hown.1 holds a m c news hl hnews (by omega) (by omega) (growslice_fits (by omega) hbytes)
     rw [hr2] at hr
     cases hr
     simp [blockOf] at hk
     exact .inr (by omega)
theorem run_append_none {t ty e : TypeId} {i : TypeInfo} (ht : P.underlying t = some (.slice e)) (hi : P.info? e = some i) {size : Nat} {v : Value} {n c : Nat} {xs : List Value} (hown : w.ownsRow base e size v n xs) :
 (Builtin.append_ #[t, t] ty #[v, .slice none 0 c]).run P w = .ok v w := by
 rcases hown.2 with ⟨rfl, rfl⟩ | ⟨g, cap, cur, rfl, _, _, hnc, _⟩
 · simp [Builtin.append_, run_underlying ht, sizeOf, typeInfo, hi, Builtin.lenOf, Builtin.firstCells]
 · simp [Builtin.append_, run_underlying ht, sizeOf, typeInfo, hi, Builtin.lenOf, Builtin.firstCells, hnc, storeCells]
theorem POp.append {s x : Operand} {t e : TypeId} {sz bytes id g : Nat} {zs : List Value} {b : Blk} {y : AV} {es : List (List AV)} (ho : o.op = .call { callee := .builtin .append, args := #[s, x], argTypes := #[t, t] }) (hr : rwk P t = some (e, sz, bytes, zs))
 (hs : evA tm s = some (.own id g)) (hM : M[id]? = some (some b)) (hg : b.gen = g) (hb : b.box = false) (hty : b.ty = e) (hbs : b.sz = sz) (hx : evA tm x = some y) (hy : SrcA M sz y es)
 (hlen : (b.es.length + es.length) * bytes ≤ 140737488355328) (hm : b.es.length + es.length ≤ maxLen) : POp P o E tm M (.own id (g + 1)) (M.set id (some { b with es := b.es ++ es, gen := b.gen + 1 })) := by
 obtain ⟨i, z, h1, h2, h3, h4, h5, h6, h7, h8, h9⟩ := rwk_inv hr
 intro a w K Q Fx β hh hsl hk
 have hrs := hsl.ev hs
 generalize hv0 : a.eval s = v at hrs
 obtain ⟨hd, hvv, hdv⟩ : ∃ hd, β[id]? = some hd ∧ hd.v = v := by
  cases hrs with
  | own _ _ _ h => exact h (by rw [← hg]; exact gens_of hM)
 obtain ⟨v2, hv2, hok⟩ := hh.blk id b hM
 rw [hvv] at hv2
 obtain rfl := Option.some.inj hv2
 obtain ⟨_, hok2⟩ := hok
 rw [hb] at hok2
 obtain ⟨xs, hown, hc⟩ := hok2
 subst hty hbs
 rw [← hdv] at hv0
 clear hrs hdv v
 obtain ⟨v, pv⟩ := hd
 dsimp only at hv0 hown hc
 have hrx := hsl.ev hx
 generalize hu0 : a.eval x = u at hrx
 have fin : ∀ v' w' xs', (Builtin.append_ #[t, t] o.type #[v, u]).run P w = .ok v' w' → w'.ownsRow E.base b.ty b.sz v' (b.es.length + es.length) xs' → w.grownBy w' v.ownBlock → (∀ k, blockOf v' = some k → blockOf v = some k ∨ w.heap.size ≤ k) → CellsD w Fx β (gens M) pv (blockOf v) b.sz (b.es ++ es) xs' → o.wp P a w K Q := by
  intro v' w' xs' hrun ho' hgr hfr hc'
  obtain ⟨hh', hx'⟩ := hh.regrow hM hb hvv hgr (es := b.es ++ es) (by rw [List.length_append]; exact ho') hfr hc'
  unfold Oper.wp
  have e : (execOp a.eval o).run P w = .ok (.value v') w' := by simp [execOp, ho, resolve, invoke, builtin, hv0, hu0, hrun]
  rw [e, Oper.upon_value]
  have hid : id < M.length := (List.getElem?_eq_some_iff.1 hM).1
  refine hk _ _ _ _ hh' hx' (.own ?_ (by simp [gens, hid]) (fun g1 hg1 => ?_) (fun _ => ?_))
  · rcases ho'.2 with ⟨rfl, _⟩ | ⟨g', cap, cur, rfl, _⟩ <;> rfl
  · have := gens_of (M := M.set id (some { b with es := b.es ++ es, gen := b.gen + 1 })) (id := id) (b := { b with es := b.es ++ es, gen := b.gen + 1 }) (by rw [List.getElem?_set, if_pos rfl, if_pos hid])
    rw [this] at hg1
    simp at hg1
    omega
  · exact ⟨_, by rw [List.getElem?_set, if_pos rfl, if_pos (by rw [hh.len]; exact hid)], rfl⟩
 rcases hy.cells hh hrx h9 with ⟨rfl, rfl⟩ | ⟨c, rfl, rfl⟩ | ⟨ad, c, news, rfl, g1, g2, g3, g4⟩
 · exact fin v w xs (run_append_none h1 h2 hown) (by simpa using hown) ⟨rfl, rfl, rfl, Nat.le_refl _, fun _ _ _ => rfl⟩ (fun k hk => .inl hk) (by simpa using hc)
 · exact fin v w xs (run_append_none h1 h2 hown) (by simpa using hown) ⟨rfl, rfl, rfl, Nat.le_refl _, fun _ _ _ => rfl⟩ (fun k hk => .inl hk) (by simpa using hc)
 · obtain ⟨v', w', q1, q2, q3, q4⟩ := run_append_fresh (P := P) (ty := o.type) h1 h2 h3 h4 h5 h6 h9 hown g1 g2 g3 hm hlen hh.bs
   exact fin v' w' _ q1 q2 q3 q4 (hc.append g4)
theorem RowRun.empty {t e : TypeId} {sz bytes : Nat} {zs : List Value} {parts : Array (Nat × Operand)} (ho : o.op = .buildSlice t 0 parts) (hp : parts = #[]) (hr : rwk P t = some (e, sz, bytes, zs)) : RowRun P o E tm M e sz [] := by
 obtain ⟨i, z, h1, h2, h3, h4, h5, h6, h7, h8, h9⟩ := rwk_inv hr
 subst hp
 refine fun a w Fx β hh hsl => ⟨.slice (some ⟨w.heap.size, 0, none⟩) 0 0, w.alloc (.cells #[] e), [], ?_, World.grownBy_alloc w _ none, ⟨by simp, .inr ⟨w.heap.size, 0, #[], rfl, hh.bs, heap_alloc_new w _, Nat.le_refl _, Nat.zero_le _, by simp, by simp⟩⟩, fun k hk => by simp [blockOf] at hk; omega, by simp, fun i r hr => by simp at hr⟩
 have e0 : ∀ f : Nat → Value, (Array.range 0).map f = #[] := fun f => by simp
 simp [execOp, ho, Instr.buildSlice, run_underlying h1, sizeOf, typeInfo, h2, Instr.fill, Go.newRow, e0]
theorem POp.empty {t e : TypeId} {sz bytes : Nat} {zs : List Value} {parts : Array (Nat × Operand)} (ho : o.op = .buildSlice t 0 parts) (hp : parts = #[]) (hr : rwk P t = some (e, sz, bytes, zs)) : POp P o E tm M (.own M.length 0) (M ++ [some ⟨e, sz, 0, false, []⟩]) := POp.newRow (RowRun.empty ho hp hr)
theorem RowRun.literal {t e : TypeId} {sz bytes n : Nat} {zs : List Value} {parts : Array (Nat × Operand)} {ys : List AV} {es : List (List AV)} (ho : o.op = .buildSlice t n parts) (hr : rwk P t = some (e, sz, bytes, zs)) (hp : parts.toList.mapM (fun p => evA tm p.2) = some ys) (hi : parts.toList.map (·.1) = List.range n)
 (hes : ys.mapM cellsA = some es) (hsz : es.all (fun r => Nat.beq r.length sz) = true) (h24 : Nat.ble (n * sz) 16777216 = true) (hn0 : Nat.blt 0 n = true) : RowRun P o E tm M e sz es := by
 obtain ⟨i, z, h1, h2, h3, h4, h5, h6, h7, h8, h9⟩ := rwk_inv hr
 obtain ⟨l1, q1⟩ := mapM_get hp
 obtain ⟨l2, q2⟩ := mapM_get hes
 have hn : parts.toList.length = n := by have := congrArg List.length hi; simpa using this
 have hn0' : 0 < n := by have := Nat.le_of_ble_eq_true hn0; omega
 have hesl : es.length = n := by rw [l2, l1, hn]
 intro a w Fx β hh hsl
 -- the parts' values
 have hval : ∀ (q : Nat) p, parts.toList[q]? = some p → ∃ r, es[q]? = some r ∧ r.length = sz ∧ (a.eval p.2).cells.toList.length = r.length ∧ (∀ v ∈ (a.eval p.2).cells.toList, v.oneCell' = true) ∧ ∀ (j : Nat) y v, r[j]? = some y → (a.eval p.2).cells.toList[j]? = some v → Rep w Fx β (gens M) y v := fun q p hq => by
  obtain ⟨y, hy, he⟩ := q1 q p hq
  obtain ⟨r, hr, hc⟩ := q2 q y hy
  obtain ⟨c1, c2, c3⟩ := (hsl.ev he).cells hc
  exact ⟨r, hr, Nat.eq_of_beq_eq_true (List.all_eq_true.1 hsz r (List.mem_of_getElem? hr)), c1, c2, c3⟩
 let vs := parts.toList.map fun p => a.eval p.2
 have hvs : vs.length = n := by simp [vs]; simpa using hn
 have hv1 : ∀ v ∈ vs, v.cells.size = sz := fun v hv => by
  obtain ⟨q, hq⟩ := List.getElem?_of_mem hv
  simp only [vs, List.getElem?_map] at hq
  cases hp' : parts.toList[q]? with
  | none => rw [hp'] at hq; cases hq
  | some p =>
   rw [hp'] at hq
   obtain rfl := Option.some.inj hq
   obtain ⟨r, _, hrl, hcl, _⟩ := hval q p hp'
   rw [← hrl, ← hcl]
   simp
 have hparts : (parts.map fun (i, x) => (i, a.eval x)).toList = (vs.zipIdx 0).map fun x => (x.2, x.1) := by
  apply List.ext_getElem?
  intro q
  rw [Array.toList_map, List.getElem?_map, List.getElem?_map, List.getElem?_zipIdx]
  simp only [vs, List.getElem?_map]
  cases hp' : parts.toList[q]? with
  | none => rfl
  | some p =>
   have hq : q < n := by rw [← hn]; exact (List.getElem?_eq_some_iff.1 hp').1
   have e1 : (parts.toList.map (·.1))[q]? = (List.range n)[q]? := by rw [hi]
   rw [List.getElem?_map, hp', List.getElem?_range hq] at e1
   have e2 : p.1 = q := by simpa using e1
   simp [e2]
 have hfill := Go.Great.fill_whole h9 vs ((Array.range (n * sz)).map (z.cells[· % z.cells.size]!)) hv1 (by simp [hvs])
 have hpos : ¬ n * i.size = 0 := by rw [h4]; have := Nat.mul_pos hn0' h9; omega
 have hsm : ¬ n * i.size > 2 ^ 24 := by rw [h4]; have := Nat.le_of_ble_eq_true h24; omega
 have hrun := run_buildSlice (P := P) w t e n (parts.map fun (i, x) => (i, a.eval x)) _ i z h1 h2 h3 hsm hpos (by rw [h4, hparts]; exact hfill)
 refine ⟨_, _, vs.flatMap fun v => v.cells.toList, by unfold execOp; simp only [ho, Sem.run_bind, hrun, Result.andThen_ok]; rfl, World.grownBy_alloc w _ none, ?_, fun k hk => by simp [blockOf] at hk; omega, ?_⟩
 · have hl : (vs.flatMap fun v => v.cells.toList).length = n * sz := by
    have := Go.Great.fill_dense h9 vs 0 ((Array.range (n * sz)).map (z.cells[· % z.cells.size]!)) hv1 (by simp [hvs])
    obtain ⟨r, hr, hsz', _⟩ := this
    rw [hfill] at hr
    obtain rfl := Option.some.inj hr
    simpa using hsz'
   refine ⟨by rw [hl, hesl], .inr ⟨w.heap.size, n, _, by rw [hesl], hh.bs, heap_alloc_new w _, by omega, ?_, by simpa using hl, ?_⟩⟩
   · have := Nat.le_of_ble_eq_true h24
     have h3 : n * 1 ≤ n * sz := Nat.mul_le_mul_left _ h9
     simp only [maxLen]
     omega
   · rw [hesl]
     exact List.take_of_length_le (by simp [hl])
 · have hl : (vs.flatMap fun v => v.cells.toList).length = n * sz := by
    have := Go.Great.fill_dense h9 vs 0 ((Array.range (n * sz)).map (z.cells[· % z.cells.size]!)) hv1 (by simp [hvs])
    obtain ⟨r, hr, hsz', _⟩ := this
    rw [hfill] at hr
    obtain rfl := Option.some.inj hr
    simpa using hsz'
   refine ⟨by rw [hl, hesl], fun q r hr => ?_⟩
   have hq : q < n := by rw [← hesl]; exact (List.getElem?_eq_some_iff.1 hr).1
   have hp' := List.getElem?_eq_getElem (l := parts.toList) (i := q) (by omega)
   obtain ⟨r', hr', hrl, hcl, hone, hrep⟩ := hval q _ hp'
   rw [hr] at hr'
   obtain rfl := Option.some.inj hr'
   refine ⟨hrl, fun j x hx => ?_⟩
   have hj : j < sz := by rw [← hrl]; exact (List.getElem?_eq_some_iff.1 hx).1
   have hj2 : j < (a.eval parts.toList[q].2).cells.toList.length := by omega
   refine ⟨(a.eval parts.toList[q].2).cells.toList[j], ?_, hone _ (List.getElem_mem hj2), hrep j x _ hx (List.getElem?_eq_getElem hj2)⟩
   rw [Go.Great.flat_get h9 vs hv1]
   have e1 : (q * sz + j) / sz = q := by rw [Nat.add_comm, Nat.add_mul_div_right _ _ h9, Nat.div_eq_of_lt hj, Nat.zero_add]
   have e2 : (q * sz + j) % sz = j := by rw [Nat.add_comm, Nat.add_mul_mod_self_right, Nat.mod_eq_of_lt hj]
   rw [e1, e2]
   simp only [vs, List.getElem?_map, hp', Option.map_some, Option.bind_some]
   exact List.getElem?_eq_getElem hj2 ▸ (by simp)
theorem POp.literal {t e : TypeId} {sz bytes n : Nat} {zs : List Value} {parts : Array (Nat × Operand)} {ys : List AV} {es : List (List AV)} (ho : o.op = .buildSlice t n parts) (hr : rwk P t = some (e, sz, bytes, zs)) (hp : parts.toList.mapM (fun p => evA tm p.2) = some ys) (hi : parts.toList.map (·.1) = List.range n)
 (hes : ys.mapM cellsA = some es) (hsz : es.all (fun r => Nat.beq r.length sz) = true) (h24 : Nat.ble (n * sz) 16777216 = true) (hn0 : Nat.blt 0 n = true) : POp P o E tm M (.own M.length 0) (M ++ [some ⟨e, sz, 0, false, es⟩]) := POp.newRow (RowRun.literal ho hr hp hi hes hsz h24 hn0)
theorem QOp.len_own {x : Operand} {t e : TypeId} {n id g : Nat} {b : Blk} (ho : o.op = .call { callee := .builtin .len, args := #[x], argTypes := #[t] }) (ht : slk P t = some (e, n)) (hx : evA tm x = some (.own id g)) (hM : M[id]? = some (some b)) (hg : b.gen = g) (hb : b.box = false) :
 QOp P o tm M (.c (.int .i64 b.es.length)) := fun base w0 a w Fx β hh hs => by
 have hrep := hs.ev hx
 generalize hu : a.eval x = u at hrep
 cases hrep with
 | own h1 hi hgg h =>
  obtain ⟨⟨u, pv⟩, hv, rfl⟩ := h (by rw [← hg]; exact gens_of hM)
  obtain ⟨v, hv', _, h2⟩ := hh.blk _ _ hM
  rw [hv] at hv'
  obtain rfl := Option.some.inj hv'
  rw [hb] at h2
  obtain ⟨xs, hown, _⟩ := h2
  dsimp only at hown hu
  refine ⟨_, fun w' _ => ?_, .c _⟩
  rcases hown.2 with ⟨rfl, hn⟩ | ⟨g', cap, cur, rfl, _⟩
  · simp [execOp, ho, resolve, invoke, builtin, hu, Builtin.len_, run_underlying (slk_inv ht).1, goInt, hn]
  · simp [execOp, ho, resolve, invoke, builtin, hu, Builtin.len_, run_underlying (slk_inv ht).1, goInt]
theorem QOp.at_own {x y : Operand} {t e : TypeId} {sz id g : Nat} {b : Blk} {k : IntKind} {n : Int} (ho : o.op = .indexAddr t x y) (ht : slk P t = some (e, sz)) (hx : evA tm x = some (.own id g)) (hy : sc tm y = some (.int k n)) (hM : M[id]? = some (some b)) (hg : b.gen = g) (hb : b.box = false) (hsz : b.sz = sz)
 (h0 : 0 ≤ n) (hlt : n.toNat < b.es.length) : QOp P o tm M (.ref id g sz n.toNat 0) := fun base w0 a w Fx β hh hs => by
 have hrep := hs.ev hx
 generalize hu : a.eval x = u at hrep
 cases hrep with
 | own h1 hi hgg h =>
  obtain ⟨⟨u, pv⟩, hv, rfl⟩ := h (by rw [← hg]; exact gens_of hM)
  obtain ⟨v, hv', _, h2⟩ := hh.blk _ _ hM
  rw [hv] at hv'
  obtain rfl := Option.some.inj hv'
  rw [hb] at h2
  obtain ⟨xs, hown, _⟩ := h2
  dsimp only at hown hu
  rcases hown.2 with ⟨rfl, hn⟩ | ⟨g', cap, cur, rfl, _⟩
  · omega
  · obtain ⟨i0, hi0, hs0⟩ := info_size (slk_inv ht).2
    refine ⟨.pointer (some ⟨g', n.toNat * sz + 0, none⟩), fun w' _ => ?_, .ref rfl hi hgg fun hG => ⟨_, g', hv, rfl, rfl⟩⟩
    have h2 : n < (b.es.length : Int) := by omega
    have e : (⟨g', 0, none⟩ : Addr).add (n.toNat * sz) = ⟨g', n.toNat * sz, none⟩ := by rw [Addr.add_mid, Nat.zero_add]
    simp [execOp, ho, hu, hs.sc hy, Instr.indexAt, asIntOf, run_underlying (slk_inv ht).1, h0, h2, sizeOf, typeInfo, hi0, hs0, e]
end
end Go.Proofs.YtpffahmmklpifaaGreat.Abs
