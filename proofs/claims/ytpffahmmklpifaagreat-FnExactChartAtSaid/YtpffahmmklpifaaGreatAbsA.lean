/- An abstract memory for walks: values as trees (what is fixed is written out; what the call owns is a numbered row), what they stand for in a world of the model, and that it stays so under every move. -/
import Derived.Below
import Derived.Laws.Rows
import Derived.Laws.OwnMore
import Derived.KernelRfl
namespace Go.Proofs.YtpffahmmklpifaaGreat.Abs
open Go.RowKit
set_option linter.unusedVariables false

inductive AV where
 | c (x : Value)
 | agg (cs : List AV)
 | tup (vs : List AV)
 | ro (sz : Nat) (es : List (List AV))
 | rop (sz : Nat) (es : List (List AV)) (i j : Nat)
 | own (id g : Nat)
 | ref (id g sz i j : Nat)
 | fn (f : Nat) (cap : List AV)
 | any
 | when (t : Bool) (x : AV)
 | dp (x : AV)
 | sub (id g sz i n : Nat)
 | is (u : Value) (x : AV)

structure Blk where
 ty : TypeId
 sz : Nat
 gen : Nat
 box : Bool
 es : List (List AV)

abbrev Mem := List (Option Blk)
def gens (M : Mem) : List (Option Nat) := M.map (·.map (·.gen))

def blockOf : Value → Option Nat
 | .slice (some a) _ _ => some a.block
 | .pointer (some a) => some a.block
 | _ => none

structure Hd where
 v : Value
 pv : Nat → Prop
def Hd.has (h : Hd) (k : Nat) : Prop := blockOf h.v = some k ∨ h.pv k
def Hd.flat (v : Value) : Hd := ⟨v, fun _ => False⟩
theorem Hd.flat_has {v : Value} {k : Nat} : (Hd.flat v).has k ↔ blockOf v = some k := ⟨fun h => h.elim id False.elim, .inl⟩
theorem hd_eq {β β' : List Hd} {i : Nat} (h : β'[i]? = β[i]?) : (β'[i]?).map Hd.v = (β[i]?).map Hd.v := by rw [h]

section
variable (w : World) (Fx : Nat → Prop) (β : List Hd) (G : List (Option Nat))
inductive Rep : AV → Value → Prop where
 | c (x : Value) : Rep (.c x) x
 | agg {cs : List AV} {us : List Value} (hl : us.length = cs.length) (h1 : ∀ u ∈ us, u.oneCell' = true) (h : ∀ (i : Nat) (x : AV) (u : Value), cs[i]? = some x → us[i]? = some u → Rep x u) : Rep (.agg cs) (.agg us.toArray)
 | tup {cs : List AV} {us : List Value} (hl : us.length = cs.length) (h : ∀ (i : Nat) (x : AV) (u : Value), cs[i]? = some x → us[i]? = some u → Rep x u) : Rep (.tup cs) (.tuple us.toArray)
 | ro {sz : Nat} {es : List (List AV)} {a : Option Addr} {cap : Nat} (f : Nat → Nat → Value) (hc : es.length ≤ cap) (hm : es.length ≤ 9223372036854775807)
  (hA : 0 < es.length → ∃ ad, a = some ad ∧ Fx ad.block ∧ ∀ (i : Nat) (r : List AV) (j : Nat), es[i]? = some r → j < sz → w.cell? (ad.add (i * sz + j)) = some (f i j))
  (hl : ∀ (i : Nat) (r : List AV), es[i]? = some r → r.length = sz) (h1 : ∀ i j, (f i j).oneCell' = true) (h : ∀ (i : Nat) (r : List AV) (j : Nat) (x : AV), es[i]? = some r → r[j]? = some x → Rep x (f i j)) : Rep (.ro sz es) (.slice a es.length cap)
 | rop {sz : Nat} {es : List (List AV)} {ad : Addr} {i j : Nat} {r : List AV} (f : Nat → Value) (hr : es[i]? = some r) (hl : r.length = sz) (hj : j < sz) (hF : Fx ad.block)
  (hA : ∀ q, q < sz → w.cell? (ad.add (i * sz + q)) = some (f q)) (h1 : ∀ q, (f q).oneCell' = true) (h : ∀ (q : Nat) (x : AV), r[q]? = some x → Rep x (f q)) : Rep (.rop sz es i j) (.pointer (some (ad.add (i * sz + j))))
 | own {id g : Nat} {u : Value} (ho : u.oneCell' = true) (hi : id < G.length) (hg : ∀ g1, G[id]? = some (some g1) → g ≤ g1) (h : G[id]? = some (some g) → ∃ hd, β[id]? = some hd ∧ hd.v = u) : Rep (.own id g) u
 | ref {id g sz i j : Nat} {u : Value} (ho : u.oneCell' = true) (hi : id < G.length) (hg : ∀ g1, G[id]? = some (some g1) → g ≤ g1)
  (h : G[id]? = some (some g) → ∃ hd b, β[id]? = some hd ∧ blockOf hd.v = some b ∧ u = .pointer (some ⟨b, i * sz + j, none⟩)) : Rep (.ref id g sz i j) u
 | any (u : Value) : Rep .any u
 | sub {id g sz i n : Nat} {u : Value} (ho : u.oneCell' = true) (hi : id < G.length) (hg : ∀ g1, G[id]? = some (some g1) → g ≤ g1)
  (h : G[id]? = some (some g) → ∃ hd a cap, β[id]? = some hd ∧ u = .slice a n cap ∧ n ≤ cap ∧ n ≤ 9223372036854775807 ∧ (0 < n → ∃ b, blockOf hd.v = some b ∧ a = some ⟨b, i * sz, none⟩)) : Rep (.sub id g sz i n) u
 | is {u : Value} {x : AV} (h : Rep x u) : Rep (.is u x) u
 | when {t : Bool} {x : AV} {u : Value} (h : t = true → Rep x u) : Rep (.when t x) u
 | fn {f : Nat} {cs : List AV} {us : List Value} (hl : us.length = cs.length) (h : ∀ (i : Nat) (x : AV) (u : Value), cs[i]? = some x → us[i]? = some u → Rep x u) : Rep (.fn f cs) (.func (.func f) #[] us.toArray)
end

structure Mv (w : World) (Fx : Nat → Prop) (β : List Hd) (G : List (Option Nat)) (w' : World) (Fx' : Nat → Prop) (β' : List Hd) (G' : List (Option Nat)) : Prop where
 fx : ∀ k, Fx k → Fx' k
 heap : ∀ k, Fx k → w'.heap[k]? = w.heap[k]?
 len : G.length ≤ G'.length
 gen : ∀ (id g' : Nat), id < G.length → G'[id]? = some (some g') → ∃ g, G[id]? = some (some g) ∧ g ≤ g' ∧ (g = g' → (β'[id]?).map Hd.v = (β[id]?).map Hd.v)

section
variable {w w' w2 : World} {Fx Fx' Fx2 : Nat → Prop} {β β' β2 : List Hd} {G G' G2 : List (Option Nat)}
theorem Mv.refl : Mv w Fx β G w Fx β G := ⟨fun _ h => h, fun _ _ => rfl, Nat.le_refl _, fun id g' _ h => ⟨g', h, Nat.le_refl _, fun _ => rfl⟩⟩
theorem Mv.trans (h : Mv w Fx β G w' Fx' β' G') (k : Mv w' Fx' β' G' w2 Fx2 β2 G2) : Mv w Fx β G w2 Fx2 β2 G2 :=
 ⟨fun i hi => k.fx i (h.fx i hi), fun i hi => (k.heap i (h.fx i hi)).trans (h.heap i hi), Nat.le_trans h.len k.len, fun id g' hi hg => by
  obtain ⟨g1, h1, l1, e1⟩ := k.gen id g' (Nat.lt_of_lt_of_le hi h.len) hg
  obtain ⟨g0, h0, l0, e0⟩ := h.gen id g1 hi h1
  exact ⟨g0, h0, Nat.le_trans l0 l1, fun e => (e1 (by omega)).trans (e0 (by omega))⟩⟩
theorem Mv.cell (h : Mv w Fx β G w' Fx' β' G') {a : Addr} (ha : Fx a.block) : w'.cell? a = w.cell? a := World.cell?_of_block (h.heap _ ha)
theorem block_add (a : Addr) (n : Nat) : (a.add n).block = a.block := by unfold Addr.add; split <;> rfl

theorem Rep.mv {x : AV} {u : Value} (h : Rep w Fx β G x u) (m : Mv w Fx β G w' Fx' β' G') : Rep w' Fx' β' G' x u := by
 induction h with
 | c x => exact .c x
 | agg hl h1 _ ih => exact .agg hl h1 ih
 | tup hl _ ih => exact .tup hl ih
 | ro f hc hm hA hl h1 _ ih =>
  refine .ro f hc hm (fun h0 => ?_) hl h1 ih
  obtain ⟨ad, ha, hF, hcell⟩ := hA h0
  exact ⟨ad, ha, m.fx _ hF, fun i r j hr hj => (m.cell (by rw [block_add]; exact hF)).trans (hcell i r j hr hj)⟩
 | rop f hr hl hj hF hA h1 _ ih => exact .rop f hr hl hj (m.fx _ hF) (fun q hq => (m.cell (by rw [block_add]; exact hF)).trans (hA q hq)) h1 ih
 | @own id g u ho hi hg h =>
  refine .own ho (Nat.lt_of_lt_of_le hi m.len) (fun g1 h1 => ?_) (fun h1 => ?_)
  · obtain ⟨g0, h0, l0, _⟩ := m.gen _ g1 hi h1
    exact Nat.le_trans (hg g0 h0) l0
  · obtain ⟨g0, h0, l0, e0⟩ := m.gen _ _ hi h1
    have := hg g0 h0
    have e : g0 = g := by omega
    obtain ⟨hd, hv, hu⟩ := h (e ▸ h0)
    have e1 := e0 e
    rw [hv] at e1
    cases hq : β'[id]? with
    | none => rw [hq] at e1; cases e1
    | some hd' => rw [hq] at e1; exact ⟨hd', rfl, (Option.some.inj e1).trans hu⟩
 | @ref id g sz i j u ho hi hg h =>
  refine .ref ho (Nat.lt_of_lt_of_le hi m.len) (fun g1 h1 => ?_) (fun h1 => ?_)
  · obtain ⟨g0, h0, l0, _⟩ := m.gen _ g1 hi h1
    exact Nat.le_trans (hg g0 h0) l0
  · obtain ⟨g0, h0, l0, e0⟩ := m.gen _ _ hi h1
    have := hg g0 h0
    have e : g0 = g := by omega
    obtain ⟨hd, b, hv, hb, hu⟩ := h (e ▸ h0)
    have e1 := e0 e
    rw [hv] at e1
    cases hq : β'[id]? with
    | none => rw [hq] at e1; cases e1
    | some hd' => rw [hq] at e1; exact ⟨hd', b, rfl, by rw [Option.some.inj e1]; exact hb, hu⟩
 | any u => exact .any u
 | @sub id g sz i n u ho hi hg h =>
  refine .sub ho (Nat.lt_of_lt_of_le hi m.len) (fun g1 h1 => ?_) (fun h1 => ?_)
  · obtain ⟨g0, h0, l0, _⟩ := m.gen _ g1 hi h1
    exact Nat.le_trans (hg g0 h0) l0
  · obtain ⟨g0, h0, l0, e0⟩ := m.gen _ _ hi h1
    have := hg g0 h0
    have e : g0 = g := by omega
    obtain ⟨hd, a, cap, hv, hu⟩ := h (e ▸ h0)
    have e1 := e0 e
    rw [hv] at e1
    cases hq : β'[id]? with
    | none => rw [hq] at e1; cases e1
    | some hd' => rw [hq] at e1; exact ⟨hd', a, cap, rfl, by rw [Option.some.inj e1]; exact hu⟩
 | is _ ih => exact .is ih
 | when _ ih => exact .when ih
 | fn hl _ ih => exact .fn hl ih
end

section
variable (w : World) (Fx : Nat → Prop) (β : List Hd) (G : List (Option Nat))
def CellsRep (sz : Nat) (es : List (List AV)) (xs : List Value) : Prop :=
 xs.length = es.length * sz ∧ ∀ (i : Nat) (r : List AV), es[i]? = some r → r.length = sz ∧ ∀ (j : Nat) (x : AV), r[j]? = some x → ∃ u, xs[i * sz + j]? = some u ∧ u.oneCell' = true ∧ Rep w Fx β G x u
def nodp : AV → Bool
 | .dp _ => false
 | _ => true
def CRep (x : AV) (u : Value) : Prop := nodp x = true → Rep w Fx β G x u
inductive RepD : (Nat → Prop) → AV → Value → Prop where
 | c {S : Nat → Prop} (x : Value) : RepD S (.c x) x
 | ro {S : Nat → Prop} {sz : Nat} {es : List (List AV)} {ty : TypeId} {u : Value} {xs : List Value} (pc : Nat → Nat → Nat → Prop) (f : Nat → Nat → Value) (ho : w.ownsRow 0 ty sz u es.length xs) (hk : ∀ k, blockOf u = some k → S k)
  (hpc : ∀ i j k, pc i j k → S k ∧ blockOf u ≠ some k) (hd : ∀ i j i' j' k, pc i j k → pc i' j' k → i = i' ∧ j = j') (hr : ∀ (i : Nat) (r : List AV), es[i]? = some r → r.length = sz)
  (hx : ∀ (i : Nat) (r : List AV) (j : Nat) (x : AV), es[i]? = some r → r[j]? = some x → xs[i * sz + j]? = some (f i j) ∧ (f i j).oneCell' = true) (h : ∀ (i : Nat) (r : List AV) (j : Nat) (x : AV), es[i]? = some r → r[j]? = some x → RepD (pc i j) x (f i j)) : RepD S (.ro sz es) u
 | is {S : Nat → Prop} {u : Value} {x : AV} (h : RepD S x u) : RepD S (.is u x) u
structure CellsD (pv : Nat → Prop) (hb : Option Nat) (sz : Nat) (es : List (List AV)) (xs : List Value) : Prop where
 len : xs.length = es.length * sz
 cel : ∀ (i : Nat) (r : List AV), es[i]? = some r → r.length = sz ∧ ∀ (j : Nat) (x : AV), r[j]? = some x → ∃ u, xs[i * sz + j]? = some u ∧ u.oneCell' = true ∧ CRep w Fx β G x u
 deep : ∃ pc : Nat → Nat → Nat → Prop, (∀ i j k, pc i j k → pv k ∧ hb ≠ some k) ∧ (∀ i j i' j' k, pc i j k → pc i' j' k → i = i' ∧ j = j') ∧
  ∀ (i : Nat) (r : List AV) (j : Nat) (d : AV), es[i]? = some r → r[j]? = some (.dp d) → ∃ u, xs[i * sz + j]? = some u ∧ RepD w (pc i j) d u
def BlkOk (base : Nat) (b : Blk) (h : Hd) : Prop :=
 (∀ k, h.has k → base ≤ k ∧ k < w.heap.size ∧ ¬ Fx k) ∧
 if b.box then ∃ k xs, h.v = .pointer (some ⟨k, 0, none⟩) ∧ w.heap[k]? = some (.cells xs b.ty (0, 0)) ∧ b.es.length = 1 ∧ CellsD w Fx β G h.pv (blockOf h.v) b.sz b.es xs.toList
 else ∃ xs, w.ownsRow base b.ty b.sz h.v b.es.length xs ∧ CellsD w Fx β G h.pv (blockOf h.v) b.sz b.es xs
end

structure HS (base : Nat) (w0 w : World) (Fx : Nat → Prop) (β : List Hd) (M : Mem) : Prop where
 bel : Below base w0 w
 bs : base ≤ w.heap.size
 fx : ∀ k, Fx k → k < w.heap.size
 len : β.length = M.length
 blk : ∀ (id : Nat) (b : Blk), M[id]? = some (some b) → ∃ h, β[id]? = some h ∧ BlkOk w Fx β (gens M) base b h
 inj : ∀ (id id' : Nat) b b' (v v' : Hd) k, id ≠ id' → M[id]? = some (some b) → M[id']? = some (some b') → β[id]? = some v → β[id']? = some v' → v.has k → ¬ v'.has k

section
variable {w w' : World} {Fx Fx' : Nat → Prop} {β β' : List Hd} {G G' : List (Option Nat)}
theorem CellsRep.mv {sz : Nat} {es : List (List AV)} {xs : List Value} (h : CellsRep w Fx β G sz es xs) (m : Mv w Fx β G w' Fx' β' G') : CellsRep w' Fx' β' G' sz es xs :=
 ⟨h.1, fun i r hr => ⟨(h.2 i r hr).1, fun j x hx => by
  obtain ⟨u, hu, h1, hR⟩ := (h.2 i r hr).2 j x hx
  exact ⟨u, hu, h1, hR.mv m⟩⟩⟩
theorem CRep.mv {x : AV} {u : Value} (h : CRep w Fx β G x u) (m : Mv w Fx β G w' Fx' β' G') : CRep w' Fx' β' G' x u := fun hx => (h hx).mv m
theorem Rep.cr {x : AV} {u : Value} (h : Rep w Fx β G x u) : CRep w Fx β G x u := fun _ => h
theorem Rep.nodp {x : AV} {u : Value} (h : Rep w Fx β G x u) : Abs.nodp x = true := by cases h <;> rfl
theorem ownsRow_heap {base : Nat} {ty : TypeId} {sz n : Nat} {v : Value} {xs : List Value} (h : w.ownsRow base ty sz v n xs) (hh : ∀ k, blockOf v = some k → w'.heap[k]? = w.heap[k]?) : w'.ownsRow base ty sz v n xs := by
 obtain ⟨hx, ho⟩ := h
 refine ⟨hx, ?_⟩
 rcases ho with ho | ⟨g, cap, cur, rfl, hg, hk, rest⟩
 · exact .inl ho
 · exact .inr ⟨g, cap, cur, rfl, hg, (hh g rfl).trans hk, rest⟩
theorem RepD.mv {S : Nat → Prop} {x : AV} {u : Value} (h : RepD w S x u) : (∀ k, S k → w'.heap[k]? = w.heap[k]?) → RepD w' S x u := by
 induction h with
 | c x => exact fun _ => .c x
 | is _ ih => exact fun hh => .is (ih hh)
 | ro pc f ho hk hpc hd hr hx _ ih => exact fun hh => .ro pc f (ownsRow_heap ho fun k e => hh k (hk k e)) hk hpc hd hr hx fun i r j x h1 h2 => ih i r j x h1 h2 fun k hp => hh k (hpc i j k hp).1
theorem RepD.mono {S S' : Nat → Prop} {x : AV} {u : Value} (h : RepD w S x u) (hs : ∀ k, S k → S' k) : RepD w S' x u := by
 induction h with
 | c => exact .c _
 | is _ ih => exact .is (ih hs)
 | ro pc f ho hk hpc hd hr hx h _ => exact .ro pc f ho (fun k e => hs k (hk k e)) (fun i j k hp => ⟨hs k (hpc i j k hp).1, (hpc i j k hp).2⟩) hd hr hx h
theorem CellsRep.d {sz : Nat} {es : List (List AV)} {xs : List Value} (h : CellsRep w Fx β G sz es xs) {pv : Nat → Prop} {hb : Option Nat} : CellsD w Fx β G pv hb sz es xs :=
 ⟨h.1, fun i r hr => ⟨(h.2 i r hr).1, fun j x hx => by
  obtain ⟨u, hu, h1, hR⟩ := (h.2 i r hr).2 j x hx
  exact ⟨u, hu, h1, hR.cr⟩⟩, fun _ _ _ => False, fun _ _ _ h => h.elim, fun _ _ _ _ _ h => h.elim, fun i r j d hr hx => by
  obtain ⟨u, _, _, hR⟩ := (h.2 i r hr).2 j _ hx
  cases hR⟩
theorem CellsD.mv {pv : Nat → Prop} {hb : Option Nat} {sz : Nat} {es : List (List AV)} {xs : List Value} (h : CellsD w Fx β G pv hb sz es xs) (m : Mv w Fx β G w' Fx' β' G') (hp : ∀ k, pv k → hb ≠ some k → w'.heap[k]? = w.heap[k]?) : CellsD w' Fx' β' G' pv hb sz es xs := by
 obtain ⟨h1, h2, pc, h3, h4, h5⟩ := h
 refine ⟨h1, fun i r hr => ⟨(h2 i r hr).1, fun j x hx => ?_⟩, pc, h3, h4, fun i r j d hr hx => ?_⟩
 · obtain ⟨u, hu, h1, hR⟩ := (h2 i r hr).2 j x hx
   exact ⟨u, hu, h1, hR.mv m⟩
 · obtain ⟨u, hu, hR⟩ := h5 i r j d hr hx
   exact ⟨u, hu, hR.mv fun k hk => hp k (h3 i j k hk).1 (h3 i j k hk).2⟩
theorem BlkOk.mv {base : Nat} {b : Blk} {v : Hd} (h : BlkOk w Fx β G base b v) (m : Mv w Fx β G w' Fx' β' G') (hs : w.heap.size ≤ w'.heap.size)
 (hh : ∀ k, v.has k → w'.heap[k]? = w.heap[k]?) (hF : ∀ k, v.has k → ¬ Fx' k) : BlkOk w' Fx' β' G' base b v := by
 obtain ⟨h1, h2⟩ := h
 refine ⟨fun k hk => ⟨(h1 k hk).1, Nat.lt_of_lt_of_le (h1 k hk).2.1 hs, hF k hk⟩, ?_⟩
 cases hb : b.box with
 | true =>
  rw [hb] at h2
  obtain ⟨k, xs, hv, hk, hl, hc⟩ := h2
  exact ⟨k, xs, hv, (hh k (.inl (by rw [hv]; rfl))).trans hk, hl, hc.mv m fun k hk _ => hh k (.inr hk)⟩
 | false =>
  rw [hb] at h2
  obtain ⟨xs, ho, hc⟩ := h2
  exact ⟨xs, ownsRow_heap ho fun k hk => hh k (.inl hk), hc.mv m fun k hk _ => hh k (.inr hk)⟩
theorem gens_get {M : Mem} {id : Nat} {g : Nat} (h : (gens M)[id]? = some (some g)) : ∃ b, M[id]? = some (some b) ∧ b.gen = g := by
 unfold gens at h
 rw [List.getElem?_map] at h
 cases hm : M[id]? with
 | none => rw [hm] at h; cases h
 | some o =>
  rw [hm] at h
  cases o with
  | none => simp at h
  | some b => simp at h; exact ⟨b, rfl, h⟩
theorem gens_of {M : Mem} {id : Nat} {b : Blk} (h : M[id]? = some (some b)) : (gens M)[id]? = some (some b.gen) := by
 unfold gens
 rw [List.getElem?_map, h]
 rfl
theorem gens_length (M : Mem) : (gens M).length = M.length := by unfold gens; simp

theorem HS.step {base : Nat} {w0 : World} {M : Mem} (h : HS base w0 w Fx β M) (hb : Below w.heap.size w w') : HS base w0 w' Fx β M ∧ Mv w Fx β (gens M) w' Fx β (gens M) := by
 have m : Mv w Fx β (gens M) w' Fx β (gens M) := ⟨fun _ h => h, fun k hk => hb.block k (h.fx k hk), Nat.le_refl _, fun id g' _ h => ⟨g', h, Nat.le_refl _, fun _ => rfl⟩⟩
 refine ⟨⟨h.bel.trans (hb.mono h.bs), Nat.le_trans h.bs hb.size, fun k hk => Nat.lt_of_lt_of_le (h.fx k hk) hb.size, h.len, fun id b hm => ?_, h.inj⟩, m⟩
 obtain ⟨v, hv, hk⟩ := h.blk id b hm
 exact ⟨v, hv, hk.mv m hb.size (fun k hk' => hb.block k (hk.1 k hk').2.1) (fun k hk' => (hk.1 k hk').2.2)⟩
end
end Go.Proofs.YtpffahmmklpifaaGreat.Abs
