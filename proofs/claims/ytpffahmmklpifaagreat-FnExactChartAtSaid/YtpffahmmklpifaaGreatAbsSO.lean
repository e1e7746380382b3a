/- Calls of the library's that rewrite a row of plain cells in its place, or give it back shorter: what a contract tells of cells, told of rows. -/
import Derived.Test.YtpffahmmklpifaaGreatAbsTH
namespace Go.Proofs.YtpffahmmklpifaaGreat.Abs
open Go.RowKit
set_option linter.unusedVariables false
set_option linter.unusedSimpArgs false

def valOf : AV → Value
 | .c x => x
 | _ => undef
def flatV (es : List (List AV)) : List Value := (es.map fun r => r.map valOf).flatten
structure PlR (sz : Nat) (es : List (List AV)) : Prop where
 len : ∀ r ∈ es, r.length = sz
 cel : ∀ r ∈ es, ∀ x ∈ r, ∃ u : Value, x = .c u ∧ u.oneCell' = true
theorem flat_get {α : Type} {sz : Nat} : ∀ (L : List (List α)), (∀ r ∈ L, r.length = sz) → L.flatten.length = L.length * sz ∧ ∀ (i j : Nat) (r : List α), L[i]? = some r → j < sz → L.flatten[i * sz + j]? = r[j]?
 | [], _ => ⟨by simp, fun i j r h => by simp at h⟩
 | a :: L, h => by
  have ha := h a List.mem_cons_self
  obtain ⟨h1, h2⟩ := flat_get L fun r hr => h r (List.mem_cons_of_mem _ hr)
  refine ⟨by rw [List.flatten_cons, List.length_append, h1, ha, List.length_cons, Nat.add_mul]; omega, fun i j r hi hj => ?_⟩
  cases i with
  | zero =>
   simp at hi
   subst hi
   rw [List.flatten_cons, Nat.zero_mul, Nat.zero_add, List.getElem?_append_left (by omega)]
  | succ i =>
   have e : (i + 1) * sz + j = a.length + (i * sz + j) := by rw [ha, Nat.add_mul]; omega
   rw [List.flatten_cons, e, List.getElem?_append_right (by omega), Nat.add_sub_cancel_left]
   exact h2 i j r (by simpa using hi) hj
section
variable {w : World} {Fx : Nat → Prop} {β : List Hd} {G : List (Option Nat)} {pv : Nat → Prop} {hb : Option Nat} {sz : Nat} {es : List (List AV)} {xs : List Value}
theorem PlR.flat (h : PlR sz es) : (flatV es).length = es.length * sz ∧ ∀ (i j : Nat) (r : List AV), es[i]? = some r → j < sz → (flatV es)[i * sz + j]? = (r[j]?).map valOf := by
 obtain ⟨h1, h2⟩ := flat_get (sz := sz) (es.map fun r => r.map valOf) (fun r hr => by
  obtain ⟨q, hq, rfl⟩ := List.mem_map.1 hr
  rw [List.length_map]; exact h.len q hq)
 refine ⟨by rw [flatV, h1, List.length_map], fun i j r hi hj => ?_⟩
 rw [flatV, h2 i j (r.map valOf) (by rw [List.getElem?_map, hi]; rfl) hj, List.getElem?_map]
theorem CellsD.plain (h : CellsD w Fx β G pv hb sz es xs) (hp : PlR sz es) : xs = flatV es := by
 obtain ⟨f1, f2⟩ := hp.flat
 refine List.ext_getElem? fun q => ?_
 rcases Nat.lt_or_ge q xs.length with hq | hq
 · rw [h.len] at hq
   have h0 : 0 < sz := by
    rcases Nat.eq_zero_or_pos sz with e | e
    · subst e; omega
    · exact e
   have hi : q / sz < es.length := (Nat.div_lt_iff_lt_mul h0).2 hq
   have hr := List.getElem?_eq_getElem hi
   have hl := hp.len _ (List.getElem_mem hi)
   have hj : q % sz < (es[q / sz]).length := by rw [hl]; exact Nat.mod_lt _ h0
   have hx := List.getElem?_eq_getElem hj
   obtain ⟨u, hu, ho, hR⟩ := (h.cel _ _ hr).2 _ _ hx
   obtain ⟨u', hu', _⟩ := hp.cel _ (List.getElem_mem hi) _ (List.getElem_mem hj)
   have hR' := hR (by rw [hu']; rfl)
   rw [hu'] at hR'
   have e := f2 (q / sz) (q % sz) _ hr (Nat.mod_lt _ h0)
   rw [hx, hu', Nat.div_add_mod'] at e
   rw [Nat.div_add_mod'] at hu
   rw [hu, e]
   cases hR'
   rfl
 · rw [List.getElem?_eq_none hq, List.getElem?_eq_none (by rw [f1, ← h.len]; exact hq)]
theorem CellsD.ofPlain (hp : PlR sz es) : CellsD w Fx β G pv hb sz es (flatV es) := by
 obtain ⟨f1, f2⟩ := hp.flat
 refine ⟨f1, fun i r hr => ⟨hp.len r (List.mem_of_getElem? hr), fun j x hx => ?_⟩, fun _ _ _ => False, fun _ _ _ h => h.elim, fun _ _ _ _ _ h => h.elim, fun i r j d hr hx => ?_⟩
 · obtain ⟨u, rfl, ho⟩ := hp.cel r (List.mem_of_getElem? hr) x (List.mem_of_getElem? hx)
   refine ⟨u, ?_, ho, (Rep.c u).cr⟩
   rw [f2 i j r hr (by rw [← hp.len r (List.mem_of_getElem? hr)]; exact (List.getElem?_eq_some_iff.1 hx).1), hx]
   rfl
 · obtain ⟨u, e, _⟩ := hp.cel r (List.mem_of_getElem? hr) _ (List.mem_of_getElem? hx)
   cases e
end
section
variable {P : Program} {f : FuncId} {ty : TypeId} {sz : Nat} {es es' : List (List AV)}
theorem HS.put {base : Nat} {w0 w w' : World} {Fx : Nat → Prop} {β : List Hd} {b : Blk} (hh : HS base w0 w Fx β [some b]) (hb : b.box = false) {hd : Hd} (hv : β[0]? = some hd) {es' : List (List AV)} {v' : Value} (hp : PlR b.sz es') (hg : w.grownBy w' hd.v.ownBlock) (ho : w'.ownsRow base b.ty b.sz v' es'.length (flatV es')) (hk : ∀ k, blockOf v' = some k → blockOf hd.v = some k) :
 HS base w0 w' Fx [⟨v', hd.pv⟩] [some { b with es := es' }] ∧ (∀ k, Fx k → w'.heap[k]? = w.heap[k]?) := by
 obtain ⟨v2, hv2, hok⟩ := hh.blk 0 b rfl
 rw [hv] at hv2
 obtain rfl := Option.some.inj hv2
 have hob : blockOf hd.v = hd.v.ownBlock := by
  have h2 := hok.2
  rw [hb] at h2
  obtain ⟨ys, hoy, _⟩ := h2
  exact own_blockOf hoy
 have fixd : ∀ k, Fx k → w'.heap[k]? = w.heap[k]? := fun k hF => hg.block k (hh.fx k hF) (fun e => (hok.1 k (.inl (by rw [hob, ← e]))).2.2 hF)
 refine ⟨⟨hh.bel.grown hg hh.bs (fun k hk' => (hok.1 k (.inl (by rw [hob, hk']))).1), Nat.le_trans hh.bs hg.size, fun k hF => Nat.lt_of_lt_of_le (hh.fx k hF) hg.size, rfl, fun id b1 h1 => ?_, fun i1 i2 b1 b2 v1 v2 k hne h1 h2 hv1 hv2 hk1 hk2 => ?_⟩, fixd⟩
 · cases id with
   | succ n => simp at h1
   | zero =>
    simp at h1
    subst h1
    refine ⟨_, rfl, fun k hk' => ?_, ?_⟩
    · have h3 := hok.1 k (hk'.elim (fun e => .inl (hk k e)) .inr)
      exact ⟨h3.1, Nat.lt_of_lt_of_le h3.2.1 hg.size, h3.2.2⟩
    · have hbf : ¬ (b.box = true) := by rw [hb]; decide
      show if b.box = true then _ else _
      rw [if_neg hbf]
      exact ⟨_, ho, CellsD.ofPlain hp⟩
 · cases i1 with
   | succ n => simp at h1
   | zero =>
    cases i2 with
    | succ n => simp at h2
    | zero => exact hne rfl
theorem acalls_put {extra : List AV} {ex : List Value} (h1 : PlR sz es) (h2 : PlR sz es') (hl : es'.length = es.length) (hex : ∀ w Fx β G us, Slots w Fx β G extra us → us = ex.toArray)
 (hc : ∀ (w : World) (base : Nat) (v : Value), w.ownsRow base ty sz v es.length (flatV es) → base ≤ w.heap.size → Calls P f (v :: ex).toArray w fun e w' => e = .returned (.tuple #[]) ∧ w.grownBy w' v.ownBlock ∧ w'.ownsRow base ty sz v es.length (flatV es')) :
 ACalls P f (.own 0 0 :: extra) [some ⟨ty, sz, 0, false, es⟩] (fun r M' => r = .c (.tuple #[]) ∧ ∃ Mx, M' = [⟨ty, sz, 0, false, es'⟩].map some ++ Mx) := by
 intro E vals hM hh hsl
 obtain ⟨hs1, hs2⟩ := hsl
 obtain ⟨vl, rfl⟩ : ∃ vl : List Value, vals = vl.toArray := ⟨vals.toList, by simp⟩
 cases vl with
 | nil => simp at hs1
 | cons v vr =>
  have hr0 := hs2 0 (.own 0 0) v rfl (by simp)
  have e : vr = ex := by
   have := hex _ _ _ _ vr.toArray ⟨by simpa using hs1, fun t x u hx hu => hs2 (t + 1) x u hx (by simpa using hu)⟩
   simpa using this
  subst e
  obtain ⟨hd, hv, hdv⟩ : ∃ hd, E.β[0]? = some hd ∧ hd.v = v := by
   cases hr0 with
   | own _ _ _ h => exact h rfl
  obtain ⟨v2, hv2, hok⟩ := hh.blk 0 _ rfl
  rw [hv] at hv2
  obtain rfl := Option.some.inj hv2
  obtain ⟨xs, hown, hcd⟩ : ∃ xs, E.win.ownsRow E.base ty sz hd.v es.length xs ∧ CellsD E.win E.Fx E.β (gens [some ⟨ty, sz, 0, false, es⟩]) hd.pv (blockOf hd.v) sz es xs := hok.2
  obtain rfl := hcd.plain h1
  subst hdv
  have hβ : E.β = [hd] := by
   have := hh.len
   cases hq : E.β with
   | nil => rw [hq] at hv; simp at hv
   | cons x l =>
    rw [hq] at this hv
    simp at this hv
    subst hv
    simp [this]
  refine (hc E.win E.base hd.v hown hh.bs).mono ?_
  rintro e w' ⟨rfl, hg, ho⟩
  obtain ⟨g1, g2⟩ := hh.put (b := ⟨ty, sz, 0, false, es⟩) rfl hv h2 hg (by rw [hl]; exact ho) (fun k hk => hk)
  refine ⟨_, .c (.tuple #[]), [some ⟨ty, sz, 0, false, es'⟩], E.Fx, [hd], rfl, ⟨rfl, [], rfl⟩, g1, ⟨⟨fun _ h => h, g2, ?_, fun id g' hi hg' => ?_⟩, hg.size, fun k hk => .inl hk, fun id b v k q1 q2 q3 => ?_⟩, Rep.c _⟩
  · rw [hM]; simp [gens]
  · rw [hM] at hi ⊢
    rw [hβ]
    exact ⟨g', hg', Nat.le_refl _, fun _ => rfl⟩
  · cases id with
    | succ n => simp at q1
    | zero =>
     simp at q2
     subst q2
     exact .inr ⟨0, ⟨ty, sz, 0, false, es⟩, hd, by rw [hM]; rfl, hv, q3⟩
end
end Go.Proofs.YtpffahmmklpifaaGreat.Abs
