/- How rows with trees are seen, frozen, handed back by a body and taken by its caller. -/
import Derived.Test.YtpffahmmklpifaaGreatAbsTR
namespace Go.Proofs.YtpffahmmklpifaaGreat.Abs
open Go.RowKit
set_option linter.unusedVariables false
set_option linter.unusedSimpArgs false

section
variable {P : Program} {E : Env} {tm : List AV} {M : Mem} {o : Oper} {w w0 : World} {Fx : Nat → Prop} {β : List Hd} {base : Nat} {G : List (Option Nat)}
theorem View.deep {id g : Nat} {b : Blk} (hM : M[id]? = some (some b)) (hg : b.gen = g) (hb : b.box = false) (hc : DCl b.es) : View M (.own id g) (.ro b.sz (undpR b.es)) := fun base w0 w Fx β Fc u hh hF hown hr => by
 cases hr with
 | own ho1 hi hg1 h =>
  obtain ⟨v, hvv, rfl⟩ := h (by rw [← hg]; exact gens_of hM)
  obtain ⟨v', hv', hok⟩ := hh.blk id b hM
  rw [hvv] at hv'
  obtain rfl := Option.some.inj hv'
  exact (hok.tree hb hc).rep fun k hk => hown id b v k hM hvv hk
theorem View.agg {cs cs' : List AV} (hl : cs'.length = cs.length) (h : ∀ (i : Nat) x x', cs[i]? = some x → cs'[i]? = some x' → View M x x') : View M (.agg cs) (.agg cs') := fun base w0 w Fx β Fc u hh hF hown hr => by
 cases hr with
 | agg hl2 ho h3 => exact .agg (by rw [hl2, hl]) ho (fun i x' u hx hu => by
  have hlt : i < cs.length := by rw [← hl]; exact (List.getElem?_eq_some_iff.1 hx).1
  exact h i _ x' (List.getElem?_eq_getElem hlt) hx _ _ _ _ _ _ _ hh hF hown (h3 i _ u (List.getElem?_eq_getElem hlt) hu))
inductive VwL (M : Mem) : List AV → List AV → Prop where
 | nil : VwL M [] []
 | cons {x x' : AV} {l l' : List AV} (h : View M x x') (hl : VwL M l l') : VwL M (x :: l) (x' :: l')
theorem VwL.get : ∀ {l l' : List AV}, VwL M l l' → l'.length = l.length ∧ ∀ (i : Nat) x x', l[i]? = some x → l'[i]? = some x' → View M x x'
 | _, _, .nil => ⟨rfl, fun i x x' h => by simp at h⟩
 | _, _, .cons h hl => by
  obtain ⟨h1, h2⟩ := hl.get
  refine ⟨by simp [h1], fun i x x' hx hx' => ?_⟩
  cases i with
  | zero => simp at hx hx'; subst hx hx'; exact h
  | succ i => exact h2 i x x' (by simpa using hx) (by simpa using hx')
theorem View.own {id g sz : Nat} {b : Blk} {es' : List (List AV)} (hM : M[id]? = some (some b)) (hg : b.gen = g) (hb : b.box = false) (hsz : b.sz = sz) (hc : DCl b.es) (he : undpR b.es = es') : View M (.own id g) (.ro sz es') := he ▸ hsz ▸ View.deep hM hg hb hc
theorem View.agg' {cs cs' : List AV} (h : VwL M cs cs') : View M (.agg cs) (.agg cs') := View.agg h.get.1 h.get.2

inductive Adopt (n : Nat) : AV → AV → Prop where
 | nil : Adopt n (.c (.slice none 0 0)) (.own n 0)
 | agg {cs : List AV} (i : Nat) (h : cs[i]? = some (.c (.slice none 0 0))) : Adopt n (.agg cs) (.agg (cs.set i (.own n 0)))
theorem Sim.adopt {a : Act} {t : Nat} {x x' : AV} (h : Sim E tm M a w) (ty : TypeId) (sz : Nat) (ht : tm[t]? = some x) (hx : Adopt M.length x x') : Sim E (tm.set t x') (M ++ [some ⟨ty, sz, 0, false, []⟩]) a w := by
 obtain ⟨hd, Fx, β, hh, ho, hsl⟩ := h
 obtain ⟨hh', hn⟩ := hh.addRow (t := ty) (sz := sz) (es := []) (xs := []) (v := .slice none 0 0) ⟨rfl, rfl, rfl, Nat.le_refl _, fun _ _ _ => rfl⟩ ⟨by simp, .inl ⟨rfl, rfl⟩⟩ (fun k hk => by simp [blockOf] at hk) ⟨by simp, fun i r hr => by simp at hr⟩
 have hown : Rep w Fx (β ++ [Hd.flat (.slice none 0 0)]) (gens (M ++ [some ⟨ty, sz, 0, false, []⟩])) (.own M.length 0) (.slice none 0 0) := .own rfl (by simp [gens_length]) (fun _ _ => Nat.zero_le _) (fun _ => ⟨Hd.flat (.slice none 0 0), by simp [← hh.len], rfl⟩)
 refine ⟨hd, Fx, _, hh', ⟨ho.mv.trans hn.mv, ho.size, ho.lim, fun id b v k h1 h2 h3 => ?_⟩, by rw [hsl.1]; simp, fun t' y u hy hu => ?_⟩
 · rcases hn.own id b v k h1 h2 h3 with h | ⟨id', b', v', g1, g2, g3⟩
   · exact .inl (Nat.le_trans ho.size h)
   · exact ho.own id' b' v' k g1 g2 g3
 · rcases set_get hy with ⟨rfl, rfl, _⟩ | ⟨_, hy⟩
   · have hr := (hsl.2 t' x u ht hu).mv hn.mv
     cases hx with
     | nil =>
      obtain rfl := hr.c_inv
      exact hown
     | agg i hi =>
      cases hr with
      | agg hl h1 h2 =>
       refine .agg (by simpa using hl) h1 (fun q z v hz hv => ?_)
       rcases set_get hz with ⟨rfl, rfl, _⟩ | ⟨_, hz⟩
       · obtain rfl := (h2 q _ v hi hv).c_inv
         exact hown
       · exact h2 q z v hz hv
   · exact (hsl.2 t' y u hy hu).mv hn.mv
theorem AW.adopt {t : Nat} {x x' : AV} {c : Code} {Qx : XPost} (ty : TypeId) (sz : Nat) (ht : tm[t]? = some x) (hx : Adopt M.length x x') (h : AW P c E (tm.set t x') (M ++ [some ⟨ty, sz, 0, false, []⟩]) Qx) : AW P c E tm M Qx := fun a w Q hs k => h a w Q (hs.adopt ty sz ht hx) k

def Ren (M : Mem) (ids : List Nat) (x x' : AV) : Prop := ∀ w Fx β u, Rep w Fx β (gens M) x u → Rep w Fx (ids.map fun id => (β[id]?).getD (Hd.flat undef)) (ids.map fun _ => some 0) x' u
theorem Ren.own {ids : List Nat} {id g pos : Nat} {b : Blk} (hM : M[id]? = some (some b)) (hg : b.gen = g) (hp : ids[pos]? = some id) : Ren M ids (.own id g) (.own pos 0) := fun w Fx β u hr => by
 cases hr with
 | own ho hi hg1 h =>
  obtain ⟨hd, h1, h2⟩ := h (by rw [← hg]; exact gens_of hM)
  refine .own ho (by simpa using (List.getElem?_eq_some_iff.1 hp).1) (fun _ _ => Nat.zero_le _) (fun _ => ⟨hd, ?_, h2⟩)
  rw [List.getElem?_map, hp]
  simp [h1]
theorem Ren.clo {ids : List Nat} {x : AV} (h : Clo x) : Ren M ids x x := fun w Fx β u hr => (h _ _ _ _ _ hr.cr).of_clo
theorem Ren.agg {ids : List Nat} {cs cs' : List AV} (hl : cs'.length = cs.length) (h : ∀ (i : Nat) x x', cs[i]? = some x → cs'[i]? = some x' → Ren M ids x x') : Ren M ids (.agg cs) (.agg cs') := fun w Fx β u hr => by
 cases hr with
 | agg hl2 ho h3 => exact .agg (by rw [hl2, hl]) ho (fun i x' u hx hu => by
  have hlt : i < cs.length := by rw [← hl]; exact (List.getElem?_eq_some_iff.1 hx).1
  exact h i _ x' (List.getElem?_eq_getElem hlt) hx _ _ _ _ (h3 i _ u (List.getElem?_eq_getElem hlt) hu))
theorem Ren.tup {ids : List Nat} {cs cs' : List AV} (hl : cs'.length = cs.length) (h : ∀ (i : Nat) x x', cs[i]? = some x → cs'[i]? = some x' → Ren M ids x x') : Ren M ids (.tup cs) (.tup cs') := fun w Fx β u hr => by
 cases hr with
 | tup hl2 h3 => exact .tup (by rw [hl2, hl]) (fun i x' u hx hu => by
  have hlt : i < cs.length := by rw [← hl]; exact (List.getElem?_eq_some_iff.1 hx).1
  exact h i _ x' (List.getElem?_eq_getElem hlt) hx _ _ _ _ (h3 i _ u (List.getElem?_eq_getElem hlt) hu))
def ren0 (ids : List Nat) : AV → AV
 | .own id _ => .own (ids.idxOf id) 0
 | x => x
def ren1 (ids : List Nat) : AV → AV
 | .agg cs => .agg (cs.map (ren0 ids))
 | x => ren0 ids x
def renA (ids : List Nat) : AV → AV
 | .tup cs => .tup (cs.map (ren1 ids))
 | x => ren1 ids x
def rok0 (M : Mem) (ids : List Nat) : AV → Prop
 | .own id g => (∃ b, M[id]? = some (some b) ∧ b.gen = g) ∧ ids.contains id = true
 | x => Clo x
def rok1 (M : Mem) (ids : List Nat) : AV → Prop
 | .agg cs => ∀ y ∈ cs, rok0 M ids y
 | x => rok0 M ids x
def rokA (M : Mem) (ids : List Nat) : AV → Prop
 | .tup cs => ∀ y ∈ cs, rok1 M ids y
 | x => rok1 M ids x
theorem Ren.a0 {ids : List Nat} {x : AV} (h : rok0 M ids x) : Ren M ids x (ren0 ids x) := by
 cases x with
 | own id g =>
  obtain ⟨⟨b, h1, h2⟩, h3⟩ := h
  refine Ren.own h1 h2 ?_
  have hm : id ∈ ids := by simpa using h3
  rw [List.getElem?_eq_getElem (List.idxOf_lt_length_of_mem hm)]
  simp
 | _ => exact Ren.clo h
theorem Ren.a1 {ids : List Nat} {x : AV} (h : rok1 M ids x) : Ren M ids x (ren1 ids x) := by
 cases x with
 | agg cs =>
  refine Ren.agg (by simp) fun i x x' hx hx' => ?_
  rw [List.getElem?_map, hx] at hx'
  obtain rfl := Option.some.inj hx'
  exact Ren.a0 (h x (List.mem_of_getElem? hx))
 | _ => exact Ren.a0 h
theorem Ren.a {ids : List Nat} {x : AV} (h : rokA M ids x) : Ren M ids x (renA ids x) := by
 cases x with
 | tup cs =>
  refine Ren.tup (by simp) fun i x x' hx hx' => ?_
  rw [List.getElem?_map, hx] at hx'
  obtain rfl := Option.some.inj hx'
  exact Ren.a1 (h x (List.mem_of_getElem? hx))
 | _ => exact Ren.a1 h
def packB (M : Mem) (ids : List Nat) : Mem := ids.map fun id => match M[id]? with
 | some (some b) => some { b with gen := 0 }
 | _ => none
def pkOk (M : Mem) : List Nat → Prop
 | [] => True
 | id :: l => (∃ b, M[id]? = some (some b) ∧ DCl b.es) ∧ pkOk M l
theorem pkOk.get : ∀ {ids : List Nat}, pkOk M ids → ∀ (pos id : Nat), ids[pos]? = some id → ∃ b, M[id]? = some (some b) ∧ DCl b.es ∧ (packB M ids)[pos]? = some (some { b with gen := 0 })
 | [], _, pos, id, h => by simp at h
 | i0 :: l, h, pos, id, hp => by
  cases pos with
  | zero =>
   simp at hp
   subst hp
   obtain ⟨b, h1, h2⟩ := h.1
   exact ⟨b, h1, h2, by simp [packB, h1]⟩
  | succ pos =>
   obtain ⟨b, h1, h2, h3⟩ := pkOk.get h.2 pos id (by simpa using hp)
   exact ⟨b, h1, h2, by simpa [packB] using h3⟩
theorem packB_get {ids : List Nat} (h : pkOk M ids) {pos : Nat} {b : Blk} (hb : (packB M ids)[pos]? = some (some b)) : ∃ id b0, ids[pos]? = some id ∧ M[id]? = some (some b0) ∧ DCl b0.es ∧ b = { b0 with gen := 0 } := by
 have hlt : pos < ids.length := by have := (List.getElem?_eq_some_iff.1 hb).1; simpa [packB] using this
 obtain ⟨b0, h1, h2, h3⟩ := h.get pos _ (List.getElem?_eq_getElem hlt)
 rw [hb] at h3
 simp at h3
 exact ⟨_, b0, List.getElem?_eq_getElem hlt, h1, h2, h3⟩
theorem CellsD.clo {pv : Nat → Prop} {hb : Option Nat} {sz : Nat} {es : List (List AV)} {xs : List Value} (h : CellsD w Fx β G pv hb sz es xs) (hc : DCl es) {Fx' : Nat → Prop} {β' : List Hd} {G' : List (Option Nat)} : CellsD w Fx' β' G' pv hb sz es xs :=
 ⟨h.len, fun i r hr => ⟨(h.cel i r hr).1, fun j x hx => by
  obtain ⟨u, hu, ho, hR⟩ := (h.cel i r hr).2 j x hx
  refine ⟨u, hu, ho, ?_⟩
  have hcd := hc r (List.mem_of_getElem? hr) x (List.mem_of_getElem? hx)
  cases x with
  | c v => obtain rfl := (hR rfl).c_inv; exact fun _ => .c _
  | dp d => exact fun h => by cases h
  | _ => cases hcd⟩, h.deep⟩
theorem BlkOk.clo {b b' : Blk} {h : Hd} (hk : BlkOk w Fx β G base b h) (hc : DCl b.es) {Fx' : Nat → Prop} {β' : List Hd} {G' : List (Option Nat)} {base' : Nat} (e : b' = { b with gen := b'.gen }) (hF : ∀ k, h.has k → base' ≤ k ∧ ¬ Fx' k) : BlkOk w Fx' β' G' base' b' h := by
 obtain ⟨h1, h2⟩ := hk
 refine ⟨fun k hk => ⟨(hF k hk).1, (h1 k hk).2.1, (hF k hk).2⟩, ?_⟩
 rw [e]
 dsimp only
 cases hb : b.box with
 | true =>
  rw [hb] at h2
  obtain ⟨k, xs, a1, a2, a3, a4⟩ := h2
  exact ⟨k, xs, a1, a2, a3, a4.clo hc⟩
 | false =>
  rw [hb] at h2
  obtain ⟨xs, a1, a2⟩ := h2
  exact ⟨xs, own_more a1 fun k hk => (hF k (.inl hk)).1, a2.clo hc⟩
theorem nodup_get {ids : List Nat} (h : ids.Nodup) {p q : Nat} {id : Nat} (hp : ids[p]? = some id) (hq : ids[q]? = some id) : p = q := by
 have h1 := (List.getElem?_eq_some_iff.1 hp).1
 exact (List.getElem?_inj h1 h).1 (hp.trans hq.symm)
theorem HS.pack {ids : List Nat} (hh : HS base w0 w Fx β M) (hn : ids.Nodup) (hok : pkOk M ids) {Fx' : Nat → Prop} (hFs : ∀ k, Fx' k → k < w.heap.size) (hF : ∀ (pos id : Nat) (v : Hd) k, ids[pos]? = some id → β[id]? = some v → v.has k → ¬ Fx' k) :
 HS base w0 w Fx' (ids.map fun id => (β[id]?).getD (Hd.flat undef)) (packB M ids) := by
 have hβ : ∀ {pos : Nat} {v : Hd} {b : Blk}, (packB M ids)[pos]? = some (some b) → (ids.map fun id => (β[id]?).getD (Hd.flat undef))[pos]? = some v → ∃ id b0, ids[pos]? = some id ∧ M[id]? = some (some b0) ∧ DCl b0.es ∧ b = { b0 with gen := 0 } ∧ β[id]? = some v := fun {pos v b} hb hv => by
  obtain ⟨id, b0, h1, h2, h3, h4⟩ := packB_get hok hb
  obtain ⟨v0, hv0, _⟩ := hh.blk id b0 h2
  rw [List.getElem?_map, h1] at hv
  simp [hv0] at hv
  subst hv
  exact ⟨id, b0, h1, h2, h3, h4, hv0⟩
 refine ⟨hh.bel, hh.bs, hFs, by simp [packB], fun pos b hb => ?_, fun p1 p2 b1 b2 v1 v2 k hne h1 h2 hv1 hv2 hk1 hk2 => ?_⟩
 · obtain ⟨id, b0, h1, h2, h3, h4⟩ := packB_get hok hb
   obtain ⟨v0, hv0, hk⟩ := hh.blk id b0 h2
   refine ⟨v0, by rw [List.getElem?_map, h1]; simp [hv0], hk.clo h3 (by rw [h4]) fun k hk' => ⟨(hk.1 k hk').1, hF pos id v0 k h1 hv0 hk'⟩⟩
 · obtain ⟨i1, c1, a1, a2, _, _, a3⟩ := hβ h1 hv1
   obtain ⟨i2, c2, b1, b2, _, _, b3⟩ := hβ h2 hv2
   exact hh.inj i1 i2 _ _ _ _ k (fun e => hne (nodup_get hn a1 (e ▸ b1))) a2 b2 a3 b3 hk1 hk2
theorem gens_packB {ids : List Nat} (hok : pkOk M ids) : gens (packB M ids) = ids.map fun _ => some 0 := by
 apply List.ext_getElem?
 intro p
 rcases Nat.lt_or_ge p ids.length with hp | hp
 · obtain ⟨b, _, _, h⟩ := hok.get p _ (List.getElem?_eq_getElem hp)
   rw [gens_of h, List.getElem?_map, List.getElem?_eq_getElem hp]
   rfl
 · rw [List.getElem?_eq_none (by simp [gens, packB]; exact hp), List.getElem?_eq_none (by simpa using hp)]
theorem Pack.many {r r2 : AV} {ids : List Nat} (hn : ids.Nodup) (hok : pkOk M ids) (h : Ren M ids r r2) : Pack r M r2 (packB M ids) := fun base w0 w Fx β v hh hr => by
 refine ⟨_, hh.pack hn hok hh.fx (fun pos id v k h1 h2 h3 => ?_), ?_, fun pos b v k h1 h2 h3 => ?_⟩
 · obtain ⟨b, g1, _, _⟩ := hok.get pos id h1
   obtain ⟨v', g2, g3⟩ := hh.blk id b g1
   rw [h2] at g2
   obtain rfl := Option.some.inj g2
   exact (g3.1 k h3).2.2
 · rw [gens_packB hok]
   exact h _ _ _ _ hr
 · obtain ⟨id, b0, a1, a2, _, _⟩ := packB_get hok h1
   obtain ⟨v0, a3, _⟩ := hh.blk id b0 a2
   rw [List.getElem?_map, a1] at h2
   simp [a3] at h2
   subst h2
   exact ⟨id, b0, v0, a2, a3, h3⟩
theorem Fin.rows1 {fn : Func} {R : AV → Mem → Prop} {rv : ResultVar} {x : AV} (ids : List Nat) (hf : fn.results = #[rv]) (hx : RV P tm M rv x) (hn : ids.Nodup) (hok : pkOk M ids) (hr : rokA M ids x) (hR : R (renA ids x) (packB M ids)) : Fin P fn R .ret tm M :=
 ⟨.inr rfl, _, ResA.one hf hx, _, _, Pack.many hn hok (Ren.a hr), hR⟩
theorem Fin.rows2 {fn : Func} {R : AV → Mem → Prop} {r1 r2 : ResultVar} {x y : AV} (ids : List Nat) (hf : fn.results = #[r1, r2]) (hx : RV P tm M r1 x) (hy : RV P tm M r2 y) (hn : ids.Nodup) (hok : pkOk M ids) (hr : rokA M ids (.tup [x, y])) (hR : R (renA ids (.tup [x, y])) (packB M ids)) : Fin P fn R .ret tm M :=
 ⟨.inr rfl, _, ResA.two hf hx hy, _, _, Pack.many hn hok (Ren.a hr), hR⟩

def sh0 (n : Nat) : AV → AV
 | .own id g => .own (n + id) g
 | x => x
def sh1 (n : Nat) : AV → AV
 | .agg cs => .agg (cs.map (sh0 n))
 | x => sh0 n x
def shA (n : Nat) : AV → AV
 | .tup cs => .tup (cs.map (sh1 n))
 | x => sh1 n x
theorem sh0_own {n id g : Nat} : sh0 n (.own id g) = .own (n + id) g := rfl
theorem sh0_c {n : Nat} {v : Value} : sh0 n (.c v) = .c v := rfl
theorem sh1_own {n id g : Nat} : sh1 n (.own id g) = .own (n + id) g := rfl
theorem sh1_c {n : Nat} {v : Value} : sh1 n (.c v) = .c v := rfl
theorem sh1_agg {n : Nat} {cs : List AV} : sh1 n (.agg cs) = .agg (cs.map (sh0 n)) := rfl
theorem shA_own {n id g : Nat} : shA n (.own id g) = .own (n + id) g := rfl
theorem shA_c {n : Nat} {v : Value} : shA n (.c v) = .c v := rfl
theorem shA_agg {n : Nat} {cs : List AV} : shA n (.agg cs) = .agg (cs.map (sh0 n)) := rfl
theorem shA_tup {n : Nat} {cs : List AV} : shA n (.tup cs) = .tup (cs.map (sh1 n)) := rfl
def lf0 : AV → Bool
 | .own _ _ => true
 | .c _ => true
 | _ => false
def lf1 : AV → Bool
 | .agg cs => cs.all lf0
 | x => lf0 x
def lfA : AV → Bool
 | .tup cs => cs.all lf1
 | x => lf1 x
theorem lf0_ok {n : Nat} {x : AV} (h : lf0 x = true) : Sh n x (sh0 n x) ∧ FxF x := by
 cases x with
 | own id g => exact ⟨Sh.own, FxF.own⟩
 | c v => exact ⟨Sh.clo (clo_c v), FxF.pur (Pur.c v)⟩
 | _ => cases h
theorem lf1_ok {n : Nat} {x : AV} (h : lf1 x = true) : Sh n x (sh1 n x) ∧ FxF x := by
 cases x with
 | agg cs =>
  refine ⟨Sh.agg (by simp) fun i x x' hx hx' => ?_, FxF.agg fun x hx => (lf0_ok (n := n) (List.all_eq_true.1 h x hx)).2⟩
  rw [List.getElem?_map, hx] at hx'
  obtain rfl := Option.some.inj hx'
  exact (lf0_ok (List.all_eq_true.1 h x (List.mem_of_getElem? hx))).1
 | _ => exact lf0_ok h
theorem lfA_ok {n : Nat} {x : AV} (h : lfA x = true) : Sh n x (shA n x) ∧ FxF x := by
 cases x with
 | tup cs =>
  refine ⟨Sh.tup (by simp) fun i x x' hx hx' => ?_, FxF.tup fun x hx => (lf1_ok (n := n) (List.all_eq_true.1 h x hx)).2⟩
  rw [List.getElem?_map, hx] at hx'
  obtain rfl := Option.some.inj hx'
  exact (lf1_ok (List.all_eq_true.1 h x (List.mem_of_getElem? hx))).1
 | _ => exact lf1_ok h
def rowsOk : Mem → Prop
 | [] => True
 | some b :: l => DCl b.es ∧ rowsOk l
 | none :: l => rowsOk l
theorem rowsOk.get : ∀ {Ms : Mem}, rowsOk Ms → ∀ b, some b ∈ Ms → DCl b.es
 | [], _, b, h => by simp at h
 | some b0 :: l, h, b, hb => by
  rcases List.mem_cons.1 hb with e | hb
  · cases e; exact h.1
  · exact rowsOk.get h.2 b hb
 | none :: l, h, b, hb => by
  rcases List.mem_cons.1 hb with e | hb
  · cases e
  · exact rowsOk.get (Ms := l) h b hb
theorem POp.ko {f : FuncId} {fn : Func} {args : Array Operand} {ts : Array TypeId} {vs vs' : List AV} {r : AV} {Ms : Mem} (ho : o.op = .call { callee := .value (.func f), args := args, argTypes := ts }) (hf : P.funcs[f]? = some fn)
 (hn : (fn.name == "runtime.NumGoroutine") = false) (hb : fn.body.isSome = true) (ha : args.toList.mapM (evA tm) = some vs) (hvw : VwL M vs vs')
 (hc : VCalls P f vs' (fun r' M' => r' = r ∧ M' = Ms)) (hr : lfA r = true) (hms : rowsOk Ms) : POp P o E tm M (shA M.length r) (M ++ Ms) := by
 refine POp.vcall true ho hf hn hb ha hvw.get.1 (fun i x x' hx hx' => ⟨hvw.get.2 i x x' hx hx', fun h => by cases h⟩) hc (fun r' M' hR => ?_)
 · obtain ⟨rfl, rfl⟩ := hR
   exact ⟨fun b hb e he x hx => isCD_clo (hms.get b hb e he x hx), .inr ⟨(lfA_ok (n := 0) hr).2, fun b hb e he x hx => isCD_pur (hms.get b hb e he x hx)⟩, (lfA_ok hr).1, rfl⟩
theorem POp.kd {f : FuncId} {fn : Func} {args : Array Operand} {ts : Array TypeId} {vs vs' : List AV} {r : AV} (ho : o.op = .call { callee := .value (.func f), args := args, argTypes := ts }) (hf : P.funcs[f]? = some fn)
 (hn : (fn.name == "runtime.NumGoroutine") = false) (hb : fn.body.isSome = true) (ha : args.toList.mapM (evA tm) = some vs) (hvw : VwL M vs vs')
 (hc : VCalls P f vs' (fun r' M' => r' = r ∧ M' = [])) (hr : Pur r) : POp P o E tm M r M := by
 refine POp.vcall true ho hf hn hb ha hvw.get.1 (fun i x x' hx hx' => ⟨hvw.get.2 i x x' hx hx', fun h => by cases h⟩) hc (fun r' M' hR => ?_)
 · obtain ⟨rfl, rfl⟩ := hR
   exact ⟨fun b hb => by simp at hb, .inr ⟨.pur hr, fun b hb => by simp at hb⟩, Sh.clo hr.clo, by rw [List.append_nil]⟩
end
end Go.Proofs.YtpffahmmklpifaaGreat.Abs
