/- Calls whose callee sees our rows as lists that stay, and results, over abstract states. -/
import Derived.Test.YtpffahmmklpifaaGreatAbsE
namespace Go.Proofs.YtpffahmmklpifaaGreat.Abs
open Go.RowKit
set_option linter.unusedVariables false
set_option linter.unusedSimpArgs false

theorem own_less {W : World} {b base n : Nat} {e : TypeId} {size : Nat} {v : Value} {xs : List Value} (h : W.ownsRow b e size v n xs) (hle : base ≤ b) : W.ownsRow base e size v n xs := by
 obtain ⟨h1, h2⟩ := h
 exact ⟨h1, h2.imp id fun ⟨g, cap, cur, he, hb, hr⟩ => ⟨g, cap, cur, he, Nat.le_trans hle hb, hr⟩⟩
def Clo (x : AV) : Prop := ∀ w Fx β G u, CRep w Fx β G x u → Rep w Fx [] [] x u
def Pur (x : AV) : Prop := ∀ w Fx β G u, CRep w Fx β G x u → Rep w (fun _ => False) [] [] x u
theorem Pur.clo {x : AV} (h : Pur x) : Clo x := fun w Fx β G u hr => (h w Fx β G u hr).mv ⟨fun _ h => h.elim, fun _ h => h.elim, Nat.le_refl _, fun id g' hi => absurd hi (by simp)⟩
theorem Pur.c (v : Value) : Pur (.c v) := fun w Fx β G u hr => by cases hr rfl; exact .c _
theorem Pur.agg {cs : List AV} (h : ∀ x ∈ cs, Pur x) : Pur (.agg cs) := fun w Fx β G u hr => by
 cases hr rfl with
 | agg hl h1 h2 => exact .agg hl h1 (fun i x u hx hu => h x (List.mem_of_getElem? hx) _ _ _ _ _ (h2 i x u hx hu).cr)
theorem Pur.tup {cs : List AV} (h : ∀ x ∈ cs, Pur x) : Pur (.tup cs) := fun w Fx β G u hr => by
 cases hr rfl with
 | tup hl h2 => exact .tup hl (fun i x u hx hu => h x (List.mem_of_getElem? hx) _ _ _ _ _ (h2 i x u hx hu).cr)
theorem Clo.agg {cs : List AV} (h : ∀ x ∈ cs, Clo x) : Clo (.agg cs) := fun w Fx β G u hr => by
 cases hr rfl with
 | agg hl h1 h2 => exact .agg hl h1 (fun i x u hx hu => h x (List.mem_of_getElem? hx) _ _ _ _ _ (h2 i x u hx hu).cr)
theorem Clo.tup {cs : List AV} (h : ∀ x ∈ cs, Clo x) : Clo (.tup cs) := fun w Fx β G u hr => by
 cases hr rfl with
 | tup hl h2 => exact .tup hl (fun i x u hx hu => h x (List.mem_of_getElem? hx) _ _ _ _ _ (h2 i x u hx hu).cr)
theorem Clo.ro {sz : Nat} {es : List (List AV)} (h : ∀ r ∈ es, ∀ x ∈ r, Clo x) : Clo (.ro sz es) := fun w Fx β G u hr => by
 cases hr rfl with
 | ro f hc hm hA hl h1 h2 => exact .ro f hc hm hA hl h1 (fun i r j x hr hx => h r (List.mem_of_getElem? hr) x (List.mem_of_getElem? hx) _ _ _ _ _ (h2 i r j x hr hx).cr)
theorem Clo.rop {sz i j : Nat} {es : List (List AV)} (h : ∀ r ∈ es, ∀ x ∈ r, Clo x) : Clo (.rop sz es i j) := fun w Fx β G u hr => by
 cases hr rfl with
 | rop f hr' hl hj hF hA h1 h2 => exact .rop f hr' hl hj hF hA h1 (fun q x hx => h _ (List.mem_of_getElem? hr') x (List.mem_of_getElem? hx) _ _ _ _ _ (h2 q x hx).cr)
theorem Clo.fn {f : Nat} {cs : List AV} (h : ∀ x ∈ cs, Clo x) : Clo (.fn f cs) := fun w Fx β G u hr => by
 cases hr rfl with
 | fn hl h2 => exact .fn hl (fun i x u hx hu => h x (List.mem_of_getElem? hx) _ _ _ _ _ (h2 i x u hx hu).cr)
def CloC (x : AV) : Prop := ∀ w Fx β G u, CRep w Fx β G x u → CRep w Fx [] [] x u
def PurC (x : AV) : Prop := ∀ w Fx β G u, CRep w Fx β G x u → CRep w (fun _ => False) [] [] x u
theorem Clo.c {x : AV} (h : Clo x) : CloC x := fun w Fx β G u hr => (h w Fx β G u hr).cr
theorem Pur.cc {x : AV} (h : Pur x) : PurC x := fun w Fx β G u hr => (h w Fx β G u hr).cr
theorem CloC.dp {x : AV} : CloC (.dp x) := fun w Fx β G u hr h => by cases h
theorem PurC.dp {x : AV} : PurC (.dp x) := fun w Fx β G u hr h => by cases h
theorem Rep.of_clo {w : World} {Fx : Nat → Prop} {β : List Hd} {G : List (Option Nat)} {x : AV} {u : Value} (h : Rep w Fx [] [] x u) : Rep w Fx β G x u :=
 h.mv ⟨fun _ h => h, fun _ _ => rfl, by simp, fun id g' hi => absurd hi (by simp)⟩

section
variable {P : Program} {E : Env} {tm : List AV} {M : Mem} {o : Oper} {w w0 : World} {Fx : Nat → Prop} {β : List Hd} {base : Nat}

def View (M : Mem) (x x' : AV) : Prop :=
 ∀ base w0 w Fx β Fc u, HS base w0 w Fx β M → (∀ k, Fx k → Fc k) → (∀ (id : Nat) (b : Blk) (v : Hd) k, M[id]? = some (some b) → β[id]? = some v → v.has k → Fc k) → Rep w Fx β (gens M) x u → Rep w Fc [] [] x' u
theorem Rep.up0 {x : AV} {u : Value} {Fc : Nat → Prop} (h : Rep w Fx [] [] x u) (hF : ∀ k, Fx k → Fc k) : Rep w Fc [] [] x u := h.mv ⟨hF, fun _ _ => rfl, Nat.le_refl _, fun id g' hi => absurd hi (by simp)⟩
theorem View.same {x : AV} (h : Clo x) : View M x x := fun _ _ _ _ _ _ _ _ hF _ hr => (h _ _ _ _ _ hr.cr).up0 hF

theorem HS.rowRep (h : HS base w0 w Fx β M) {id : Nat} {b : Blk} (hM : M[id]? = some (some b)) (hb : b.box = false) (hc : ∀ r ∈ b.es, ∀ x ∈ r, Clo x) {Fx' : Nat → Prop} (hF : ∀ k, Fx k → Fx' k)
 {v : Hd} (hv : β[id]? = some v) (hk : ∀ k, v.has k → Fx' k) : Rep w Fx' [] [] (.ro b.sz b.es) v.v := by
 obtain ⟨v', hv', h1, h2⟩ := h.blk id b hM
 rw [hv] at hv'
 obtain rfl := Option.some.inj hv'
 obtain ⟨v, pv⟩ := v
 rw [hb] at h2
 obtain ⟨xs, ⟨hx1, ho⟩, hcr⟩ := h2
 dsimp only at ho hcr ⊢
 have up : ∀ {x : AV} {u : Value}, Clo x → CRep w Fx β (gens M) x u → Rep w Fx' [] [] x u := fun hx hr => (hx _ _ _ _ _ hr).mv ⟨hF, fun _ _ => rfl, Nat.le_refl _, fun id g' hi => absurd hi (by simp)⟩
 rcases ho with ⟨rfl, hn⟩ | ⟨k, cap, cur, rfl, hg, hkx, hcap, hm, hsz, htake⟩
 · have e : b.es = [] := List.length_eq_zero_iff.1 hn
   rw [e]
   exact Rep.ro (es := []) (fun _ _ => .bool false) (by simp) (by simp) (fun h => absurd h (by simp)) (fun i r hr => by simp at hr) (fun _ _ => rfl) (fun i r j x hr => by simp at hr)
 · have cell : ∀ (i : Nat) (r : List AV) (j : Nat), b.es[i]? = some r → j < b.sz → ∃ u, xs[i * b.sz + j]? = some u ∧ u.oneCell' = true := by
    intro i r j hr hj
    have hrl := (hcr.cel i r hr).1
    obtain ⟨u, hu, h1, _⟩ := (hcr.cel i r hr).2 j r[j] (List.getElem?_eq_getElem (by omega))
    exact ⟨u, hu, h1⟩
   refine Rep.ro (fun i j => if ((xs[i * b.sz + j]?).getD (.bool false)).oneCell' = true then (xs[i * b.sz + j]?).getD (.bool false) else .bool false) hcap (by unfold maxLen at hm; omega) (fun hpos => ⟨⟨k, 0, none⟩, rfl, hk k (.inl rfl), fun i r j hr hj => ?_⟩) (fun i r hr => (hcr.cel i r hr).1) (fun i j => ?_) (fun i r j x hr hx => ?_)
   · obtain ⟨u, hu, ho1⟩ := cell i r j hr hj
     have hlt : i * b.sz + j < xs.length := (List.getElem?_eq_some_iff.1 hu).1
     rw [hu]
     simp only [Option.getD_some, if_pos ho1]
     rw [Addr.add_mid, Nat.zero_add, cell_of_row w k _ cur b.ty (0, 0) hkx]
     rw [← htake, List.getElem?_take] at hu
     split at hu
     · simpa using hu
     · cases hu
   · split
     · assumption
     · rfl
   · obtain ⟨u, hu, ho1, hR⟩ := (hcr.cel i r hr).2 j x hx
     rw [hu]
     simp only [Option.getD_some, if_pos ho1]
     exact up (hc r (List.mem_of_getElem? hr) x (List.mem_of_getElem? hx)) hR

theorem View.row {id g : Nat} {b : Blk} (hM : M[id]? = some (some b)) (hg : b.gen = g) (hb : b.box = false) (hc : ∀ r ∈ b.es, ∀ x ∈ r, Clo x) : View M (.own id g) (.ro b.sz b.es) := fun base w0 w Fx β Fc u hh hF hown hr => by
 cases hr with
 | own ho1 hi hg1 h =>
  obtain ⟨v, hvv, rfl⟩ := h (by rw [← hg]; exact gens_of hM)
  exact hh.rowRep hM hb hc hF hvv (fun k hk => hown id b v k hM hvv hk)

def VCalls (P : Program) (f : FuncId) (args : List AV) (R : AV → Mem → Prop) : Prop := ACalls P f args [] R
def Sh (n : Nat) (r r' : AV) : Prop := ∀ w Fx β G β1 G1 u, β1.length = n → G1.length = n → Rep w Fx β G r u → Rep w Fx (β1 ++ β) (G1 ++ G) r' u
theorem Sh.clo {n : Nat} {x : AV} (h : Clo x) : Sh n x x := fun w Fx β G β1 G1 u _ _ hr => (h _ _ _ _ _ hr.cr).of_clo
theorem Sh.own {n id g : Nat} : Sh n (.own id g) (.own (n + id) g) := fun w Fx β G β1 G1 u h1 h2 hr => by
 cases hr with
 | own ho hi hg h =>
  have e : (G1 ++ G)[n + id]? = G[id]? := by rw [List.getElem?_append_right (by omega)]; congr 1; omega
  have e2 : (β1 ++ β)[n + id]? = β[id]? := by rw [List.getElem?_append_right (by omega)]; congr 1; omega
  exact .own ho (by rw [List.length_append]; omega) (fun g1 hg1 => hg g1 (e ▸ hg1)) (fun hg1 => by rw [e2]; exact h (e ▸ hg1))
theorem Sh.tup {n : Nat} {cs cs' : List AV} (hl : cs'.length = cs.length) (h : ∀ (i : Nat) x x', cs[i]? = some x → cs'[i]? = some x' → Sh n x x') : Sh n (.tup cs) (.tup cs') := fun w Fx β G β1 G1 u h1 h2 hr => by
 cases hr with
 | tup hl2 h3 => exact .tup (by rw [hl2, hl]) (fun i x' u hx hu => by
  have hlt : i < cs.length := by rw [← hl]; exact (List.getElem?_eq_some_iff.1 hx).1
  exact h i _ x' (List.getElem?_eq_getElem hlt) hx _ _ _ _ _ _ _ h1 h2 (h3 i _ u (List.getElem?_eq_getElem hlt) hu))
theorem Sh.agg {n : Nat} {cs cs' : List AV} (hl : cs'.length = cs.length) (h : ∀ (i : Nat) x x', cs[i]? = some x → cs'[i]? = some x' → Sh n x x') : Sh n (.agg cs) (.agg cs') := fun w Fx β G β1 G1 u h1 h2 hr => by
 cases hr with
 | agg hl2 ho h3 => exact .agg (by rw [hl2, hl]) ho (fun i x' u hx hu => by
  have hlt : i < cs.length := by rw [← hl]; exact (List.getElem?_eq_some_iff.1 hx).1
  exact h i _ x' (List.getElem?_eq_getElem hlt) hx _ _ _ _ _ _ _ h1 h2 (h3 i _ u (List.getElem?_eq_getElem hlt) hu))

def FxF (r : AV) : Prop := ∀ w Fx Fx2 β G u, Rep w Fx β G r u → Rep w Fx2 β G r u
theorem FxF.pur {r : AV} (h : Pur r) : FxF r := fun w Fx Fx2 β G u hr => (((h _ _ _ _ _ hr.cr).mv ⟨fun _ h => h.elim, fun _ h => h.elim, Nat.le_refl _, fun id g' hi => absurd hi (by simp)⟩ : Rep w Fx2 [] [] r u)).of_clo
theorem FxF.own {id g : Nat} : FxF (.own id g) := fun w Fx Fx2 β G u hr => by
 cases hr with
 | own h1 h2 h3 h4 => exact .own h1 h2 h3 h4
theorem FxF.agg {cs : List AV} (h : ∀ x ∈ cs, FxF x) : FxF (.agg cs) := fun w Fx Fx2 β G u hr => by
 cases hr with
 | agg hl h1 h2 => exact .agg hl h1 (fun i x u hx hu => h x (List.mem_of_getElem? hx) _ _ _ _ _ _ (h2 i x u hx hu))
theorem FxF.tup {cs : List AV} (h : ∀ x ∈ cs, FxF x) : FxF (.tup cs) := fun w Fx Fx2 β G u hr => by
 cases hr with
 | tup hl h2 => exact .tup hl (fun i x u hx hu => h x (List.mem_of_getElem? hx) _ _ _ _ _ _ (h2 i x u hx hu))
def Free (seen : Bool) (r : AV) (M' : Mem) : Prop := seen = false ∨ FxF r ∧ ∀ (b : Blk), some b ∈ M' → ∀ e ∈ b.es, ∀ x ∈ e, PurC x
def RowsClo (M' : Mem) : Prop := ∀ (b : Blk), some b ∈ M' → ∀ e ∈ b.es, ∀ x ∈ e, CloC x

theorem gens_append (M M' : Mem) : gens (M ++ M') = gens M ++ gens M' := by simp [gens]
theorem HS.join (h : HS base w0 w Fx β M) {w' : World} {Fx1 Fx2 : Nat → Prop} {β' : List Hd} {M' : Mem} (hb : Below w.heap.size w w') (h' : HS w.heap.size w w' Fx1 β' M') (hc : RowsClo M')
 (hF : ∀ k, Fx k → Fx2 k) (hlim : ∀ k, Fx2 k → Fx k ∨ (w.heap.size ≤ k ∧ Fx1 k)) (hrep : ∀ (b : Blk), some b ∈ M' → ∀ e ∈ b.es, ∀ x ∈ e, ∀ u, CRep w' Fx1 [] [] x u → CRep w' Fx2 [] [] x u) :
 HS base w0 w' Fx2 (β ++ β') (M ++ M') ∧ Mv w Fx β (gens M) w' Fx2 (β ++ β') (gens (M ++ M')) := by
 have m : Mv w Fx β (gens M) w' Fx2 (β ++ β') (gens (M ++ M')) := ⟨hF, fun k hk => hb.block k (h.fx k hk), by rw [gens_append]; simp, fun id g' hid hg => by
  rw [gens_append, List.getElem?_append_left hid] at hg
  exact ⟨g', hg, Nat.le_refl _, fun _ => hd_eq (List.getElem?_append_left (by rw [h.len, ← gens_length]; exact hid))⟩⟩
 have cases_ : ∀ {id : Nat} {b : Blk}, (M ++ M')[id]? = some (some b) → (id < M.length ∧ M[id]? = some (some b) ∧ (β ++ β')[id]? = β[id]?) ∨ (M.length ≤ id ∧ M'[id - M.length]? = some (some b) ∧ (β ++ β')[id]? = β'[id - M.length]?) := by
  intro id b hb
  rcases Nat.lt_or_ge id M.length with hid | hid
  · exact .inl ⟨hid, by rwa [List.getElem?_append_left hid] at hb, List.getElem?_append_left (by rw [h.len]; exact hid)⟩
  · exact .inr ⟨hid, by rwa [List.getElem?_append_right hid] at hb, by rw [List.getElem?_append_right (by rw [h.len]; exact hid), h.len]⟩
 refine ⟨⟨h.bel.trans (hb.mono h.bs), Nat.le_trans h.bs hb.size, fun k hk => ?_, by simp [h.len, h'.len], fun id b hb' => ?_, fun i1 i2 b1 b2 v1 v2 k hne hb1 hb2 hv1 hv2 hk1 hk2 => ?_⟩, m⟩
 · rcases hlim k hk with h1 | ⟨_, h1⟩
   · exact Nat.lt_of_lt_of_le (h.fx k h1) hb.size
   · exact h'.fx k h1
 · rcases cases_ hb' with ⟨hid, hb0, hβ⟩ | ⟨hid, hb0, hβ⟩
   · obtain ⟨v, hv, hok⟩ := h.blk id b hb0
     refine ⟨v, hβ.trans hv, hok.mv m hb.size (fun k hk => hb.block k (hok.1 k hk).2.1) (fun k hk hF2 => ?_)⟩
     rcases hlim k hF2 with h1 | ⟨h1, _⟩
     · exact (hok.1 k hk).2.2 h1
     · have := (hok.1 k hk).2.1; omega
   · obtain ⟨v, hv, h1, h2⟩ := h'.blk _ b hb0
     have hmem : some b ∈ M' := List.mem_of_getElem? hb0
     have hcl := hc b hmem
     have hrp := hrep b hmem
     have crep : ∀ {pv : Nat → Prop} {hb : Option Nat} {xs : List Value}, CellsD w' Fx1 β' (gens M') pv hb b.sz b.es xs → CellsD w' Fx2 (β ++ β') (gens (M ++ M')) pv hb b.sz b.es xs := fun hcr => ⟨hcr.len, fun i r hr => ⟨(hcr.cel i r hr).1, fun j x hx => by
      obtain ⟨u, hu, ho, hR⟩ := (hcr.cel i r hr).2 j x hx
      exact ⟨u, hu, ho, fun hn => (hrp r (List.mem_of_getElem? hr) x (List.mem_of_getElem? hx) u (hcl r (List.mem_of_getElem? hr) x (List.mem_of_getElem? hx) _ _ _ _ _ hR) hn).of_clo⟩⟩, hcr.deep⟩
     refine ⟨v, hβ.trans hv, fun k hk => ⟨Nat.le_trans h.bs (h1 k hk).1, (h1 k hk).2.1, fun hF2 => ?_⟩, ?_⟩
     · rcases hlim k hF2 with g | ⟨_, g⟩
       · have := h.fx k g; have := (h1 k hk).1; omega
       · exact (h1 k hk).2.2 g
     · cases hbx : b.box with
       | true =>
        rw [hbx] at h2
        obtain ⟨k, xs, hvk, hk, hl, hcr⟩ := h2
        exact ⟨k, xs, hvk, hk, hl, crep hcr⟩
       | false =>
        rw [hbx] at h2
        obtain ⟨xs, ho, hcr⟩ := h2
        exact ⟨xs, own_less ho h.bs, crep hcr⟩
 · rcases cases_ hb1 with ⟨g1, a1, e1⟩ | ⟨g1, a1, e1⟩ <;> rcases cases_ hb2 with ⟨g2, a2, e2⟩ | ⟨g2, a2, e2⟩
   · exact h.inj i1 i2 b1 b2 v1 v2 k hne a1 a2 (e1 ▸ hv1) (e2 ▸ hv2) hk1 hk2
   · obtain ⟨v, hv, hok⟩ := h.blk i1 b1 a1
     obtain ⟨v', hv', hok'⟩ := h'.blk _ b2 a2
     rw [e1, hv] at hv1
     rw [e2, hv'] at hv2
     obtain rfl := Option.some.inj hv1
     obtain rfl := Option.some.inj hv2
     have := (hok.1 k hk1).2.1
     have := (hok'.1 k hk2).1
     omega
   · obtain ⟨v, hv, hok⟩ := h'.blk _ b1 a1
     obtain ⟨v', hv', hok'⟩ := h.blk i2 b2 a2
     rw [e1, hv] at hv1
     rw [e2, hv'] at hv2
     obtain rfl := Option.some.inj hv1
     obtain rfl := Option.some.inj hv2
     have := (hok.1 k hk1).1
     have := (hok'.1 k hk2).2.1
     omega
   · exact h'.inj _ _ b1 b2 v1 v2 k (by omega) a1 a2 (e1 ▸ hv1) (e2 ▸ hv2) hk1 hk2

theorem OpA.vcall {N : NPost} {f : FuncId} {fn : Func} {args : Array Operand} {ts : Array TypeId} {as as' : List AV} {R : AV → Mem → Prop} (seen : Bool) (ho : o.op = .call { callee := .value (.func f), args := args, argTypes := ts }) (hf : P.funcs[f]? = some fn)
 (hn : (fn.name == "runtime.NumGoroutine") = false) (hb : fn.body.isSome = true) (ha : args.toList.mapM (evA tm) = some as) (hvl : as'.length = as.length) (hv : ∀ (i : Nat) x x', as[i]? = some x → as'[i]? = some x' → View M x x' ∧ (seen = false → Clo x ∧ x' = x))
 (hc : VCalls P f as' R) (hN : ∀ r M', R r M' → RowsClo M' ∧ Free seen r M' ∧ ∃ r', Sh M.length r r' ∧ N (dput tm o.dst r') (M ++ M')) : OpA P o E tm M N := by
 intro a w K Q hs hk
 obtain ⟨hd, Fx, β, hh, hout, hsl⟩ := hs
 unfold Oper.wp
 rw [run_call ho hf hn hb, Oper.upon_enter]
 have hargs := hsl.args ha
 let Fc : Nat → Prop := fun k => Fx k ∨ (seen = true ∧ ∃ (id : Nat) (b : Blk) (v : Hd), M[id]? = some (some b) ∧ β[id]? = some v ∧ v.has k)
 have hFc : ∀ k, Fc k → k < w.heap.size := by
  rintro k (h | ⟨_, id, b, v, h1, h2, h3⟩)
  · exact hh.fx k h
  · obtain ⟨v', hv', hok⟩ := hh.blk id b h1
    rw [h2] at hv'
    obtain rfl := Option.some.inj hv'
    exact (hok.1 k h3).2.1
 have hslots : Slots w Fc [] (gens []) as' (args.map a.eval) := by
  refine ⟨by rw [hargs.1, hvl], fun i x' u hx' hu => ?_⟩
  have hlt : i < as.length := by rw [← hvl]; exact (List.getElem?_eq_some_iff.1 hx').1
  have hrx := hargs.2 i _ u (List.getElem?_eq_getElem hlt) hu
  obtain ⟨hview, hsn⟩ := hv i _ x' (List.getElem?_eq_getElem hlt) hx'
  generalize as[i] = x at hrx hview hsn
  rcases Bool.eq_false_or_eq_true seen with hse | hse
  · exact hview _ _ _ _ _ Fc u hh (fun k h => .inl h) (fun id b v k h1 h2 h3 => .inr ⟨hse, id, b, v, h1, h2, h3⟩) hrx
  · obtain ⟨hcl, rfl⟩ := hsn hse
    exact (hcl _ _ _ _ _ hrx.cr).up0 (fun k h => .inl h)
 refine (hc ⟨w.heap.size, w, w, Fc, [], []⟩ _ rfl ⟨Below.refl _ _, Nat.le_refl _, hFc, rfl, fun id b h => by simp at h, fun i1 i2 b1 b2 v1 v2 k _ h => by simp at h⟩ hslots).mono ?_
 rintro e w' ⟨v, r, M', Fx', β', rfl, hR, hh', ho', hrep⟩
 obtain ⟨hrc, hfree, r', hsh, hnn⟩ := hN r M' hR
 have hbel : Below w.heap.size w w' := hh'.bel
 have hβl : β.length = M.length := hh.len
 have hGl : (gens M).length = M.length := gens_length M
 have lim1 : ∀ k, Fx' k → Fc k ∨ w.heap.size ≤ k := fun k hk => by
  rcases ho'.lim k hk with h | h | ⟨id, b, v, h, _⟩
  · exact .inl h
  · exact .inr h
  · simp at h
 rcases hfree with hs0 | ⟨hp, hrows⟩
 · -- nothing of ours was seen
   have hj := hh.join hbel hh' hrc (Fx2 := Fx') (fun k hk => ho'.mv.fx k (.inl hk)) (fun k hk => by
    rcases lim1 k hk with h | h
    · rcases h with h | ⟨h, _⟩
      · exact .inl h
      · rw [hs0] at h; cases h
    · exact .inr ⟨h, hk⟩) (fun b hb e he x hx u hr => hr)
   refine hk _ _ _ _ hnn (Sim.next hd hout hsl hj.1 hj.2 hbel.size (fun k hk => ?_) (fun id b v k g1 g2 g3 => ?_) o.dst (by rw [gens_append]; exact hsh _ _ _ _ _ _ _ hβl hGl hrep))
   · rcases lim1 k hk with h | h
     · rcases h with h | ⟨h, _⟩
       · exact .inl h
       · rw [hs0] at h; cases h
     · exact .inr (.inl h)
   · rcases Nat.lt_or_ge id M.length with hid | hid
     · rw [List.getElem?_append_left hid] at g1
       rw [List.getElem?_append_left (by omega)] at g2
       exact .inr ⟨id, b, v, g1, g2, g3⟩
     · rw [List.getElem?_append_right hid] at g1
       rw [List.getElem?_append_right (by omega), hβl] at g2
       obtain ⟨v', hv', hok⟩ := hh'.blk _ b g1
       rw [g2] at hv'
       obtain rfl := Option.some.inj hv'
       exact .inl (hok.1 k g3).1
 · have hj := hh.join hbel hh' hrc (Fx2 := Fx) (fun k hk => hk) (fun k hk => .inl hk) (fun b hb e he x hx u hr => (hrows b hb e he x hx _ _ _ _ _ hr).mv ⟨fun _ h => h.elim, fun _ h => h.elim, Nat.le_refl _, fun id g' hi => absurd hi (by simp)⟩)
   have hrep2 : Rep w' Fx (β ++ β') (gens (M ++ M')) r' v := by
    rw [gens_append]
    exact hsh _ _ _ _ _ _ _ hβl hGl (hp _ _ _ _ _ _ hrep)
   refine hk _ _ _ _ hnn (Sim.next hd hout hsl hj.1 hj.2 hbel.size (fun k hk => .inl hk) (fun id b v k g1 g2 g3 => ?_) o.dst hrep2)
   rcases Nat.lt_or_ge id M.length with hid | hid
   · rw [List.getElem?_append_left hid] at g1
     rw [List.getElem?_append_left (by omega)] at g2
     exact .inr ⟨id, b, v, g1, g2, g3⟩
   · rw [List.getElem?_append_right hid] at g1
     rw [List.getElem?_append_right (by omega), hβl] at g2
     obtain ⟨v', hv', hok⟩ := hh'.blk _ b g1
     rw [g2] at hv'
     obtain rfl := Option.some.inj hv'
     exact .inl (hok.1 k g3).1
end
end Go.Proofs.YtpffahmmklpifaaGreat.Abs
