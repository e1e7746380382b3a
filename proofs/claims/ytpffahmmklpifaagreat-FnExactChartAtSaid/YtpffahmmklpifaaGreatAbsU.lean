/- Variables and rows that nothing names any more are let go: for loops that make a variable each round. -/
import Derived.Test.YtpffahmmklpifaaGreatAbsT
namespace Go.Proofs.YtpffahmmklpifaaGreat.Abs
open Go.RowKit
set_option linter.unusedVariables false
set_option linter.unusedSimpArgs false

def Fits (n : Nat) (x : AV) : Prop := ∀ w Fx β G β2 G2 u, β.length = n → G.length = n → Rep w Fx (β ++ β2) (G ++ G2) x u → Rep w Fx β G x u
theorem Fits.any (n : Nat) : Fits n .any := fun w Fx β G β2 G2 u _ _ _ => .any u
theorem Fits.clo {n : Nat} {x : AV} (h : Clo x) : Fits n x := fun w Fx β G β2 G2 u _ _ hr => (h _ _ _ _ _ hr.cr).of_clo
theorem Fits.c (n : Nat) (v : Value) : Fits n (.c v) := Fits.clo (clo_c v)
theorem Fits.own {n id g : Nat} (h : Nat.blt id n = true) : Fits n (.own id g) := fun w Fx β G β2 G2 u hb hG hr => by
 have hlt : id < n := by have := Nat.le_of_ble_eq_true h; omega
 cases hr with
 | own ho hi hg h =>
  have e : (G ++ G2)[id]? = G[id]? := List.getElem?_append_left (by omega)
  have e2 : (β ++ β2)[id]? = β[id]? := List.getElem?_append_left (by omega)
  rw [e] at hg h
  rw [e2] at h
  exact .own ho (by omega) hg h
theorem Fits.ref {n id g sz i j : Nat} (h : Nat.blt id n = true) : Fits n (.ref id g sz i j) := fun w Fx β G β2 G2 u hb hG hr => by
 have hlt : id < n := by have := Nat.le_of_ble_eq_true h; omega
 cases hr with
 | ref ho hi hg h =>
  have e : (G ++ G2)[id]? = G[id]? := List.getElem?_append_left (by omega)
  have e2 : (β ++ β2)[id]? = β[id]? := List.getElem?_append_left (by omega)
  rw [e] at hg h
  rw [e2] at h
  exact .ref ho (by omega) hg h
theorem Fits.nil (n : Nat) : ∀ x ∈ ([] : List AV), Fits n x := fun x h => by simp at h
theorem Fits.cons {n : Nat} {x : AV} {l : List AV} (h : Fits n x) (hl : ∀ y ∈ l, Fits n y) : ∀ y ∈ x :: l, Fits n y := fun y hy => by
 rcases List.mem_cons.1 hy with rfl | hy
 · exact h
 · exact hl y hy
def FitsM (n : Nat) (M : Mem) : Prop := ∀ (b : Blk), some b ∈ M → ∀ r ∈ b.es, ∀ x ∈ r, Fits n x
theorem FitsM.nil (n : Nat) : FitsM n [] := fun b h => by simp at h

section
variable {P : Program} {E : Env} {tm : List AV} {M : Mem}
theorem Sim.drop {a : Act} {w : World} {M1 M2 : Mem} (hE : E.M.length ≤ M1.length) (h : Sim E tm (M1 ++ M2) a w) (hs : ∀ x ∈ tm, Fits M1.length x) (hm : FitsM M1.length M1) : Sim E tm M1 a w := by
 obtain ⟨hd, Fx, β, hh, ho, hsl⟩ := h
 have hlen : β.length = M1.length + M2.length := by rw [hh.len, List.length_append]
 have hβ : β = β.take M1.length ++ β.drop M1.length := (List.take_append_drop _ _).symm
 have hb1 : (β.take M1.length).length = M1.length := by rw [List.length_take]; omega
 have hG : gens (M1 ++ M2) = gens M1 ++ gens M2 := gens_append M1 M2
 have hG1 : (gens M1).length = M1.length := gens_length M1
 have fit : ∀ {x : AV} {u : Value}, Fits M1.length x → Rep w Fx β (gens (M1 ++ M2)) x u → Rep w Fx (β.take M1.length) (gens M1) x u := fun hf hr => by
  rw [hG, hβ] at hr
  exact hf _ _ _ _ _ _ _ hb1 hG1 hr
 have get : ∀ {id : Nat}, id < M1.length → (β.take M1.length)[id]? = β[id]? := fun h => by rw [List.getElem?_take, if_pos h]
 have up : ∀ {id : Nat} {b : Blk}, M1[id]? = some (some b) → (M1 ++ M2)[id]? = some (some b) ∧ id < M1.length := fun h => by
  have hlt := (List.getElem?_eq_some_iff.1 h).1
  exact ⟨by rw [List.getElem?_append_left hlt]; exact h, hlt⟩
 refine ⟨hd, Fx, β.take M1.length, ⟨hh.bel, hh.bs, hh.fx, hb1, fun id b hb => ?_, fun i1 i2 b1 b2 v1 v2 k hne h1 h2 hv1 hv2 hk1 hk2 => ?_⟩, ⟨?_, ho.size, ho.lim, fun id b v k g1 g2 g3 => ?_⟩, hsl.1, fun t x u hx hu => fit (hs x (List.mem_of_getElem? hx)) (hsl.2 t x u hx hu)⟩
 · obtain ⟨hb', hlt⟩ := up hb
   obtain ⟨v, hv, h1, h2⟩ := hh.blk id b hb'
   refine ⟨v, (get hlt).trans hv, h1, ?_⟩
   have crep : ∀ {pv : Nat → Prop} {hb0 : Option Nat} {xs : List Value}, CellsD w Fx β (gens (M1 ++ M2)) pv hb0 b.sz b.es xs → CellsD w Fx (β.take M1.length) (gens M1) pv hb0 b.sz b.es xs := fun hc => ⟨hc.len, fun i r hr => ⟨(hc.cel i r hr).1, fun j x hx => by
    obtain ⟨u, hu, h1, hR⟩ := (hc.cel i r hr).2 j x hx
    exact ⟨u, hu, h1, fun hn => fit (hm b (List.mem_of_getElem? hb) r (List.mem_of_getElem? hr) x (List.mem_of_getElem? hx)) (hR hn)⟩⟩, hc.deep⟩
   cases hbx : b.box with
   | true =>
    rw [hbx] at h2
    obtain ⟨k, xs, hvk, hk, hl, hc⟩ := h2
    exact ⟨k, xs, hvk, hk, hl, crep hc⟩
   | false =>
    rw [hbx] at h2
    obtain ⟨xs, hown, hc⟩ := h2
    exact ⟨xs, hown, crep hc⟩
 · obtain ⟨h1', hl1⟩ := up h1
   obtain ⟨h2', hl2⟩ := up h2
   exact hh.inj i1 i2 b1 b2 v1 v2 k hne h1' h2' ((get hl1).symm.trans hv1) ((get hl2).symm.trans hv2) hk1 hk2
 · refine ⟨ho.mv.fx, ho.mv.heap, by rw [gens_length, gens_length]; exact hE, fun id g' hid hg' => ?_⟩
   rw [gens_length] at hid
   have hlt : id < M1.length := Nat.lt_of_lt_of_le hid hE
   have e : (gens (M1 ++ M2))[id]? = (gens M1)[id]? := by rw [hG, List.getElem?_append_left (by rw [hG1]; exact hlt)]
   obtain ⟨g, h1, h2, h3⟩ := ho.mv.gen id g' (by rw [gens_length]; exact hid) (by rw [e]; exact hg')
   exact ⟨g, h1, h2, fun h => by rw [get hlt]; exact h3 h⟩
 · obtain ⟨g1', hl⟩ := up g1
   exact ho.own id b v k g1' ((get hl).symm.trans g2) g3
theorem AW.loopE {σ : Type} {c : Code} {Qx : XPost} (T : σ → List AV) (Mm : σ → Mem) (hE : ∀ s, E.M.length ≤ (Mm s).length) (m : σ → Nat) (J : σ → Prop) (s0 : σ) (h0 : J s0) (hT : Wk tm (T s0)) (hM : M = Mm s0)
 (round : ∀ s, J s → AW P c E (T s) (Mm s) (fun e tm' M' => match e with | .normal => ∃ s' Mx, J s' ∧ m s' < m s ∧ Wk tm' (T s') ∧ M' = Mm s' ++ Mx ∧ (∀ x ∈ T s', Fits (Mm s').length x) ∧ FitsM (Mm s').length (Mm s') | e => Qx e tm' M')) : AW P (.loop c) E tm M Qx := by
 refine AW.wk hT ?_
 subst hM
 refine AW.loop (fun n tm M => ∃ s, J s ∧ m s = n ∧ tm = T s ∧ M = Mm s) (m s0) ⟨s0, h0, rfl, rfl, rfl⟩ ?_
 rintro n tm M ⟨s, hs, rfl, rfl, rfl⟩
 intro a w Q hsim hq
 refine round s hs a w _ hsim fun e tm' M' a' w' hx hs' => ?_
 cases e with
 | normal =>
  obtain ⟨s', Mx, g1, g2, g3, rfl, g5, g6⟩ := hx
  exact hq .normal (T s') _ _ _ ⟨m s', g2, s', g1, rfl, rfl, rfl⟩ (Sim.drop (hE s') (hs'.wk g3) g5 g6)
 | _ => exact hq _ _ _ _ _ hx hs'
theorem AW.loopD {σ : Type} {c : Code} {Qx : XPost} (hE : E.M = []) (T : σ → List AV) (Mm : σ → Mem) (m : σ → Nat) (J : σ → Prop) (s0 : σ) (h0 : J s0) (hT : Wk tm (T s0)) (hM : M = Mm s0)
 (round : ∀ s, J s → AW P c E (T s) (Mm s) (fun e tm' M' => match e with | .normal => ∃ s' Mx, J s' ∧ m s' < m s ∧ Wk tm' (T s') ∧ M' = Mm s' ++ Mx ∧ (∀ x ∈ T s', Fits (Mm s').length x) ∧ FitsM (Mm s').length (Mm s') | e => Qx e tm' M')) : AW P (.loop c) E tm M Qx :=
 AW.loopE T Mm (fun s => by rw [hE]; exact Nat.zero_le _) m J s0 h0 hT hM round
theorem VCalls.bodyE {f : FuncId} {fn : Func} {c : Code} {args : List AV} {R : AV → Mem → Prop} (hf : P.funcs[f]? = some fn) (hb : fn.body = some c) (n : Nat) (hn : fn.ntmps = args.length + n)
 (h : ∀ E : Env, E.M = [] → AW P c E (args ++ List.replicate n (.c undef)) [] (Fin P fn R)) : VCalls P f args R := VCalls.enter hf hb n hn fun E hE => h E hE
end
end Go.Proofs.YtpffahmmklpifaaGreat.Abs
