/- Parts of rows of ours, and trees in their cells whose values are named: copied, lent. -/
import Derived.Test.YtpffahmmklpifaaGreatAbsSO
namespace Go.Proofs.YtpffahmmklpifaaGreat.Abs
open Go.RowKit
set_option linter.unusedVariables false
set_option linter.unusedSimpArgs false
section
variable {P : Program} {E : Env} {tm : List AV} {M : Mem} {o : Oper} {w w0 : World} {Fx : Nat → Prop} {β : List Hd} {base : Nat} {G : List (Option Nat)}
theorem elemO {t e : TypeId} (h : P.underlying t = some (.slice e)) : P.elem t = e := by simp [Program.elem, h]
theorem QOp.from_own {x y : Operand} {t e : TypeId} {sz id g i m : Nat} {b : Blk} {k : IntKind} {n : Int} (ho : o.op = .slice t x (some y) none none) (ht : slk P t = some (e, sz)) (hx : evA tm x = some (.own id g)) (hy : sc tm y = some (.int k n)) (hM : M[id]? = some (some b)) (hg : b.gen = g) (hb : b.box = false) (hsz : b.sz = sz)
 (h0 : 0 ≤ n) (h1 : n ≤ (b.es.length : Int)) (hi2 : n.toNat = i) (hm : b.es.length - i = m) : QOp P o tm M (.sub id g sz i m) := fun base w0 a w Fx β hh hs => by
 have hrep := hs.ev hx
 generalize hu : a.eval x = u at hrep
 cases hrep with
 | own h1' hi hgg h =>
  obtain ⟨⟨u, pv⟩, hv, rfl⟩ := h (by rw [← hg]; exact gens_of hM)
  obtain ⟨v, hv', _, h2⟩ := hh.blk _ _ hM
  rw [hv] at hv'
  obtain rfl := Option.some.inj hv'
  rw [hb] at h2
  obtain ⟨xs, hown, _⟩ := h2
  dsimp only at hown hu
  obtain ⟨i0, hi0, hs0⟩ := info_size (slk_inv ht).2
  have hun2 : P.underlying t = some (.slice (P.elem t)) := by rw [elemO (slk_inv ht).1]; exact (slk_inv ht).1
  subst hi2 hm hsz
  rcases hown.2 with ⟨rfl, hn⟩ | ⟨g', cap, cur, rfl, _, _, hnc, hcm, _⟩
  · refine ⟨sliced none n.toNat 0 0 b.sz, fun w' _ => ?_, ?_⟩
    · simp [execOp, ho, hu, hs.sc hy, run_sliceAt_slice w' t _ _ _ _ hun2, run_slice_l w' t none 0 0 hun2 k n h0 (by omega), elemO (slk_inv ht).1, sizeOf, typeInfo, hi0, hs0, Result.andThen]
    · unfold sliced
      rw [hn]
      exact .sub rfl hi hgg fun hG => ⟨_, _, _, hv, rfl, by omega, by omega, fun h => by omega⟩
  · refine ⟨sliced (some ⟨g', 0, none⟩) n.toNat b.es.length cap b.sz, fun w' _ => ?_, ?_⟩
    · simp [execOp, ho, hu, hs.sc hy, run_sliceAt_slice w' t _ _ _ _ hun2, run_slice_l w' t _ b.es.length cap hun2 k n h0 h1, elemO (slk_inv ht).1, sizeOf, typeInfo, hi0, hs0, Result.andThen]
    · unfold sliced
      refine .sub rfl hi hgg fun hG => ⟨_, _, _, hv, rfl, by omega, by unfold maxLen at hcm; omega, fun h => ⟨g', rfl, ?_⟩⟩
      rw [if_neg (by omega), Option.map_some, Addr.add_mid, Nat.zero_add]
theorem QOp.upto_own {x y : Operand} {t e : TypeId} {sz id g m : Nat} {b : Blk} {k : IntKind} {n : Int} (ho : o.op = .slice t x none (some y) none) (ht : slk P t = some (e, sz)) (hx : evA tm x = some (.own id g)) (hy : sc tm y = some (.int k n)) (hM : M[id]? = some (some b)) (hg : b.gen = g) (hb : b.box = false) (hsz : b.sz = sz)
 (h0 : 0 ≤ n) (h1 : n ≤ (b.es.length : Int)) (hm : n.toNat = m) : QOp P o tm M (.sub id g sz 0 m) := hm ▸ fun base w0 a w Fx β hh hs => by
 have hrep := hs.ev hx
 generalize hu : a.eval x = u at hrep
 cases hrep with
 | own h1' hi hgg h =>
  obtain ⟨⟨u, pv⟩, hv, rfl⟩ := h (by rw [← hg]; exact gens_of hM)
  obtain ⟨v, hv', _, h2⟩ := hh.blk _ _ hM
  rw [hv] at hv'
  obtain rfl := Option.some.inj hv'
  rw [hb] at h2
  obtain ⟨xs, hown, _⟩ := h2
  dsimp only at hown hu
  obtain ⟨i0, hi0, hs0⟩ := info_size (slk_inv ht).2
  have hun2 : P.underlying t = some (.slice (P.elem t)) := by rw [elemO (slk_inv ht).1]; exact (slk_inv ht).1
  subst hsz
  rcases hown.2 with ⟨rfl, hn⟩ | ⟨g', cap, cur, rfl, _, _, hnc, hcm, _⟩
  · refine ⟨sliced none 0 n.toNat 0 b.sz, fun w' _ => ?_, ?_⟩
    · simp [execOp, ho, hu, hs.sc hy, run_sliceAt_slice w' t _ _ _ _ hun2, run_slice_h w' t none 0 0 hun2 k n h0 (by omega), elemO (slk_inv ht).1, sizeOf, typeInfo, hi0, hs0, Result.andThen]
    · unfold sliced
      refine .sub rfl hi hgg fun hG => ⟨_, _, _, hv, rfl, by omega, by omega, fun h => by omega⟩
  · refine ⟨sliced (some ⟨g', 0, none⟩) 0 n.toNat cap b.sz, fun w' _ => ?_, ?_⟩
    · simp [execOp, ho, hu, hs.sc hy, run_sliceAt_slice w' t _ _ _ _ hun2, run_slice_h w' t _ b.es.length cap hun2 k n h0 (by omega), elemO (slk_inv ht).1, sizeOf, typeInfo, hi0, hs0, Result.andThen]
    · unfold sliced
      refine .sub rfl hi hgg fun hG => ⟨_, _, _, hv, rfl, by omega, by unfold maxLen at hcm; omega, fun h => ⟨g', rfl, ?_⟩⟩
      rw [Nat.zero_mul]
      split
      · rfl
      · simp [Addr.add]
theorem View.sub {id g sz i m : Nat} {b : Blk} {es' : List (List AV)} (hM : M[id]? = some (some b)) (hg : b.gen = g) (hb : b.box = false) (hsz : b.sz = sz) (hc : DCl b.es) (him : i + m ≤ b.es.length) (he : undpR ((b.es.drop i).take m) = es') : View M (.sub id g sz i m) (.ro sz es') := he ▸ fun base w0 w Fx β Fc u hh hF hown hr => by
 cases hr with
 | sub ho1 hi hg1 h =>
  obtain ⟨v, ad, cap, hvv, rfl, hmc, hm, ha⟩ := h (by rw [← hg]; exact gens_of hM)
  obtain ⟨v', hv', hok⟩ := hh.blk id b hM
  rw [hvv] at hv'
  obtain rfl := Option.some.inj hv'
  have hR := (hok.tree hb hc).rep (Fc := Fc) fun k hk => hown id b v k hM hvv hk
  have hlen : (undpR ((b.es.drop i).take m)).length = m := by rw [undpR_length, List.length_take, List.length_drop]; omega
  subst hsz
  obtain ⟨_, h2⟩ := hok
  rw [hb] at h2
  obtain ⟨xs, hown', _⟩ := h2
  have get : ∀ {q : Nat} {r : List AV}, (undpR ((b.es.drop i).take m))[q]? = some r → q < m ∧ (undpR b.es)[q + i]? = some r := fun {q r} hq => by
   have hlt : q < m := by rw [← hlen]; exact (List.getElem?_eq_some_iff.1 hq).1
   refine ⟨hlt, ?_⟩
   unfold undpR at hq ⊢
   rw [List.getElem?_map, List.getElem?_take, if_pos hlt, List.getElem?_drop] at hq
   rw [List.getElem?_map, Nat.add_comm q i]
   exact hq
  generalize hvd : v.v = vv at hR ha hown'
  cases hR with
  | @ro _ _ A cap' f hc' hm' hA hl h1c h =>
   have : Rep w Fc [] [] (.ro b.sz (undpR ((b.es.drop i).take m))) (.slice ad (undpR ((b.es.drop i).take m)).length cap) := by
    refine .ro (fun q j => f (q + i) j) (by rw [hlen]; exact hmc) (by rw [hlen]; exact hm) (fun hp => ?_) (fun q r hq => hl (q + i) r (get hq).2) (fun q j => h1c _ _) (fun q r j z hq hz => h (q + i) r j z (get hq).2 hz)
    rw [hlen] at hp
    obtain ⟨bk, hbk, rfl⟩ := ha hp
    obtain ⟨ad0, e0, hF0, hcell⟩ := hA (by rw [undpR_length]; omega)
    rcases hown'.2 with ⟨e, _⟩ | ⟨g', cap2, cur, e, _⟩
    · simp only [Value.slice.injEq] at e
      rw [e0] at e
      cases e.1
    · simp only [Value.slice.injEq] at e
      rw [e0] at e
      cases e.1
      rw [e0] at hbk
      simp [blockOf] at hbk
      subst hbk
      refine ⟨_, rfl, hF0, fun q r j hq hj => ?_⟩
      have := hcell (q + i) r j (get hq).2 hj
      rw [Addr.add_mid, Nat.zero_add] at this
      rw [Addr.add_mid, show i * b.sz + (q * b.sz + j) = (q + i) * b.sz + j by rw [Nat.add_mul]; omega]
      exact this
   rwa [hlen] at this
theorem View.is {id i j : Nat} {b : Blk} {r : List AV} {u : Value} {x : AV} (hM : M[id]? = some (some b)) (hr : b.es[i]? = some r) (hx : r[j]? = some (.dp (.is u x))) : View M (.c u) x := fun base w0 w Fx β Fc u' hh hF hown hrep => by
 cases hrep
 obtain ⟨v, hv, hok⟩ := hh.blk id b hM
 obtain ⟨xs, hcd, _⟩ := hok.open
 obtain ⟨_, _, pc, h3, _, h5⟩ := hcd
 obtain ⟨u', _, hD⟩ := h5 i r j _ hr hx
 cases hD with
 | is h => exact h.rep fun k hk => hown id b v k hM hv (.inr (h3 i j k hk).1)
theorem View.rows {id g sz : Nat} {b : Blk} {es' : List (List AV)} (hM : M[id]? = some (some b)) (hg : b.gen = g) (hb : b.box = false) (hsz : b.sz = sz) (hn : ∀ r ∈ b.es, ∀ x ∈ r, nodp x = true) (hl : es'.length = b.es.length) (h : ∀ (i : Nat) r r', b.es[i]? = some r → es'[i]? = some r' → r'.length = r.length ∧ ∀ (j : Nat) x x', r[j]? = some x → r'[j]? = some x' → View M x x') : View M (.own id g) (.ro sz es') := fun base w0 w Fx β Fc u hh hF hown hr => by
 cases hr with
 | own ho1 hi hg1 h0 =>
  obtain ⟨v, hvv, rfl⟩ := h0 (by rw [← hg]; exact gens_of hM)
  obtain ⟨v', hv', h1, h2⟩ := hh.blk id b hM
  rw [hvv] at hv'
  obtain rfl := Option.some.inj hv'
  rw [hb] at h2
  obtain ⟨xs, ⟨hx1, ho⟩, hcd⟩ := h2
  have hc := hcd.rep hn
  subst hsz
  rcases ho with ⟨e0, hn0⟩ | ⟨g', cap, cur, e0, _, hk, hcap, hm, hsz, htake⟩
  · have e : es' = [] := List.length_eq_zero_iff.1 (hl.trans hn0)
    subst e
    rw [e0]
    exact Rep.ro (es := []) (fun _ _ => .bool false) (by simp) (by simp) (fun h => absurd h (by simp)) (fun i r hr => by simp at hr) (fun _ _ => rfl) (fun i r j x hr => by simp at hr)
  · rw [e0]
    have hk2 : Fc g' := hown id b v g' hM hvv (.inl (by rw [e0]; rfl))
    have rowOf : ∀ {i : Nat} {r' : List AV}, es'[i]? = some r' → ∃ r, b.es[i]? = some r ∧ r'.length = r.length := fun {i r'} hi => by
     have hlt : i < b.es.length := by rw [← hl]; exact (List.getElem?_eq_some_iff.1 hi).1
     exact ⟨_, List.getElem?_eq_getElem hlt, (h i _ r' (List.getElem?_eq_getElem hlt) hi).1⟩
    have key : ∀ {i j : Nat} {r' : List AV}, es'[i]? = some r' → j < b.sz → ∃ u, xs[i * b.sz + j]? = some u ∧ u.oneCell' = true ∧ ∀ x', r'[j]? = some x' → Rep w Fc [] [] x' u := fun {i j r'} hi hj => by
     obtain ⟨r, hr, hlr⟩ := rowOf hi
     have hrl := (hc.2 i r hr).1
     have hxj := List.getElem?_eq_getElem (l := r) (i := j) (by omega)
     obtain ⟨u, hu, ho, hR⟩ := (hc.2 i r hr).2 j _ hxj
     exact ⟨u, hu, ho, fun x' hx' => (h i r r' hr hi).2 j _ x' hxj hx' _ _ _ _ _ _ _ hh hF hown hR⟩
    rw [← hl]
    refine Rep.ro (fun i j => if ((xs[i * b.sz + j]?).getD (.bool false)).oneCell' = true then (xs[i * b.sz + j]?).getD (.bool false) else .bool false) (by omega) (by unfold maxLen at hm; omega) (fun hpos => ⟨⟨g', 0, none⟩, rfl, hk2, fun i r j hi hj => ?_⟩) (fun i r hi => ?_) (fun i j => ?_) (fun i r j x hi hx => ?_)
    · obtain ⟨u, hu, ho, _⟩ := key hi hj
      rw [hu, Option.getD_some, if_pos ho, Addr.add_mid, Nat.zero_add, cell_of_row w g' _ cur b.ty (0, 0) hk]
      rw [← htake, List.getElem?_take] at hu
      split at hu
      · simpa using hu
      · cases hu
    · obtain ⟨r0, hr0, hlr⟩ := rowOf hi
      rw [hlr]
      exact (hc.2 i r0 hr0).1
    · split
      · assumption
      · rfl
    · obtain ⟨r0, hr0, hlr⟩ := rowOf hi
      have hj : j < b.sz := by rw [← (hc.2 i r0 hr0).1, ← hlr]; exact (List.getElem?_eq_some_iff.1 hx).1
      obtain ⟨u, hu, ho, hR⟩ := key hi hj
      rw [hu, Option.getD_some, if_pos ho]
      exact hR x hx
end
end Go.Proofs.YtpffahmmklpifaaGreat.Abs
