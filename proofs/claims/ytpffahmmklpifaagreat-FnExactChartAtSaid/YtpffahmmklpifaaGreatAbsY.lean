/- A drawn region one of whose operations, wherever it comes, makes a new row or variable. -/
import Derived.Test.YtpffahmmklpifaaGreatAbsX
import Derived.Test.YtpffahmmklpifaaGreatAbsO
namespace Go.Proofs.YtpffahmmklpifaaGreat.Abs
open Go.RowKit
set_option linter.unusedVariables false
set_option linter.unusedSimpArgs false

def MM (M X : Mem) (m : Nat) (L : Array Bool) : Mem := bif L.getD m false then M ++ X else M
section
variable {P : Program} {E : Env} {M X : Mem} {m : Nat} {l : List Oper} {n1 : Nat} {rs tm0 : List AV}
structure DInvM (E : Env) (M X : Mem) (m : Nat) (l : List Oper) (n1 : Nat) (rs tm0 : List AV) (L : Array Bool) (a : Act) (w : World) : Prop where
 sz : L.size = l.length
 down : ∀ (j : Nat) o, L.getD j false = true → l[j]? = some o → ∀ e ∈ o.after, Region.binds .any e = true → L.getD e.on false = true
 first : ∀ j, L.getD j false = true → j < n1
 st : a.defers = [] ∧ ∃ Fx β, HS E.base E.w0 w Fx β (MM M X m L) ∧ Out E w Fx β (MM M X m L) ∧ a.tmps.size = tm0.length ∧ ∀ (t : Nat) u, a.tmps[t]? = some u →
  (∀ (i : Nat) o r, L.getD i false = true → l[i]? = some o → o.dst = some t → rs[i]? = some r → Rep w Fx β (gens (MM M X m L)) r u) ∧ ((∀ (i : Nat) o, L.getD i false = true → l[i]? = some o → o.dst ≠ some t) → ∀ x, tm0[t]? = some x → Rep w Fx β (gens (MM M X m L)) x u)
theorem wpAny_make {Q : Exit → Act → World → Prop} (hc : ChkD l n1) (hn : n1 ≤ l.length) (hm : m < n1) (hrl : rs.length = n1)
 (hops : ∀ (j : Nat) o, j < n1 → l[j]? = some o → ∃ r, rs[j]? = some r ∧ ((j = m ∧ o.guard = none ∧ POp P o E (msk (o.looksAt l.toArray) (run (l.take n1) rs tm0 j)) M r (M ++ X)) ∨ (j ≠ m ∧ ∀ Y, GOp P l.toArray o E (msk (o.looksAt l.toArray) (run (l.take n1) rs tm0 j)) (M ++ Y) r)))
 (hend : ∀ a w, Sim E (run (l.take n1) rs tm0 n1) (M ++ X) a w → wpList P l.toArray Q (l.drop n1) a w) :
 ∀ (fuel : Nat) (L : Array Bool) (a : Act) (w : World), DInvM E M X m l n1 rs tm0 L a w → cnt L ≤ fuel → wpAny P .any l.toArray Q fuel L a w := by
 have hrlen : rs.length = (l.take n1).length := by rw [hrl, List.length_take]; omega
 have tk : ∀ {i : Nat} {o : Oper}, (l.take n1)[i]? = some o → i < n1 ∧ l[i]? = some o := fun {i o} h => by
  rw [List.getElem?_take] at h
  split at h
  · exact ⟨by assumption, h⟩
  · cases h
 have tk2 : ∀ {i : Nat} {o : Oper}, i < n1 → l[i]? = some o → (l.take n1)[i]? = some o := fun hi h => by rw [List.getElem?_take, if_pos hi]; exact h
 -- when all of the first have gone
 have fin : ∀ (fuel : Nat) (L : Array Bool) (a : Act) (w : World), DInvM E M X m l n1 rs tm0 L a w → cnt L ≤ fuel → (∀ i, i < n1 → L.getD i false = true) → wpAny P .any l.toArray Q fuel L a w := by
  intro fuel L a w hI hcnt hall
  refine wpAny_tail hc fuel n1 L a w (Nat.le_refl _) hn hI.sz (fun i => ⟨hI.first i, hall i⟩) hcnt (hend a w ?_)
  obtain ⟨hd, Fx, β, hh, ho, hsz, hs⟩ := hI.st
  have eM : MM M X m L = M ++ X := by simp [MM, hall m hm]
  rw [eM] at hh ho hs
  refine ⟨hd, Fx, β, hh, ho, by rw [run_length]; exact hsz, fun t x u hx hu => ?_⟩
  obtain ⟨h1, h2⟩ := hs t u hu
  rcases run_get _ _ _ _ _ _ hrlen hx with ⟨i, o, hi, ho', hdst, hr⟩ | ⟨hno, hx0⟩
  · exact h1 i o x (hall i hi) (tk ho').2 hdst hr
  · exact h2 (fun i o hL ho' => hno i o (hI.first i hL) (tk2 (hI.first i hL) ho')) x hx0
 intro fuel
 induction fuel with
 | zero =>
  intro L a w hI hcnt
  refine fin 0 L a w hI hcnt (fun i hi => ?_)
  have := cnt_zero (by omega) (i := i) (L := L) (by rw [hI.sz]; omega)
  rwa [getD_tf (by rw [hI.sz]; omega)] at this
 | succ fuel ih =>
  intro L a w hI hcnt
  by_cases hall : ∀ i, i < n1 → L.getD i false = true
  · exact fin _ L a w hI hcnt hall
  · have hex : ∃ i, i < n1 ∧ L.getD i false ≠ true := Classical.byContradiction fun h => hall fun i hi => Classical.byContradiction fun h2 => h ⟨i, hi, h2⟩
    obtain ⟨i0, ⟨hi0, hu0⟩, hmin⟩ := least_of hex
    have hi0l : i0 < l.length := by omega
    refine ⟨fun hr => ?_, fun j hj => ?_⟩
    · have : i0 ∈ Region.ready .any l.toArray L := mem_ready.2 ⟨by
       rw [getD_tf (by rw [hI.sz]; omega)]
       simpa using hu0, l[i0], by simp, fun e he hbe => by
        have hlt := hc.top i0 _ e (List.getElem?_eq_getElem hi0l) he hbe
        rcases e2 : L.getD e.on false with _ | _
        · exact absurd (hmin e.on ⟨by omega, by rw [e2]; decide⟩) (by omega)
        · rfl⟩
      rw [hr] at this
      simp at this
    · obtain ⟨hun, o, ho, hdep⟩ := mem_ready.1 hj
      have ho' : l[j]? = some o := by simpa using ho
      have hjl : j < l.length := (List.getElem?_eq_some_iff.1 ho').1
      have hunf : L.getD j false = false := by rw [← getD_tf (by rw [hI.sz]; omega)]; exact hun
      have bef : ∀ i, ((masks l []).getD j 0).testBit i = true → L.getD i false = true := fun i hb => before (l := l) (L := fun i => L.getD i false = true) hI.down j o i ho' hdep hb
      have hjn : j < n1 := by
       rcases Nat.lt_or_ge j n1 with h | h
       · exact h
       · exact absurd (bef i0 (hc.tail j o i0 ho' h (by omega))) hu0
      obtain ⟨r, hr, hg⟩ := hops j o hjn ho'
      obtain ⟨hd, Fx, β, hh, hout, hsz, hs⟩ := hI.st
      have hsl : Slots w Fx β (gens (MM M X m L)) (msk (o.looksAt l.toArray) (run (l.take n1) rs tm0 j)) a.tmps := by
       refine ⟨by rw [msk, mskG_length, run_length]; exact hsz, fun t x u hx hu => ?_⟩
       rcases msk_get hx with rfl | ⟨hlook, hx⟩
       · exact .any u
       · obtain ⟨h1, h2⟩ := hs t u hu
         rcases run_get _ _ _ _ _ _ hrlen hx with ⟨i, oi, hi, hoi, hdst, hri⟩ | ⟨hno, hx0⟩
         · have hoi := (tk hoi).2
           exact h1 i oi x (bef i ((hc.look j o t i oi ho' hjn hlook hoi hdst (by omega)).1 hi)) hoi hdst hri
         · refine h2 (fun i oi hL hoi hdst => ?_) x hx0
           rcases Nat.lt_trichotomy i j with h | h | h
           · exact hno i oi h (tk2 (by omega) hoi) hdst
           · subst h; rw [hunf] at hL; cases hL
           · have hb := (hc.look j o t i oi ho' hjn hlook hoi hdst (by omega)).2 h
             have := before (l := l) (L := fun i => L.getD i false = true) hI.down i oi j hoi (hI.down i oi hL hoi) hb
             rw [hunf] at this
             cases this
      have go : ∀ v w' Fx' β', HS E.base E.w0 w' Fx' β' (MM M X m (L.setIfInBounds j true)) → Nx w Fx β (MM M X m L) w' Fx' β' (MM M X m (L.setIfInBounds j true)) → Rep w' Fx' β' (gens (MM M X m (L.setIfInBounds j true))) r v → wpAny P .any l.toArray Q fuel (L.setIfInBounds j true) (a.put o.dst v) w' := by
       intro v w' Fx' β' hh' hx hrep
       refine ih _ _ _ ⟨by simpa using hI.sz, fun j' o2 hj' ho2 e he hbe => ?_, fun j' hj' => ?_, (put_defers a o.dst v).trans hd, Fx', β', hh', ?_, by rw [put_size]; exact hsz, fun t u hu => ?_⟩ (by have := cnt_set (L := L) (i := j) (by rw [hI.sz]; omega) hun; omega)
       · rw [getD_set (by rw [hI.sz]; omega)] at hj' ⊢
         rcases hj' with rfl | hj'
         · rw [ho'] at ho2
           obtain rfl := Option.some.inj ho2
           exact .inr (hdep e he hbe)
         · exact .inr (hI.down j' o2 hj' ho2 e he hbe)
       · rw [getD_set (by rw [hI.sz]; omega)] at hj'
         rcases hj' with rfl | hj'
         · exact hjn
         · exact hI.first j' hj'
       · refine ⟨hout.mv.trans hx.mv, Nat.le_trans hout.size hx.size, fun k hk => ?_, fun id b v k h1 h2 h3 => ?_⟩
         · rcases hx.lim k hk with h | h | ⟨id, b, v, h1, h2, h3⟩
           · exact hout.lim k h
           · exact .inr (.inl (Nat.le_trans hout.size h))
           · rcases hout.own id b v k h1 h2 h3 with h | h
             · exact .inr (.inl h)
             · exact .inr (.inr h)
         · rcases hx.own id b v k h1 h2 h3 with h | ⟨id', b', v', g1, g2, g3⟩
           · exact .inl (Nat.le_trans hout.size h)
           · exact hout.own id' b' v' k g1 g2 g3
       · rcases put_get a o.dst v t u hu with ⟨hdt, rfl⟩ | ⟨hdt, hu⟩
         · refine ⟨fun i oi ri hL hoi hdst hri => ?_, fun hno => absurd hdt (hno j o ((getD_set (by rw [hI.sz]; omega)).2 (.inl rfl)) ho')⟩
           have hin : i < n1 := by
            rw [getD_set (by rw [hI.sz]; omega)] at hL
            rcases hL with rfl | hL
            · exact hjn
            · exact hI.first i hL
           have e : i = j := by
            rcases Nat.lt_trichotomy i j with h | h | h
            · exact absurd hdst (hc.one j i o oi t ho' hjn h hoi hdt)
            · exact h
            · exact absurd hdt (hc.one i j oi o t hoi hin h ho' hdst)
           subst e
           rw [hr] at hri
           obtain rfl := Option.some.inj hri
           exact hrep
         · obtain ⟨h1, h2⟩ := hs t u hu
           refine ⟨fun i oi ri hL hoi hdst hri => ?_, fun hno x hx0 => (h2 (fun i oi hL hoi => hno i oi ((getD_set (by rw [hI.sz]; omega)).2 (.inr hL)) hoi) x hx0).mv hx.mv⟩
           rw [getD_set (by rw [hI.sz]; omega)] at hL
           rcases hL with rfl | hL
           · rw [ho'] at hoi
             obtain rfl := Option.some.inj hoi
             exact absurd hdst hdt
           · exact (h1 i oi ri hL hoi hdst hri).mv hx.mv
      unfold wpOp
      rw [ho]
      rcases hg with ⟨rfl, hgd, hp⟩ | ⟨hjm, hp⟩
      · have e1 : MM M X j L = M := by simp [MM, hunf]
        have e2 : MM M X j (L.setIfInBounds j true) = M ++ X := by simp [MM, (getD_set (L := L) (i := j) (j := j) (by rw [hI.sz]; omega)).2 (.inl rfl)]
        rw [e1] at hh hsl
        have hw : Region.wanted o (yielded l.toArray a.tmps) = true := by simp [Region.wanted, hgd]
        simp only [hw, if_true]
        refine .inl (hp a w _ Q Fx β hh hsl fun v w' Fx' β' h1 h2 h3 => go v w' Fx' β' ?_ ?_ ?_)
        · rw [e2]; exact h1
        · rw [e1, e2]; exact h2
        · rw [e2]; exact h3
      · have e2 : MM M X m (L.setIfInBounds j true) = MM M X m L := by
         have : (L.setIfInBounds j true).getD m false = L.getD m false := by
          rcases e : L.getD m false with _ | _
          · rcases e3 : (L.setIfInBounds j true).getD m false with _ | _
            · rfl
            · rcases (getD_set (by rw [hI.sz]; omega)).1 e3 with h | h
              · exact absurd h.symm hjm
              · rw [e] at h; cases h
          · exact (getD_set (by rw [hI.sz]; omega)).2 (.inr e)
         simp [MM, this]
        have hg : GOp P l.toArray o E (msk (o.looksAt l.toArray) (run (l.take n1) rs tm0 j)) (MM M X m L) r := by
         unfold MM
         cases L.getD m false
         · have := hp []; rwa [List.append_nil] at this
         · exact hp X
        exact hg.go hh hsl fun v w' Fx' β' h1 h2 h3 => go v w' Fx' β' (by rw [e2]; exact h1) (by rw [e2]; exact h2) (by rw [e2]; exact h3)

def DLM (P : Program) (ops : Array Oper) (E : Env) (M : Mem) (m : Nat) : Nat → List Oper → List AV → Option Mem → (Mem → List AV → Prop) → Prop
 | _, [], tm, some X, N => N X tm
 | _, [], _, none, _ => False
 | j, o :: rest, tm, s, N => (s = none ∧ j = m ∧ o.guard = none ∧ ∃ r X, POp P o E (msk (o.looksAt ops) tm) M r (M ++ X) ∧ DLM P ops E M m (j + 1) rest (dput tm o.dst r) (some X) N) ∨
  (j ≠ m ∧ ∃ r, (∀ Y, GOp P ops o E (msk (o.looksAt ops) tm) (M ++ Y) r) ∧ DLM P ops E M m (j + 1) rest (dput tm o.dst r) s N)
theorem DLM.data {ops : Array Oper} {N : Mem → List AV → Prop} : ∀ (os : List Oper) (j0 : Nat) (tm : List AV) (s : Option Mem), DLM P ops E M m j0 os tm s N →
 ∃ (rs : List AV) (X : Mem), rs.length = os.length ∧ (∀ X0, s = some X0 → X = X0) ∧ N X (run os rs tm os.length) ∧ ∀ (j : Nat) o, os[j]? = some o → ∃ r, rs[j]? = some r ∧ ((j0 + j = m ∧ o.guard = none ∧ POp P o E (msk (o.looksAt ops) (run os rs tm j)) M r (M ++ X)) ∨ (j0 + j ≠ m ∧ ∀ Y, GOp P ops o E (msk (o.looksAt ops) (run os rs tm j)) (M ++ Y) r))
 | [], j0, tm, some X, h => ⟨[], X, rfl, fun X0 h => Option.some.inj h, h, fun j o ho => by simp at ho⟩
 | [], j0, tm, none, h => h.elim
 | o :: os, j0, tm, s, .inl ⟨hs, hj, hg, r, X, hp, h⟩ => by
  obtain ⟨rs, X', h1, hX, h2, h3⟩ := DLM.data os (j0 + 1) _ _ h
  obtain rfl := hX X rfl
  refine ⟨r :: rs, X', by simp [h1], fun X0 h0 => (by rw [hs] at h0; cases h0), h2, fun j o' ho => ?_⟩
  cases j with
  | zero =>
   simp only [List.getElem?_cons_zero, Option.some.injEq] at ho
   subst ho
   exact ⟨r, rfl, .inl ⟨hj, hg, by simpa [run] using hp⟩⟩
  | succ j =>
   obtain ⟨r', g1, g2⟩ := h3 j o' (by simpa using ho)
   refine ⟨r', by simpa using g1, ?_⟩
   rw [show j0 + (j + 1) = j0 + 1 + j by omega]
   exact g2
 | o :: os, j0, tm, s, .inr ⟨hj, r, hp, h⟩ => by
  obtain ⟨rs, X', h1, hX, h2, h3⟩ := DLM.data os (j0 + 1) _ _ h
  refine ⟨r :: rs, X', by simp [h1], hX, h2, fun j o' ho => ?_⟩
  cases j with
  | zero =>
   simp only [List.getElem?_cons_zero, Option.some.injEq] at ho
   subst ho
   exact ⟨r, rfl, .inr ⟨hj, by simpa [run] using hp⟩⟩
  | succ j =>
   obtain ⟨r', g1, g2⟩ := h3 j o' (by simpa using ho)
   refine ⟨r', by simpa using g1, ?_⟩
   rw [show j0 + (j + 1) = j0 + 1 + j by omega]
   exact g2
theorem AW.drawnM {id : Nat} {tm : List AV} {Qx : XPost} (n1 m : Nat) (hmx : P.follows .mixedOrders = true) (hc : chkD l n1 = true) (hn : Nat.ble n1 l.length = true) (hm : Nat.blt m n1 = true)
 (h : DLM P l.toArray E M m 0 (l.take n1) tm none (fun X tm' => AL P l.toArray (l.drop n1) E tm' (M ++ X) (Qx .normal))) : AW P (.region id l.toArray true) E tm M Qx := by
 intro a w Q hs hq
 have hn := Nat.le_of_ble_eq_true hn
 have hm : m < n1 := by have := Nat.le_of_ble_eq_true hm; omega
 obtain ⟨rs, X, h1, _, h2, h3⟩ := DLM.data _ _ _ _ h
 have htl : (l.take n1).length = n1 := by rw [List.length_take]; omega
 refine wp_region_any hmx ?_
 obtain ⟨hd, Fx, β, hh, ho, hsl⟩ := hs
 have hdrew : ∀ {k : Nat}, ({ w with drawn := w.drawn + 1 } : World).heap[k]? = w.heap[k]? := rfl
 have hbel : Below w.heap.size w { w with drawn := w.drawn + 1 } := by exact (Below.refl w.heap.size w).drew
 obtain ⟨hh', mv⟩ := hh.step hbel
 rw [htl] at h2
 have e0 : MM M X m (Array.replicate l.toArray.size false) = M := by
  have : (Array.replicate l.toArray.size false).getD m false = false := by
   rw [Array.getD_eq_getD_getElem?, Array.getElem?_replicate]
   split <;> rfl
  unfold MM; rw [this]; rfl
 refine wpAny_make (E := E) (M := M) (X := X) (m := m) (rs := rs) (tm0 := tm) (chkD_ok hc) hn hm (by rw [h1, htl]) (fun j o hj ho => by
  obtain ⟨r, g1, g2⟩ := h3 j o (by rw [List.getElem?_take, if_pos hj]; exact ho)
  rw [Nat.zero_add] at g2
  exact ⟨r, g1, g2⟩) (fun a' w' hs' => h2 a' w' Q hs' fun tm' M' a2 w2 hx hs2 => hq _ _ _ _ _ hx hs2) _ _ _ _ ⟨by simp, fun j o hj => ?_, fun j hj => ?_, hd, Fx, β, by rw [e0]; exact hh', by rw [e0]; exact ⟨ho.mv.trans mv, Nat.le_trans ho.size hbel.size, ho.lim, ho.own⟩, hsl.1, fun t u hu => ⟨fun i o r hL => ?_, fun _ x hx => by rw [e0]; exact (hsl.2 t x u hx hu).mv mv⟩⟩ ?_
 · simp [Array.getD_eq_getD_getElem?, Array.getElem?_replicate] at hj
   split at hj <;> simp at hj
 · simp [Array.getD_eq_getD_getElem?, Array.getElem?_replicate] at hj
   split at hj <;> simp at hj
 · simp [Array.getD_eq_getD_getElem?, Array.getElem?_replicate] at hL
   split at hL <;> simp at hL
 · unfold cnt
   have := List.countP_le_length (p := fun b => !b) (l := (Array.replicate l.toArray.size false).toList)
   simpa using this
end
section
variable {P : Program} {E : Env} {T : Tbl} {tm : List AV} {M X : Mem} {m jj : Nat} {o : Oper} {ops : Array Oper} {rest : List Oper} {N : List AV → Prop} {s : Option Mem} {NN : Mem → List AV → Prop}
theorem DLM.nil (h : NN X tm) : DLM P ops E M m jj [] tm (some X) NN := h
theorem DLM.make {r : AV} {M2 : Mem} (hj : Nat.beq jj m = true) (hg : o.guard = none) (h : POp P o E (msk (o.looksAt ops) tm) M r M2) (hX : M2 = M ++ X) (hN : DLM P ops E M m (jj + 1) rest (dput tm o.dst r) (some X) NN) : DLM P ops E M m jj (o :: rest) tm none NN :=
 .inl ⟨rfl, Nat.eq_of_beq_eq_true hj, hg, r, X, hX ▸ h, hN⟩
theorem DLM.p {r : AV} (hj : Nat.beq jj m = false) (hg : o.guard = none) (h : ∀ Y, POp P o E (msk (o.looksAt ops) tm) (M ++ Y) r (M ++ Y)) (hN : DLM P ops E M m (jj + 1) rest (dput tm o.dst r) s NN) : DLM P ops E M m jj (o :: rest) tm s NN :=
 .inr ⟨Nat.ne_of_beq_eq_false hj, r, fun Y => by unfold GOp; rw [hg]; exact h Y, hN⟩
theorem DLM.g {j d : Nat} {oj : Oper} {b t : Bool} {r : AV} (hj : Nat.beq jj m = false) (hg : o.guard = some (j, b)) (hjo : ops[j]? = some oj) (hd : oj.dst = some d) (hb : evA (msk (o.looksAt ops) tm) (.tmp d) = some (.c (.bool t)))
 (h : t = b → ∀ Y, POp P o E (msk (o.looksAt ops) tm) (M ++ Y) r (M ++ Y)) (hN : DLM P ops E M m (jj + 1) rest (dput tm o.dst (.when (bif b then t else !t) r)) s NN) : DLM P ops E M m jj (o :: rest) tm s NN :=
 .inr ⟨Nat.ne_of_beq_eq_false hj, _, fun Y => by unfold GOp; rw [hg]; exact ⟨oj, d, hjo, hd, .inl ⟨t, r, hb, fun e => h e Y, rfl⟩⟩, hN⟩
theorem DL.gT {j d : Nat} {oj : Oper} {b t : Bool} {r : AV} (hg : o.guard = some (j, b)) (hj : ops[j]? = some oj) (hd : oj.dst = some d) (hb : evA (msk (o.looksAt ops) tm) (.tmp d) = some (.c (.bool t))) (ht : t = b)
 (h : POp P o E (msk (o.looksAt ops) tm) M r M) (hN : DL P ops E M rest (dput tm o.dst (.when true r)) N) : DL P ops E M (o :: rest) tm N :=
 ⟨.when true r, by unfold GOp; rw [hg]; exact ⟨oj, d, hj, hd, .inl ⟨t, r, hb, fun _ => h, by subst ht; cases t <;> rfl⟩⟩, hN⟩
theorem DLM.gT {j d : Nat} {oj : Oper} {b t : Bool} {r : AV} (hjj : Nat.beq jj m = false) (hg : o.guard = some (j, b)) (hj : ops[j]? = some oj) (hd : oj.dst = some d) (hb : evA (msk (o.looksAt ops) tm) (.tmp d) = some (.c (.bool t))) (ht : t = b)
 (h : ∀ Y, POp P o E (msk (o.looksAt ops) tm) (M ++ Y) r (M ++ Y)) (hN : DLM P ops E M m (jj + 1) rest (dput tm o.dst (.when true r)) s NN) : DLM P ops E M m jj (o :: rest) tm s NN :=
 .inr ⟨Nat.ne_of_beq_eq_false hjj, .when true r, fun Y => by unfold GOp; rw [hg]; exact ⟨oj, d, hj, hd, .inl ⟨t, r, hb, fun _ => h Y, by subst ht; cases t <;> rfl⟩⟩, hN⟩
theorem DL.gF {j d : Nat} {oj : Oper} {b t : Bool} (hg : o.guard = some (j, b)) (hj : ops[j]? = some oj) (hd : oj.dst = some d) (hb : evA (msk (o.looksAt ops) tm) (.tmp d) = some (.c (.bool t))) (ht : t = !b)
 (hN : DL P ops E M rest (dput tm o.dst (.c undef)) N) : DL P ops E M (o :: rest) tm N :=
 ⟨_, by unfold GOp; rw [hg]; exact ⟨oj, d, hj, hd, .inr ⟨_, hb, by subst ht; cases b <;> rfl, rfl⟩⟩, hN⟩
theorem DLM.gF {j d : Nat} {oj : Oper} {b t : Bool} (hjj : Nat.beq jj m = false) (hg : o.guard = some (j, b)) (hj : ops[j]? = some oj) (hd : oj.dst = some d) (hb : evA (msk (o.looksAt ops) tm) (.tmp d) = some (.c (.bool t))) (ht : t = !b)
 (hN : DLM P ops E M m (jj + 1) rest (dput tm o.dst (.c undef)) s NN) : DLM P ops E M m jj (o :: rest) tm s NN :=
 .inr ⟨Nat.ne_of_beq_eq_false hjj, _, fun Y => by unfold GOp; rw [hg]; exact ⟨oj, d, hj, hd, .inr ⟨_, hb, by subst ht; cases b <;> rfl, rfl⟩⟩, hN⟩
theorem DL.gU {j d : Nat} {oj : Oper} {b : Bool} (hg : o.guard = some (j, b)) (hj : ops[j]? = some oj) (hd : oj.dst = some d) (hb : evA (msk (o.looksAt ops) tm) (.tmp d) = some (.c undef))
 (hN : DL P ops E M rest (dput tm o.dst (.c undef)) N) : DL P ops E M (o :: rest) tm N :=
 ⟨_, by unfold GOp; rw [hg]; exact ⟨oj, d, hj, hd, .inr ⟨_, hb, rfl, rfl⟩⟩, hN⟩
theorem DLM.gU {j d : Nat} {oj : Oper} {b : Bool} (hjj : Nat.beq jj m = false) (hg : o.guard = some (j, b)) (hj : ops[j]? = some oj) (hd : oj.dst = some d) (hb : evA (msk (o.looksAt ops) tm) (.tmp d) = some (.c undef))
 (hN : DLM P ops E M m (jj + 1) rest (dput tm o.dst (.c undef)) s NN) : DLM P ops E M m jj (o :: rest) tm s NN :=
 .inr ⟨Nat.ne_of_beq_eq_false hjj, _, fun Y => by unfold GOp; rw [hg]; exact ⟨oj, d, hj, hd, .inr ⟨_, hb, rfl, rfl⟩⟩, hN⟩
end
section
variable {P : Program} {E : Env} {tm : List AV} {M : Mem} {o : Oper} {ops : Array Oper} {rest : List Oper} {N : NPost}
theorem AL.guardU {j d : Nat} {oj : Oper} {b : Bool} (hg : o.guard = some (j, b)) (hj : ops[j]? = some oj) (hd : oj.dst = some d) (hb : (tm[d]?).map unw = some (.c undef))
 (h : AL P ops rest E (dput tm o.dst (.c undef)) M N) : AL P ops (o :: rest) E tm M N :=
 fun a w Q hs k => wpList_step fun K hK => by
  have hy : yielded ops a.tmps j = none := by
   cases hq : tm[d]? with
   | none => rw [hq] at hb; cases hb
   | some y0 =>
    rw [hq] at hb
    obtain ⟨_, Fx, β, hh, _, hsl⟩ := id hs
    obtain ⟨u, hu, hr⟩ := hsl.get hq
    have e : unw y0 = .c undef := by simpa using hb
    have := hr.unw
    rw [e] at this
    obtain rfl := this.c_inv
    simp [yielded, hj, hd, hu, undef]
  have hw : Region.wanted o (yielded ops a.tmps) = false := by simp [Region.wanted, hg, hy]
  rw [if_neg (by rw [hw]; decide)]
  exact hK _ _ (h _ w Q (hs.put o.dst fun _ _ _ _ => .c undef) k)
theorem yielded_unw {a : Act} {w : World} (hs : Sim E tm M a w) {j d : Nat} {oj : Oper} {t : Bool} (hj : ops[j]? = some oj) (hd : oj.dst = some d) (hb : (tm[d]?).map unw = some (.c (.bool t))) : yielded ops a.tmps j = some t := by
 cases hq : tm[d]? with
 | none => rw [hq] at hb; cases hb
 | some y0 =>
  rw [hq] at hb
  obtain ⟨_, Fx, β, hh, _, hsl⟩ := id hs
  obtain ⟨u, hu, hr⟩ := hsl.get hq
  have e : unw y0 = .c (.bool t) := by simpa using hb
  have := hr.unw
  rw [e] at this
  obtain rfl := this.c_inv
  simp [yielded, hj, hd, hu]
theorem AL.gF {j d : Nat} {oj : Oper} {b t : Bool} (hg : o.guard = some (j, b)) (hj : ops[j]? = some oj) (hd : oj.dst = some d) (hb : (tm[d]?).map unw = some (.c (.bool t))) (ht : t = !b)
 (h : AL P ops rest E (dput tm o.dst (.c undef)) M N) : AL P ops (o :: rest) E tm M N :=
 fun a w Q hs k => wpList_step fun K hK => by
  have hy := yielded_unw hs hj hd hb
  have hw : Region.wanted o (yielded ops a.tmps) = false := by cases b <;> simp [Region.wanted, hg, hy, ht]
  rw [if_neg (by rw [hw]; decide)]
  exact hK _ _ (h _ w Q (hs.put o.dst fun _ _ _ _ => .c undef) k)
theorem AL.gT {j d : Nat} {oj : Oper} {b t : Bool} (hg : o.guard = some (j, b)) (hj : ops[j]? = some oj) (hd : oj.dst = some d) (hb : (tm[d]?).map unw = some (.c (.bool t))) (ht : t = b)
 (h : OpA P o E tm M (fun tm' M' => AL P ops rest E tm' M' N)) : AL P ops (o :: rest) E tm M N :=
 fun a w Q hs k => wpList_step fun K hK => by
  have hy := yielded_unw hs hj hd hb
  have hw : Region.wanted o (yielded ops a.tmps) = true := by simp [Region.wanted, hg, hy, ht]
  rw [if_pos hw]
  exact h a w K Q hs fun tm' M' a' w' hx hs' => hK a' w' (hx a' w' Q hs' k)
end
end Go.Proofs.YtpffahmmklpifaaGreat.Abs
