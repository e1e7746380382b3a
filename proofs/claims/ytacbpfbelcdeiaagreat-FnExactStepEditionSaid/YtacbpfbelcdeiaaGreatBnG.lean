/- Part G of the walk over abstract states and of the functions' walks. -/
import Derived.Test.YtacbpfbelcdeiaaGreatWkStep
import Derived.Test.YtacbpfbelcdeiaaGreatWkMark
import Derived.Test.YtacbpfbelcdeiaaGreatBnF
/- A drawn region in which one operation changes the memory, then another that waits for it. -/
namespace Go.Proofs.YtacbpfbelcdeiaaGreat.Abs
open Go.Proofs Go.RowKit
set_option linter.unusedVariables false
set_option linter.unusedSimpArgs false
/-- The memory, by which of the two changers have gone. -/
def MS2 (M X Y : Mem) (m m2 : Nat) (L : Array Bool) : Mem := bif L.getD m2 false then Y else bif L.getD m false then X else M
section
variable {P : Program} {E : Env} {M X Y : Mem} {m m2 : Nat} {l : List Oper} {n1 : Nat} {rs tm0 : List AV}
/-- How far a drawn region has come: some of the first n1 have gone. -/
structure DInvT (E : Env) (M X Y : Mem) (m m2 : Nat) (l : List Oper) (n1 : Nat) (rs tm0 : List AV) (L : Array Bool) (a : Act) (w : World) : Prop where
  sz : L.size = l.length
  down : ∀ (j : Nat) o, L.getD j false = true → l[j]? = some o → ∀ e ∈ o.after, Region.binds .any e = true → L.getD e.on false = true
  first : ∀ j, L.getD j false = true → j < n1
  st : a.defers = [] ∧ ∃ Fx β, HS E.base E.w0 w Fx β (MS2 M X Y m m2 L) ∧ Out E w Fx β (MS2 M X Y m m2 L) ∧ a.tmps.size = tm0.length ∧ ∀ (t : Nat) u, a.tmps[t]? = some u →
    (∀ (i : Nat) o r, L.getD i false = true → l[i]? = some o → o.dst = some t → rs[i]? = some r → Rep w Fx β (gens (MS2 M X Y m m2 L)) r u) ∧ ((∀ (i : Nat) o, L.getD i false = true → l[i]? = some o → o.dst ≠ some t) → ∀ x, tm0[t]? = some x → Rep w Fx β (gens (MS2 M X Y m m2 L)) x u)
theorem wpAny_chg2 {Q : Exit → Act → World → Prop} (hc : ChkD l n1) (hn : n1 ≤ l.length) (hm : m < n1) (hm2 : m2 < n1) (hmm : ((masks l []).getD m2 0).testBit m = true) (hrl : rs.length = n1)
    (hops : ∀ (j : Nat) o, j < n1 → l[j]? = some o → ∃ r, rs[j]? = some r ∧ ((j = m ∧ o.guard = none ∧ POp P o E (msk (o.looksAt l.toArray) (run (l.take n1) rs tm0 j)) M r X) ∨ (j = m2 ∧ o.guard = none ∧ POp P o E (msk (o.looksAt l.toArray) (run (l.take n1) rs tm0 j)) X r Y) ∨
      (j ≠ m ∧ j ≠ m2 ∧ GOp P l.toArray o E (msk (o.looksAt l.toArray) (run (l.take n1) rs tm0 j)) M r ∧ (((masks l []).getD m 0).testBit j = true ∨ GOp P l.toArray o E (msk (o.looksAt l.toArray) (run (l.take n1) rs tm0 j)) X r) ∧ (((masks l []).getD m2 0).testBit j = true ∨ GOp P l.toArray o E (msk (o.looksAt l.toArray) (run (l.take n1) rs tm0 j)) Y r))))
    (hend : ∀ a w, Sim E (run (l.take n1) rs tm0 n1) Y a w → wpList P l.toArray Q (l.drop n1) a w) :
    ∀ (fuel : Nat) (L : Array Bool) (a : Act) (w : World), DInvT E M X Y m m2 l n1 rs tm0 L a w → cnt L ≤ fuel → wpAny P .any l.toArray Q fuel L a w := by
  have hrlen : rs.length = (l.take n1).length := by rw [hrl, List.length_take]; omega
  have tk : ∀ {i : Nat} {o : Oper}, (l.take n1)[i]? = some o → i < n1 ∧ l[i]? = some o := fun {i o} h => by
    rw [List.getElem?_take] at h
    split at h
    · exact ⟨by assumption, h⟩
    · cases h
  have tk2 : ∀ {i : Nat} {o : Oper}, i < n1 → l[i]? = some o → (l.take n1)[i]? = some o := fun hi h => by rw [List.getElem?_take, if_pos hi]; exact h
  -- when all of the first have gone
  have fin : ∀ (fuel : Nat) (L : Array Bool) (a : Act) (w : World), DInvT E M X Y m m2 l n1 rs tm0 L a w → cnt L ≤ fuel → (∀ i, i < n1 → L.getD i false = true) → wpAny P .any l.toArray Q fuel L a w := by
    intro fuel L a w hI hcnt hall
    refine wpAny_tail hc fuel n1 L a w (Nat.le_refl _) hn hI.sz (fun i => ⟨hI.first i, hall i⟩) hcnt (hend a w ?_)
    obtain ⟨hd, Fx, β, hh, ho, hsz, hs⟩ := hI.st
    have eM : MS2 M X Y m m2 L = Y := by simp [MS2, hall m2 hm2]
    rw [eM] at hh ho hs
    refine ⟨hd, Fx, β, hh, ho, by rw [run_length]; exact hsz, fun t x u hx hu => ?_⟩
    obtain ⟨h1, h2⟩ := hs t u hu
    rcases run_get _ _ _ _ _ _ hrlen hx with ⟨i, o, hi, ho', hdst, hr⟩ | ⟨hno, hx0⟩
    · exact h1 i o x (hall i hi) (tk ho').2 hdst hr
    · exact h2 (fun i o hL ho' => hno i o (hI.first i hL) (tk2 (hI.first i hL) ho')) x hx0
  intro fuel
  induction fuel with
  | zero =>
    intro L a w hI hcnt
    refine fin 0 L a w hI hcnt (fun i hi => ?_)
    have := cnt_zero (by omega) (i := i) (L := L) (by rw [hI.sz]; omega)
    rwa [getD_tf (by rw [hI.sz]; omega)] at this
  | succ fuel ih =>
    intro L a w hI hcnt
    by_cases hall : ∀ i, i < n1 → L.getD i false = true
    · exact fin _ L a w hI hcnt hall
    · have hex : ∃ i, i < n1 ∧ L.getD i false ≠ true := Classical.byContradiction fun h => hall fun i hi => Classical.byContradiction fun h2 => h ⟨i, hi, h2⟩
      obtain ⟨i0, ⟨hi0, hu0⟩, hmin⟩ := least_of hex
      have hi0l : i0 < l.length := by omega
      refine ⟨fun hr => ?_, fun j hj => ?_⟩
      · have : i0 ∈ Region.ready .any l.toArray L := mem_ready.2 ⟨by
          rw [getD_tf (by rw [hI.sz]; omega)]
          simpa using hu0, l[i0], by simp, fun e he hbe => by
            have hlt := hc.top i0 _ e (List.getElem?_eq_getElem hi0l) he hbe
            rcases e2 : L.getD e.on false with _ | _
            · exact absurd (hmin e.on ⟨by omega, by rw [e2]; decide⟩) (by omega)
            · rfl⟩
        rw [hr] at this
        simp at this
      · obtain ⟨hun, o, ho, hdep⟩ := mem_ready.1 hj
        have ho' : l[j]? = some o := by simpa using ho
        have hjl : j < l.length := (List.getElem?_eq_some_iff.1 ho').1
        have hunf : L.getD j false = false := by rw [← getD_tf (by rw [hI.sz]; omega)]; exact hun
        have bef : ∀ i, ((masks l []).getD j 0).testBit i = true → L.getD i false = true := fun i hb => before (l := l) (L := fun i => L.getD i false = true) hI.down j o i ho' hdep hb
        have hjn : j < n1 := by
          rcases Nat.lt_or_ge j n1 with h | h
          · exact h
          · exact absurd (bef i0 (hc.tail j o i0 ho' h (by omega))) hu0
        obtain ⟨r, hr, hg⟩ := hops j o hjn ho'
        obtain ⟨hd, Fx, β, hh, hout, hsz, hs⟩ := hI.st
        have hsl : Slots w Fx β (gens (MS2 M X Y m m2 L)) (msk (o.looksAt l.toArray) (run (l.take n1) rs tm0 j)) a.tmps := by
          refine ⟨by rw [msk, mskG_length, run_length]; exact hsz, fun t x u hx hu => ?_⟩
          rcases msk_get hx with rfl | ⟨hlook, hx⟩
          · exact .any u
          · obtain ⟨h1, h2⟩ := hs t u hu
            rcases run_get _ _ _ _ _ _ hrlen hx with ⟨i, oi, hi, hoi, hdst, hri⟩ | ⟨hno, hx0⟩
            · have hoi := (tk hoi).2
              exact h1 i oi x (bef i ((hc.look j o t i oi ho' hjn hlook hoi hdst (by omega)).1 hi)) hoi hdst hri
            · refine h2 (fun i oi hL hoi hdst => ?_) x hx0
              rcases Nat.lt_trichotomy i j with h | h | h
              · exact hno i oi h (tk2 (by omega) hoi) hdst
              · subst h; rw [hunf] at hL; cases hL
              · have hb := (hc.look j o t i oi ho' hjn hlook hoi hdst (by omega)).2 h
                have := before (l := l) (L := fun i => L.getD i false = true) hI.down i oi j hoi (hI.down i oi hL hoi) hb
                rw [hunf] at this
                cases this
        have go : ∀ v w' Fx' β', HS E.base E.w0 w' Fx' β' (MS2 M X Y m m2 (L.setIfInBounds j true)) → Nx w Fx β (MS2 M X Y m m2 L) w' Fx' β' (MS2 M X Y m m2 (L.setIfInBounds j true)) → Rep w' Fx' β' (gens (MS2 M X Y m m2 (L.setIfInBounds j true))) r v → wpAny P .any l.toArray Q fuel (L.setIfInBounds j true) (a.put o.dst v) w' := by
          intro v w' Fx' β' hh' hx hrep
          refine ih _ _ _ ⟨by simpa using hI.sz, fun j' o2 hj' ho2 e he hbe => ?_, fun j' hj' => ?_, (put_defers a o.dst v).trans hd, Fx', β', hh', ?_, by rw [put_size]; exact hsz, fun t u hu => ?_⟩ (by have := cnt_set (L := L) (i := j) (by rw [hI.sz]; omega) hun; omega)
          · rw [getD_set (by rw [hI.sz]; omega)] at hj' ⊢
            rcases hj' with rfl | hj'
            · rw [ho'] at ho2
              obtain rfl := Option.some.inj ho2
              exact .inr (hdep e he hbe)
            · exact .inr (hI.down j' o2 hj' ho2 e he hbe)
          · rw [getD_set (by rw [hI.sz]; omega)] at hj'
            rcases hj' with rfl | hj'
            · exact hjn
            · exact hI.first j' hj'
          · refine ⟨hout.mv.trans hx.mv, Nat.le_trans hout.size hx.size, fun k hk => ?_, fun id b v k h1 h2 h3 => ?_⟩
            · rcases hx.lim k hk with h | h | ⟨id, b, v, h1, h2, h3⟩
              · exact hout.lim k h
              · exact .inr (.inl (Nat.le_trans hout.size h))
              · rcases hout.own id b v k h1 h2 h3 with h | h
                · exact .inr (.inl h)
                · exact .inr (.inr h)
            · rcases hx.own id b v k h1 h2 h3 with h | ⟨id', b', v', g1, g2, g3⟩
              · exact .inl (Nat.le_trans hout.size h)
              · exact hout.own id' b' v' k g1 g2 g3
          · rcases put_get a o.dst v t u hu with ⟨hdt, rfl⟩ | ⟨hdt, hu⟩
            · refine ⟨fun i oi ri hL hoi hdst hri => ?_, fun hno => absurd hdt (hno j o ((getD_set (by rw [hI.sz]; omega)).2 (.inl rfl)) ho')⟩
              have hin : i < n1 := by
                rw [getD_set (by rw [hI.sz]; omega)] at hL
                rcases hL with rfl | hL
                · exact hjn
                · exact hI.first i hL
              have e : i = j := by
                rcases Nat.lt_trichotomy i j with h | h | h
                · exact absurd hdst (hc.one j i o oi t ho' hjn h hoi hdt)
                · exact h
                · exact absurd hdt (hc.one i j oi o t hoi hin h ho' hdst)
              subst e
              rw [hr] at hri
              obtain rfl := Option.some.inj hri
              exact hrep
            · obtain ⟨h1, h2⟩ := hs t u hu
              refine ⟨fun i oi ri hL hoi hdst hri => ?_, fun hno x hx0 => (h2 (fun i oi hL hoi => hno i oi ((getD_set (by rw [hI.sz]; omega)).2 (.inr hL)) hoi) x hx0).mv hx.mv⟩
              rw [getD_set (by rw [hI.sz]; omega)] at hL
              rcases hL with rfl | hL
              · rw [ho'] at hoi
                obtain rfl := Option.some.inj hoi
                exact absurd hdst hdt
              · exact (h1 i oi ri hL hoi hdst hri).mv hx.mv
        unfold wpOp
        rw [ho]
        have hml : m < l.length := by omega
        have hml2 : m2 < l.length := by omega
        have hm21 : L.getD m2 false = true → L.getD m false = true := fun e => before (l := l) (L := fun i => L.getD i false = true) hI.down m2 l[m2] m (List.getElem?_eq_getElem hml2) (hI.down m2 l[m2] e (List.getElem?_eq_getElem hml2)) hmm
        have keep : ∀ q, q ≠ j → (L.setIfInBounds j true).getD q false = L.getD q false := fun q hq => by
          rcases e : L.getD q false with _ | _
          · rcases e3 : (L.setIfInBounds j true).getD q false with _ | _
            · rfl
            · rcases (getD_set (by rw [hI.sz]; omega)).1 e3 with h | h
              · exact absurd h hq
              · rw [e] at h; cases h
          · exact (getD_set (by rw [hI.sz]; omega)).2 (.inr e)
        have done : (L.setIfInBounds j true).getD j false = true := (getD_set (L := L) (i := j) (j := j) (by rw [hI.sz]; omega)).2 (.inl rfl)
        rcases hg with ⟨rfl, hgd, hp⟩ | ⟨rfl, hgd, hp⟩ | ⟨hjm, hjm2, hp, hpX, hpY⟩
        · have hne : m2 ≠ j := fun e => by
            have := bef j (by rw [← e]; rw [← e] at hmm; exact hmm)
            rw [hunf] at this
            cases this
          have hu2 : L.getD m2 false = false := by
            rcases e : L.getD m2 false with _ | _
            · rfl
            · have := hm21 e
              rw [hunf] at this
              cases this
          have e1 : MS2 M X Y j m2 L = M := by simp [MS2, hunf, hu2]
          have e2 : MS2 M X Y j m2 (L.setIfInBounds j true) = X := by unfold MS2; rw [keep m2 hne, hu2, done]; rfl
          rw [e1] at hh hsl
          have hw : Region.wanted o (yielded l.toArray a.tmps) = true := by simp [Region.wanted, hgd]
          simp only [hw, if_true]
          refine .inl (hp a w _ Q Fx β hh hsl fun v w' Fx' β' h1 h2 h3 => go v w' Fx' β' ?_ ?_ ?_)
          · rw [e2]; exact h1
          · rw [e1, e2]; exact h2
          · rw [e2]; exact h3
        · have hmd : L.getD m false = true := bef m hmm
          have e1 : MS2 M X Y m j L = X := by simp [MS2, hunf, hmd]
          have e2 : MS2 M X Y m j (L.setIfInBounds j true) = Y := by unfold MS2; rw [done]; rfl
          rw [e1] at hh hsl
          have hw : Region.wanted o (yielded l.toArray a.tmps) = true := by simp [Region.wanted, hgd]
          simp only [hw, if_true]
          refine .inl (hp a w _ Q Fx β hh hsl fun v w' Fx' β' h1 h2 h3 => go v w' Fx' β' ?_ ?_ ?_)
          · rw [e2]; exact h1
          · rw [e1, e2]; exact h2
          · rw [e2]; exact h3
        · have e2 : MS2 M X Y m m2 (L.setIfInBounds j true) = MS2 M X Y m m2 L := by unfold MS2; rw [keep m (Ne.symm hjm), keep m2 (Ne.symm hjm2)]
          have hg : GOp P l.toArray o E (msk (o.looksAt l.toArray) (run (l.take n1) rs tm0 j)) (MS2 M X Y m m2 L) r := by
            unfold MS2
            rcases e2 : L.getD m2 false with _ | _
            · rcases e : L.getD m false with _ | _
              · exact hp
              · rcases hpX with hb | hX
                · have := before (l := l) (L := fun i => L.getD i false = true) hI.down m l[m] j (List.getElem?_eq_getElem hml) (hI.down m l[m] e (List.getElem?_eq_getElem hml)) hb
                  rw [hunf] at this
                  cases this
                · exact hX
            · rcases hpY with hb | hY
              · have := before (l := l) (L := fun i => L.getD i false = true) hI.down m2 l[m2] j (List.getElem?_eq_getElem hml2) (hI.down m2 l[m2] e2 (List.getElem?_eq_getElem hml2)) hb
                rw [hunf] at this
                cases this
              · exact hY
          exact hg.go hh hsl fun v w' Fx' β' h1 h2 h3 => go v w' Fx' β' (by rw [e2]; exact h1) (by rw [e2]; exact h2) (by rw [e2]; exact h3)

/-- The operations in their written order; m changes the memory into X, m2, which waits for it, changes that into Y; the others see no difference. -/
def D2 (P : Program) (ops : Array Oper) (E : Env) (M X Y : Mem) (m m2 b1 b2 : Nat) : Nat → List Oper → List AV → (List AV → Prop) → Prop
  | _, [], tm, N => N tm
  | j, o :: rest, tm, N => ∃ r, ((j = m ∧ o.guard = none ∧ POp P o E (msk (o.looksAt ops) tm) M r X) ∨ (j = m2 ∧ o.guard = none ∧ POp P o E (msk (o.looksAt ops) tm) X r Y) ∨
      (j ≠ m ∧ j ≠ m2 ∧ GOp P ops o E (msk (o.looksAt ops) tm) M r ∧ (b1.testBit j = true ∨ GOp P ops o E (msk (o.looksAt ops) tm) X r) ∧ (b2.testBit j = true ∨ GOp P ops o E (msk (o.looksAt ops) tm) Y r))) ∧ D2 P ops E M X Y m m2 b1 b2 (j + 1) rest (dput tm o.dst r) N
theorem D2.data {b1 b2 : Nat} {ops : Array Oper} {N : List AV → Prop} : ∀ (os : List Oper) (j0 : Nat) (tm : List AV), D2 P ops E M X Y m m2 b1 b2 j0 os tm N →
    ∃ (rs : List AV), rs.length = os.length ∧ N (run os rs tm os.length) ∧ ∀ (j : Nat) o, os[j]? = some o → ∃ r, rs[j]? = some r ∧ ((j0 + j = m ∧ o.guard = none ∧ POp P o E (msk (o.looksAt ops) (run os rs tm j)) M r X) ∨ (j0 + j = m2 ∧ o.guard = none ∧ POp P o E (msk (o.looksAt ops) (run os rs tm j)) X r Y) ∨
      (j0 + j ≠ m ∧ j0 + j ≠ m2 ∧ GOp P ops o E (msk (o.looksAt ops) (run os rs tm j)) M r ∧ (b1.testBit (j0 + j) = true ∨ GOp P ops o E (msk (o.looksAt ops) (run os rs tm j)) X r) ∧ (b2.testBit (j0 + j) = true ∨ GOp P ops o E (msk (o.looksAt ops) (run os rs tm j)) Y r)))
  | [], j0, tm, h => ⟨[], rfl, h, fun j o ho => by simp at ho⟩
  | o :: os, j0, tm, ⟨r, hp, h⟩ => by
    obtain ⟨rs, h1, h2, h3⟩ := D2.data os (j0 + 1) _ h
    refine ⟨r :: rs, by simp [h1], h2, fun j o' ho => ?_⟩
    cases j with
    | zero =>
      simp only [List.getElem?_cons_zero, Option.some.injEq] at ho
      subst ho
      exact ⟨r, rfl, by simpa [run] using hp⟩
    | succ j =>
      obtain ⟨r', g1, g2⟩ := h3 j o' (by simpa using ho)
      refine ⟨r', by simpa using g1, ?_⟩
      rw [show j0 + (j + 1) = j0 + 1 + j by omega]
      exact g2
/-- A region whose order is drawn, with one that changes what was there. -/
theorem AW.drawnT {id : Nat} {tm : List AV} {Qx : XPost} (n1 m m2 b1 b2 : Nat) (X Y : Mem) (hb1 : (masks l []).getD m 0 = b1) (hb2 : (masks l []).getD m2 0 = b2) (hbb : b2.testBit m = true) (hmx : P.follows .mixedOrders = true) (hc : chkD l n1 = true) (hn : Nat.ble n1 l.length = true) (hm : Nat.blt m n1 = true) (hm2 : Nat.blt m2 n1 = true)
    (h : D2 P l.toArray E M X Y m m2 b1 b2 0 (l.take n1) tm (fun tm' => AL P l.toArray (l.drop n1) E tm' Y (Qx .normal))) : AW P (.region id l.toArray true) E tm M Qx := by
  intro a w Q hs hq
  have hn := Nat.le_of_ble_eq_true hn
  have hm : m < n1 := by have := Nat.le_of_ble_eq_true hm; omega
  have hm2 : m2 < n1 := by have := Nat.le_of_ble_eq_true hm2; omega
  obtain ⟨rs, h1, h2, h3⟩ := D2.data _ _ _ h
  have htl : (l.take n1).length = n1 := by rw [List.length_take]; omega
  refine wp_region_any hmx ?_
  obtain ⟨hd, Fx, β, hh, ho, hsl⟩ := hs
  have hdrew : ∀ {k : Nat}, ({ w with drawn := w.drawn + 1 } : World).heap[k]? = w.heap[k]? := rfl
  have hbel : Below w.heap.size w { w with drawn := w.drawn + 1 } := by exact (Below.refl w.heap.size w).drew
  obtain ⟨hh', mv⟩ := hh.step hbel
  rw [htl] at h2
  have e0 : MS2 M X Y m m2 (Array.replicate l.toArray.size false) = M := by
    have : ∀ q, (Array.replicate l.toArray.size false).getD q false = false := fun q => by
      rw [Array.getD_eq_getD_getElem?, Array.getElem?_replicate]
      split <;> rfl
    unfold MS2; rw [this, this]; rfl
  refine wpAny_chg2 (E := E) (M := M) (X := X) (Y := Y) (m := m) (m2 := m2) (rs := rs) (tm0 := tm) (chkD_ok hc) hn hm hm2 (by rw [hb2]; exact hbb) (by rw [h1, htl]) (fun j o hj ho => by
    obtain ⟨r, g1, g2⟩ := h3 j o (by rw [List.getElem?_take, if_pos hj]; exact ho)
    rw [Nat.zero_add, ← hb1, ← hb2] at g2
    exact ⟨r, g1, g2⟩) (fun a' w' hs' => h2 a' w' Q hs' fun tm' M' a2 w2 hx hs2 => hq _ _ _ _ _ hx hs2) _ _ _ _ ⟨by simp, fun j o hj => ?_, fun j hj => ?_, hd, Fx, β, by rw [e0]; exact hh', by rw [e0]; exact ⟨ho.mv.trans mv, Nat.le_trans ho.size hbel.size, ho.lim, ho.own⟩, hsl.1, fun t u hu => ⟨fun i o r hL => ?_, fun _ x hx => by rw [e0]; exact (hsl.2 t x u hx hu).mv mv⟩⟩ ?_
  · simp [Array.getD_eq_getD_getElem?, Array.getElem?_replicate] at hj
    split at hj <;> simp at hj
  · simp [Array.getD_eq_getD_getElem?, Array.getElem?_replicate] at hj
    split at hj <;> simp at hj
  · simp [Array.getD_eq_getD_getElem?, Array.getElem?_replicate] at hL
    split at hL <;> simp at hL
  · unfold cnt
    have := List.countP_le_length (p := fun b => !b) (l := (Array.replicate l.toArray.size false).toList)
    simpa using this
end
section
variable {P : Program} {E : Env} {tm tm' : List AV} {M X Y : Mem} {m m2 b1 b2 jj : Nat} {o : Oper} {ops : Array Oper} {rest : List Oper} {N : List AV → Prop} {r : AV}
theorem D2.nil (h : N tm) : D2 P ops E M X Y m m2 b1 b2 jj [] tm N := h
end
section
variable {E : Env} {tm tm' : List AV} {M X Y : Mem} {m m2 b1 b2 jj : Nat} {o : Oper} {ops : Array Oper} {rest : List Oper} {N : List AV → Prop} {r : AV}
theorem D2.q (hN : D2 Tryz.prog ops E M X Y m m2 b1 b2 (jj + 1) rest tm' N) (hj : Nat.beq jj m = false := by rfl) (hj2 : Nat.beq jj m2 = false := by rfl) (hg : o.guard = none := by rfl) (h : POp Tryz.prog o E (msk (o.looksAt ops) tm) M r M := by exact POp.qt) (h2 : POp Tryz.prog o E (msk (o.looksAt ops) tm) X r X := by exact POp.qt) (h3 : POp Tryz.prog o E (msk (o.looksAt ops) tm) Y r Y := by exact POp.qt) (e : dput tm o.dst r = tm' := by exact nrm) : D2 Tryz.prog ops E M X Y m m2 b1 b2 jj (o :: rest) tm N := by
  subst e
  exact ⟨r, .inr (.inr ⟨Nat.ne_of_beq_eq_false hj, Nat.ne_of_beq_eq_false hj2, by unfold GOp; rw [hg]; exact h, .inr (by unfold GOp; rw [hg]; exact h2), .inr (by unfold GOp; rw [hg]; exact h3)⟩), hN⟩
theorem D2.f1 (hN : D2 Tryz.prog ops E M X Y m m2 b1 b2 (jj + 1) rest tm' N) (hj : Nat.beq jj m = false := by rfl) (hj2 : Nat.beq jj m2 = false := by rfl) (hb : b1.testBit jj = true := by rfl) (hb2 : b2.testBit jj = true := by rfl) (hg : o.guard = none := by rfl) (h : POp Tryz.prog o E (msk (o.looksAt ops) tm) M r M := by exact POp.qt) (e : dput tm o.dst r = tm' := by exact nrm) : D2 Tryz.prog ops E M X Y m m2 b1 b2 jj (o :: rest) tm N := by
  subst e
  exact ⟨r, .inr (.inr ⟨Nat.ne_of_beq_eq_false hj, Nat.ne_of_beq_eq_false hj2, by unfold GOp; rw [hg]; exact h, .inl hb, .inl hb2⟩), hN⟩
theorem D2.f2 (hN : D2 Tryz.prog ops E M X Y m m2 b1 b2 (jj + 1) rest tm' N) (hj : Nat.beq jj m = false := by rfl) (hj2 : Nat.beq jj m2 = false := by rfl) (hb2 : b2.testBit jj = true := by rfl) (hg : o.guard = none := by rfl) (h : POp Tryz.prog o E (msk (o.looksAt ops) tm) M r M := by exact POp.qt) (h2 : POp Tryz.prog o E (msk (o.looksAt ops) tm) X r X := by exact POp.qt) (e : dput tm o.dst r = tm' := by exact nrm) : D2 Tryz.prog ops E M X Y m m2 b1 b2 jj (o :: rest) tm N := by
  subst e
  exact ⟨r, .inr (.inr ⟨Nat.ne_of_beq_eq_false hj, Nat.ne_of_beq_eq_false hj2, by unfold GOp; rw [hg]; exact h, .inr (by unfold GOp; rw [hg]; exact h2), .inl hb2⟩), hN⟩
theorem D2.s1 {M' : Mem} (hN : D2 Tryz.prog ops E M X Y m m2 b1 b2 (jj + 1) rest tm' N) (hj : Nat.beq jj m = true := by rfl) (hg : o.guard = none := by rfl) (h : POp Tryz.prog o E (msk (o.looksAt ops) tm) M r M' := by exact POp.mk) (hX : M' = X := by first | rfl | exact nrm) (e : dput tm o.dst r = tm' := by exact nrm) : D2 Tryz.prog ops E M X Y m m2 b1 b2 jj (o :: rest) tm N := by
  subst e
  exact ⟨r, .inl ⟨Nat.eq_of_beq_eq_true hj, hg, hX ▸ h⟩, hN⟩
theorem D2.s2 {M' : Mem} (hN : D2 Tryz.prog ops E M X Y m m2 b1 b2 (jj + 1) rest tm' N) (hj : Nat.beq jj m2 = true := by rfl) (hg : o.guard = none := by rfl) (h : POp Tryz.prog o E (msk (o.looksAt ops) tm) X r M' := by exact POp.mk) (hX : M' = Y := by first | rfl | exact nrm) (e : dput tm o.dst r = tm' := by exact nrm) : D2 Tryz.prog ops E M X Y m m2 b1 b2 jj (o :: rest) tm N := by
  subst e
  exact ⟨r, .inr (.inl ⟨Nat.eq_of_beq_eq_true hj, hg, hX ▸ h⟩), hN⟩
theorem AW.drT {l l1 l2 : List Oper} {id : Nat} {Qx : XPost} (n1 m m2 b1 b2 : Nat) (X Y : Mem) (h : D2 Tryz.prog l.toArray E M X Y m m2 b1 b2 0 l1 tm (fun tm' => AL Tryz.prog l.toArray l2 E tm' Y (Qx .normal))) (e1 : l.take n1 = l1 := by exact nrm) (e2 : l.drop n1 = l2 := by exact nrm) (hb1 : (masks l []).getD m 0 = b1 := by kernel_rfl) (hb2 : (masks l []).getD m2 0 = b2 := by kernel_rfl) (hbb : b2.testBit m = true := by rfl) (hmx : Tryz.prog.follows .mixedOrders = true := by kernel_rfl)
    (hc : chkD l n1 = true := by kernel_rfl) (hn : Nat.ble n1 l.length = true := by rfl) (hm : Nat.blt m n1 = true := by rfl) (hm2 : Nat.blt m2 n1 = true := by rfl) : AW Tryz.prog (.region id l.toArray true) E tm M Qx := AW.drawnT n1 m m2 b1 b2 X Y hb1 hb2 hbb hmx hc hn hm hm2 (by rw [e1, e2]; exact h)
end

end Go.Proofs.YtacbpfbelcdeiaaGreat.Abs

/- The walks of StepEdition. -/
namespace Go.Proofs.YtacbpfbelcdeiaaGreat.Abs
open Go.Proofs Go.RowKit
set_option linter.unusedVariables false
set_option linter.unusedSimpArgs false
attribute [local irreducible] OpA AL AW DL DLM DLR DLS QOp POp VCalls VCallsI
def edO (a : TAtlas) : TAtlas := { a with editions := addEd a.editions a.now (srcOf a.log) }
def edK (a : TAtlas) : Bool := addOk a.editions a.now (srcOf a.log)
theorem edO_gd {a : TAtlas} (h : a.gd) : (edO a).gd := ⟨h.1, h.2.1, ⟨addEd_len h.2.2.1.1, addEd_all h.2.2.1.2 (srcOf_len h.1.1) (srcOf_mem h.1.2)⟩, h.2.2.2⟩
theorem edO_sm {a : TAtlas} (h : a.sm) : (edO a).sm := ⟨h.1, h.2.1, ⟨addEd_len h.2.2.1, addEd_all h.2.2.2 (srcOf_len h.1.1) (srcOf_mem h.1.2)⟩⟩
set_option maxRecDepth 100000 in
set_option maxHeartbeats 2000000 in
theorem edn_i (a : TAtlas) (hgd : a.gd) : VCalls Tryz.prog 33 [.agg a.en] (fun r M => r = .tup [.agg (stp a (edO a) (edK a)).eo, B (stpB a (edO a) (edK a))] ∧ M = (stp a (edO a) (edK a)).rw) := by
  refine VCalls.body Tryz.func33 rfl 25 rfl (fun E => ?_)
  simp only [List.reduceReplicate, List.cons_append, List.nil_append]
  have hgs := hgd.gs
  have hclA : Clo (.agg a.en) := Clo.agg a.clo_en
  have hclL : Clo (.ro 8 (a.log.map TEntry.en)) := clo_list TEntry.clo_en
  have hclV : Clo (.ro 3 (a.levels.map TLevel.en)) := clo_list TLevel.clo_en
  have hclE : Clo (.ro 3 (a.editions.map TEdition.en)) := clo_list TEdition.clo_en
  have hclS : Clo (.ro 5 ((srcOf a.log).map TFeature.en)) := clo_list TFeature.clo_en
  dsimp only [TAtlas.en]
  repeat' ((first
    | ((with_reducible show AL _ _ _ _ _ _ _); first | refine AL.any ?_ | refine AL.any (h := POp.O Tryz.func75 (hc := cpA_iX a (by assumption))) ?_ | refine AL.any (h := POp.G [2, 3, 6] Tryz.func76 (hc := stepped_iX a (edO a) (edK a) hgd (edO_gd hgd))) ?_ | refine AL.nil ?_)
    | ((with_reducible show DL _ _ _ _ _ _ _); first | refine DL.any ?_ | refine DL.any (h := POp.O Tryz.func82 (hc := addEd_i a.editions a.now (srcOf a.log) hgd.2.2.1.1 hgd.2.2.1.2 (srcOf_len hgd.1.1) (srcOf_mem hgd.1.2))) ?_ | refine DL.any (h := POp.k Tryz.func83 (hc := src_i' a.log hgd.1.1 hgd.1.2)) ?_ | refine DL.nil ?_)
    | ((with_reducible show AW _ _ _ _ _ _); first | refine AW.seq ?_ | refine AW.region ?_ | refine AW.skip ?_ | (refine' AW.drT (id := 2) 13 7 12 127 3071 _ _ ?_) | refine AW.block ?_ | refine AW.exit ?_ | refine AW.ret ?_)
    | ((with_reducible show D2 _ _ _ _ _ _ _ _ _ _ _ _ _ _); first | refine D2.f1 ?_ | refine D2.f1 (h := POp.k Tryz.func83 (hc := src_i' a.log hgd.1.1 hgd.1.2)) ?_ | refine D2.s1 (h := POp.O Tryz.func82 (hc := addEd_i a.editions a.now (srcOf a.log) hgd.2.2.1.1 hgd.2.2.1.2 (srcOf_len hgd.1.1) (srcOf_mem hgd.1.2))) ?_ | refine D2.f2 ?_ | refine D2.s2 ?_ | refine D2.q ?_ | refine D2.nil ?_)
    | with_reducible refine (if_pos rfl).mpr ?_
    | with_reducible refine (if_neg (by decide)).mpr ?_) <;> (try dsimp only))
  all_goals first
    | (exact Fin.rows2 [7, 8, 9] rfl (RV.cell (QOp.quietA TT_ok (by rfl))) (RV.tmp (by rfl)) (by decide) (by repeat' (first | exact trivial | refine ⟨⟨_, rfl, ?_⟩, ?_⟩ | exact DCl.b rfl | exact DCl.map (fun _ => rfl))) (by repeat' (first | exact all_nil | refine all_cons ?_ ?_ | exact ⟨⟨_, rfl, rfl⟩, rfl⟩ | (show Clo _; exact clo_of (by rfl)))) ⟨rfl, rfl⟩)

set_option maxRecDepth 100000 in
set_option maxHeartbeats 2000000 in
theorem edn_s (a : TAtlas) (hgd : a.gd) : VCalls Tryz.prog 32 [.agg a.en] (fun r M => r = .tup [.agg (stp a (edO a) (edK a)).eo, B (stpB a (edO a) (edK a))] ∧ M = (stp a (edO a) (edK a)).rw) := by
  refine VCalls.body Tryz.func32 rfl 27 rfl (fun E => ?_)
  simp only [List.reduceReplicate, List.cons_append, List.nil_append]
  have hgs := hgd.gs
  have hclA : Clo (.agg a.en) := Clo.agg a.clo_en
  have hclL : Clo (.ro 8 (a.log.map TEntry.en)) := clo_list TEntry.clo_en
  have hclV : Clo (.ro 3 (a.levels.map TLevel.en)) := clo_list TLevel.clo_en
  have hclE : Clo (.ro 3 (a.editions.map TEdition.en)) := clo_list TEdition.clo_en
  have hclS : Clo (.ro 5 ((srcOf a.log).map TFeature.en)) := clo_list TFeature.clo_en
  dsimp only [TAtlas.en]
  repeat' ((first
    | ((with_reducible show AL _ _ _ _ _ _ _); first | refine AL.any ?_ | refine AL.any (h := POp.O Tryz.func60 (hc := cpA_sX a (by assumption))) ?_ | refine AL.any (h := POp.G [2, 3, 6] Tryz.func73 (hc := stepped_sX a (edO a) (edK a) hgd (edO_gd hgd))) ?_ | refine AL.nil ?_)
    | ((with_reducible show DL _ _ _ _ _ _ _); first | refine DL.any ?_ | refine DL.any (h := POp.O Tryz.func80 (hc := addEd_s a.editions a.now (srcOf a.log) hgd.2.2.1.1 hgd.2.2.1.2 (srcOf_len hgd.1.1) (srcOf_mem hgd.1.2))) ?_ | refine DL.any (h := POp.k Tryz.func81 (hc := src_s' a.log hgd.1.1 hgd.1.2)) ?_ | refine DL.nil ?_)
    | ((with_reducible show DLS _ _ _ _ _ _ _ _ _ _ _); first | refine DLS.bef ?_ | refine DLS.any ?_ | refine DLS.st ?_ | refine DLS.bef (h := POp.O Tryz.func80 (hc := addEd_s a.editions a.now (srcOf a.log) hgd.2.2.1.1 hgd.2.2.1.2 (srcOf_len hgd.1.1) (srcOf_mem hgd.1.2))) ?_ | refine DLS.bef (h := POp.k Tryz.func81 (hc := src_s' a.log hgd.1.1 hgd.1.2)) ?_ | refine DLS.any (h := POp.O Tryz.func80 (hc := addEd_s a.editions a.now (srcOf a.log) hgd.2.2.1.1 hgd.2.2.1.2 (srcOf_len hgd.1.1) (srcOf_mem hgd.1.2))) (h2 := POp.O Tryz.func80 (hc := addEd_s a.editions a.now (srcOf a.log) hgd.2.2.1.1 hgd.2.2.1.2 (srcOf_len hgd.1.1) (srcOf_mem hgd.1.2))) ?_ | refine DLS.any (h := POp.k Tryz.func81 (hc := src_s' a.log hgd.1.1 hgd.1.2)) (h2 := POp.k Tryz.func81 (hc := src_s' a.log hgd.1.1 hgd.1.2)) ?_ | refine DLS.st (h := POp.O Tryz.func80 (hc := addEd_s a.editions a.now (srcOf a.log) hgd.2.2.1.1 hgd.2.2.1.2 (srcOf_len hgd.1.1) (srcOf_mem hgd.1.2))) ?_ | refine DLS.nil ?_)
    | ((with_reducible show AW _ _ _ _ _ _); first | refine AW.seq ?_ | refine AW.region ?_ | refine AW.skip ?_ | (refine' AW.drS (id := 2) 12 7 127 _ ?_) | refine AW.dr (id := 2) 12 ?_ | refine AW.block ?_ | refine AW.exit ?_ | refine AW.ret ?_)
    | with_reducible refine (if_pos rfl).mpr ?_
    | with_reducible refine (if_neg (by decide)).mpr ?_) <;> (try dsimp only))
  all_goals first
    | (exact Fin.rows2 [7, 8, 9] rfl (RV.cell (QOp.quietA TT_ok (by rfl))) (RV.tmp (by rfl)) (by decide) (by repeat' (first | exact trivial | refine ⟨⟨_, rfl, ?_⟩, ?_⟩ | exact DCl.b rfl | exact DCl.map (fun _ => rfl))) (by repeat' (first | exact all_nil | refine all_cons ?_ ?_ | exact ⟨⟨_, rfl, rfl⟩, rfl⟩ | (show Clo _; exact clo_of (by rfl)))) ⟨rfl, rfl⟩)

theorem edn_i' (a : TAtlas) (hgd : a.gd) : VCalls Tryz.prog 33 [.agg a.en] (fun r M => r = .tup [.agg (stp a (edO a) (edK a)).en, B (stpB a (edO a) (edK a))] ∧ M = []) := VCalls.frz (edn_i a hgd) (by refine VwL.cons (View.tup' ?_) VwL.nil; repeat' (first | exact VwL.nil | refine VwL.cons ?_ ?_ | (refine View.own (by rfl) (by rfl) (by rfl) (by rfl) ?_ ?_ <;> first | exact DCl.b rfl | exact DCl.map (fun _ => rfl) | assumption | rfl | exact TPoint.und | exact TSegment.und | exact TBox.und | exact TFeature.und | exact TMeet.und | exact TPlace.und | exact TCover.und | exact TLabel.und | exact TPiece.und | exact TLevel.und | exact TChart.und | exact TReason.und | exact TEdit.und | exact TEntry.und | exact TEdition.und | exact TListing.und | exact TAtlas.und | exact TEvent.und | exact TWindow.und | exact und_nil | exact und_I | assumption) | refine View.agg' ?_ | exact View.same (by first | exact clo_of (by rfl) | assumption | exact clo_fn _) | exact View.nil))
theorem edn_s' (a : TAtlas) (hgd : a.gd) : VCalls Tryz.prog 32 [.agg a.en] (fun r M => r = .tup [.agg (stp a (edO a) (edK a)).en, B (stpB a (edO a) (edK a))] ∧ M = []) := VCalls.frz (edn_s a hgd) (by refine VwL.cons (View.tup' ?_) VwL.nil; repeat' (first | exact VwL.nil | refine VwL.cons ?_ ?_ | (refine View.own (by rfl) (by rfl) (by rfl) (by rfl) ?_ ?_ <;> first | exact DCl.b rfl | exact DCl.map (fun _ => rfl) | assumption | rfl | exact TPoint.und | exact TSegment.und | exact TBox.und | exact TFeature.und | exact TMeet.und | exact TPlace.und | exact TCover.und | exact TLabel.und | exact TPiece.und | exact TLevel.und | exact TChart.und | exact TReason.und | exact TEdit.und | exact TEntry.und | exact TEdition.und | exact TListing.und | exact TAtlas.und | exact TEvent.und | exact TWindow.und | exact und_nil | exact und_I | assumption) | refine View.agg' ?_ | exact View.same (by first | exact clo_of (by rfl) | assumption | exact clo_fn _) | exact View.nil))
end Go.Proofs.YtacbpfbelcdeiaaGreat.Abs

/- The walks of the marks of structs and of their tests. -/
namespace Go.Proofs.YtacbpfbelcdeiaaGreat.Abs
open Go.Proofs Go.RowKit
set_option linter.unusedVariables false
set_option linter.unusedSimpArgs false
attribute [local irreducible] OpA AL AW DL DLM DLR DLS QOp POp VCalls VCallsI
def TFeature.cs (x : TFeature) : Nat := ctL TPoint.ct x.points
def TFeature.ms (k : Int) (x : TFeature) : TFeature := ⟨x.id, x.kind, x.rank, x.name, mkL TPoint.mrk TPoint.ct (k) x.points⟩
set_option maxRecDepth 100000 in
set_option maxHeartbeats 2000000 in
theorem markFeature (x : TFeature) (k : Int) (h0 : 0 ≤ k) (hb : k + ((x.cs : Nat) : Int) ≤ 4611686018427387904) : ACalls Tryz.prog 45 [.agg x.eo, I k] x.rw (fun r M => r = I (k + ((x.cs : Nat) : Int)) ∧ ∃ Mx, M = [(⟨152, 2, 0, false, (x.ms k).points.map TPoint.en⟩ : Blk)].map some ++ Mx) := by
  have hcs : x.cs = ctL TPoint.ct x.points := rfl
  have hend : k + ((ctL TPoint.ct x.points : Nat) : Int) = k + ((x.cs : Nat) : Int) := by omega
  refine ACalls.body Tryz.func45 rfl 8 rfl (fun E hE => ?_)
  dsimp only [TFeature.eo, TFeature.rw]
  simp only [List.reduceReplicate, List.cons_append, List.nil_append]
  repeat' ((first
    | ((with_reducible show AL _ _ _ _ _ _ _); first | refine AL.any ?_ | refine AL.any (h := POp.H [0] Tryz.func92 (hc := markPointS 152 x.points (k) (by omega) (by omega))) ?_ | refine AL.nil ?_)
    | ((with_reducible show AW _ _ _ _ _ _); first | refine AW.seq ?_ | refine AW.region ?_ | refine AW.skip ?_ | refine AW.block ?_ | refine AW.exit ?_ | refine AW.ret ?_)
    | with_reducible refine (if_pos rfl).mpr ?_
    | with_reducible refine (if_neg (by decide)).mpr ?_) <;> (try dsimp only))
  all_goals exact FinA.one rfl (RV.tmp (by rfl)) ⟨by rw [← hend], [_], rfl⟩

def TAtlas.cs (x : TAtlas) : Nat := ctL TEntry.ct x.log + ctL TLevel.ct x.levels + ctL TEdition.ct x.editions
def TAtlas.ms (k : Int) (x : TAtlas) : TAtlas := ⟨mkL TEntry.mrk TEntry.ct (k) x.log, mkL TLevel.mrk TLevel.ct (k + ((ctL TEntry.ct x.log : Nat) : Int)) x.levels, mkL TEdition.mrk TEdition.ct (k + ((ctL TEntry.ct x.log : Nat) : Int) + ((ctL TLevel.ct x.levels : Nat) : Int)) x.editions, x.cover, x.now⟩
set_option maxRecDepth 100000 in
set_option maxHeartbeats 2000000 in
theorem markAtlas (x : TAtlas) (k : Int) (h0 : 0 ≤ k) (hb : k + ((x.cs : Nat) : Int) ≤ 4611686018427387904) : ACalls Tryz.prog 22 [.agg x.eo, I k] x.rw (fun r M => r = I (k + ((x.cs : Nat) : Int)) ∧ ∃ Mx, M = [(⟨121, 8, 0, false, (x.ms k).log.map TEntry.ed⟩ : Blk), (⟨97, 3, 0, false, (x.ms k).levels.map TLevel.en⟩ : Blk), (⟨136, 3, 0, false, (x.ms k).editions.map TEdition.ed⟩ : Blk)].map some ++ Mx) := by
  have hcs : x.cs = ctL TEntry.ct x.log + ctL TLevel.ct x.levels + ctL TEdition.ct x.editions := rfl
  have hend : k + ((ctL TEntry.ct x.log : Nat) : Int) + ((ctL TLevel.ct x.levels : Nat) : Int) + ((ctL TEdition.ct x.editions : Nat) : Int) = k + ((x.cs : Nat) : Int) := by omega
  refine ACalls.body Tryz.func22 rfl 16 rfl (fun E hE => ?_)
  dsimp only [TAtlas.eo, TAtlas.rw]
  simp only [List.reduceReplicate, List.cons_append, List.nil_append]
  repeat' ((first
    | ((with_reducible show AL _ _ _ _ _ _ _); first | refine AL.any ?_ | refine AL.any (h := POp.H [1] Tryz.func21 (hc := markLevelS 97 x.levels (k + ((ctL TEntry.ct x.log : Nat) : Int)) (by omega) (by omega))) ?_ | refine AL.any (h := POp.H [0] Tryz.func39 (hc := markEntryS 121 x.log (k) (by omega) (by omega))) ?_ | refine AL.any (h := POp.H [2] Tryz.func68 (hc := markEditionS 136 x.editions (k + ((ctL TEntry.ct x.log : Nat) : Int) + ((ctL TLevel.ct x.levels : Nat) : Int)) (by omega) (by omega))) ?_ | refine AL.nil ?_)
    | ((with_reducible show AW _ _ _ _ _ _); first | refine AW.seq ?_ | refine AW.region ?_ | refine AW.skip ?_ | refine AW.block ?_ | refine AW.exit ?_ | refine AW.ret ?_)
    | with_reducible refine (if_pos rfl).mpr ?_
    | with_reducible refine (if_neg (by decide)).mpr ?_) <;> (try dsimp only))
  all_goals exact FinA.one rfl (RV.tmp (by rfl)) ⟨by rw [← hend], [_], rfl⟩

set_option maxRecDepth 100000 in
set_option maxHeartbeats 2000000 in
theorem heldAtlas (x : TAtlas) (k : Int) (h0 : 0 ≤ k) (hb : k + ((x.cs : Nat) : Int) ≤ 4611686018427387904) : VCalls Tryz.prog 23 [.agg (x.ms k).en, I k] (fun r M => r = I (k + ((x.cs : Nat) : Int)) ∧ M = []) := by
  have hcs : x.cs = ctL TEntry.ct x.log + ctL TLevel.ct x.levels + ctL TEdition.ct x.editions := rfl
  have hend : k + ((ctL TEntry.ct x.log : Nat) : Int) + ((ctL TLevel.ct x.levels : Nat) : Int) + ((ctL TEdition.ct x.editions : Nat) : Int) = k + ((x.cs : Nat) : Int) := by omega
  have hnn0 : decide (k + ((ctL TEntry.ct x.log : Nat) : Int) < 0) = false := by simp; omega
  have hcr0 : Clo (.ro 8 ((mkL TEntry.mrk TEntry.ct (k) x.log).map TEntry.en)) := clo_list TEntry.clo_en
  have hnn1 : decide (k + ((ctL TEntry.ct x.log : Nat) : Int) + ((ctL TLevel.ct x.levels : Nat) : Int) < 0) = false := by simp; omega
  have hcr1 : Clo (.ro 3 ((mkL TLevel.mrk TLevel.ct (k + ((ctL TEntry.ct x.log : Nat) : Int)) x.levels).map TLevel.en)) := clo_list TLevel.clo_en
  have hnn2 : decide (k + ((ctL TEntry.ct x.log : Nat) : Int) + ((ctL TLevel.ct x.levels : Nat) : Int) + ((ctL TEdition.ct x.editions : Nat) : Int) < 0) = false := by simp; omega
  have hcr2 : Clo (.ro 3 ((mkL TEdition.mrk TEdition.ct (k + ((ctL TEntry.ct x.log : Nat) : Int) + ((ctL TLevel.ct x.levels : Nat) : Int)) x.editions).map TEdition.en)) := clo_list TEdition.clo_en
  refine VCalls.body Tryz.func23 rfl 22 rfl (fun E => ?_)
  dsimp only [TAtlas.en, TAtlas.ms]
  simp only [List.reduceReplicate, List.cons_append, List.nil_append]
  repeat' ((first
    | ((with_reducible show AL _ _ _ _ _ _ _); first | refine AL.any ?_ | refine AL.any (h := POp.k Tryz.func69 (hc := heldEntryS x.log (k) (by omega) (by omega))) ?_ | refine AL.any (h := POp.k Tryz.func70 (hc := heldLevelS x.levels (k + ((ctL TEntry.ct x.log : Nat) : Int)) (by omega) (by omega))) ?_ | refine AL.any (h := POp.k Tryz.func71 (hc := heldEditionS x.editions (k + ((ctL TEntry.ct x.log : Nat) : Int) + ((ctL TLevel.ct x.levels : Nat) : Int)) (by omega) (by omega))) ?_ | refine AL.nil ?_)
    | ((with_reducible show AW _ _ _ _ _ _); first | refine AW.seq ?_ | refine AW.region ?_ | refine AW.skip ?_ | refine AW.cT ?_ | refine AW.cF ?_ | (refine AW.c2 ?_ ?_ <;> (intro h; try simp only [Bool.not_eq_true', Bool.not_eq_false'] at h)) | refine AW.block ?_ | refine AW.exit ?_ | refine AW.ret ?_)
    | with_reducible refine (if_pos rfl).mpr ?_
    | with_reducible refine (if_neg (by decide)).mpr ?_) <;> (try dsimp only))
  all_goals exact Fin.one rfl (RV.tmp (by rfl)) (clo_c _) ⟨by rw [← hend], rfl⟩

end Go.Proofs.YtacbpfbelcdeiaaGreat.Abs

/- Bounds of the marks. -/
namespace Go.Proofs.YtacbpfbelcdeiaaGreat.Abs
open Go.Proofs Go.RowKit
set_option linter.unusedVariables false
set_option linter.unusedSimpArgs false
attribute [local irreducible] OpA AL AW DL DLM DLR DLS QOp POp VCalls VCallsI
theorem stp_ind {a o : TAtlas} {ok : Bool} {p : TAtlas → Prop} (ha : p a) (ho : p o) : p (stp a o ok) := by unfold stp; split <;> assumption
theorem ctL_en {l : List TEntry} (hl : l.length ≤ 1048576) (hp : ∀ x ∈ l, x.feature.points.length ≤ 1048576) : ctL TEntry.ct l ≤ 2199030595584 := by
  have h := ctL_bd (ct := TEntry.ct) (c := 2097159) (l := l) fun x hx => by
    have h1 := ctL_pt x.feature.points
    have h2 := hp x hx
    unfold TEntry.ct
    omega
  omega
theorem ctL_lv (l : List TLevel) : ctL TLevel.ct l ≤ l.length * 3 := ctL_bd fun _ _ => Nat.le_refl 3
theorem ctL_ed {l : List TEdition} (hl : l.length ≤ 1048576) (hp : ∀ e ∈ l, e.source.length ≤ 1048576 ∧ ∀ x ∈ e.source, x.points.length ≤ 1048576) : ctL TEdition.ct l ≤ 2305847407260205056 + 2097152 := by
  have h := ctL_bd (ct := TEdition.ct) (c := 2199027449858) (l := l) fun x hx => by
    have h2 := hp x hx
    have h1 := ctL_ft h2.1 h2.2
    unfold TEdition.ct
    omega
  omega
theorem TAtlas.cs_le {a : TAtlas} (h : a.sm) : a.cs ≤ 3000000000000000000 := by
  obtain ⟨⟨h1, h2⟩, h3, h4, h5⟩ := h
  have e1 := ctL_en h1 (fun x hx => h2 x hx)
  have e2 := ctL_lv a.levels
  have e3 := ctL_ed h4 (fun x hx => ⟨(h5 x hx).1, fun y hy => (h5 x hx).2 y hy⟩)
  unfold TAtlas.cs
  omega

theorem toAtlas_oX (a : TAtlas) (hs : a.sm) : VCalls Tryz.prog 26 [.agg [.ro 8 (a.log.map TEntry.en), .ro 3 (a.levels.map TLevel.en), .ro 3 (a.editions.map TEdition.en), I a.cover.w, I a.cover.h, S a.cover.cells, I a.now]] (fun r M => r = .agg [.own 0 0, .own 1 0, .own 2 0, I a.cover.w, I a.cover.h, S a.cover.cells, I a.now] ∧ M = [some ⟨121, 8, 0, false, a.log.map TEntry.ed⟩, some ⟨97, 3, 0, false, a.levels.map TLevel.en⟩, some ⟨136, 3, 0, false, a.editions.map TEdition.ed⟩]) := toAtlas_o a hs
end Go.Proofs.YtacbpfbelcdeiaaGreat.Abs

/- The walk of the law on StepEdition. -/
namespace Go.Proofs.YtacbpfbelcdeiaaGreat.Abs
open Go.Proofs Go.RowKit
set_option linter.unusedVariables false
set_option linter.unusedSimpArgs false
attribute [local irreducible] OpA AL AW DL DLM DLR DLS QOp POp VCalls VCallsI
set_option maxRecDepth 100000 in
set_option maxHeartbeats 2000000 in
theorem law_FnExactStepEdition (a : TAtlas) (h0 : a.ok) : VCalls Tryz.prog 7 [.agg a.en] (fun r M => r = B true ∧ M = []) := by
  refine VCalls.body Tryz.func7 rfl 95 rfl (fun E => ?_)
  simp only [List.reduceReplicate, List.cons_append, List.nil_append]
  have hclo_a : Clo (.agg a.en) := Clo.agg a.clo_en
  rcases Szs.split (TAtlas.szs) a 1048576 h0 (by decide) (by decide) with hz | ⟨hz, hsm0, hz0, hz1⟩
  all_goals try (have hsmO : (stp a (edO a) (edK a)).sm := stp_ind (p := TAtlas.sm) (by assumption) (edO_sm (by assumption)))
  all_goals try (have hcb := TAtlas.cs_le hsmO)
  all_goals try (have hclX : Clo (.agg (stp a (edO a) (edK a)).en) := Clo.agg (TAtlas.clo_en _))
  all_goals try (have hclT : Clo (.tup [.agg (stp a (edO a) (edK a)).en, B (stpB a (edO a) (edK a))]) := Clo.tup (clo_cons hclX (clo_cons (clo_c _) clo_nil)))
  all_goals try (have hca_a := TAtlas.cs_le (a := a) (by assumption))
  all_goals try (have hclA0 : Clo (.ro 8 (a.log.map TEntry.en)) := clo_list TEntry.clo_en)
  all_goals try (have hclA1 : Clo (.ro 3 (a.levels.map TLevel.en)) := clo_list TLevel.clo_en)
  all_goals try (have hclA2 : Clo (.ro 3 (a.editions.map TEdition.en)) := clo_list TEdition.clo_en)
  all_goals try (have hclX0 : Clo (.ro 8 ((stp a (edO a) (edK a)).log.map TEntry.en)) := clo_list TEntry.clo_en)
  all_goals try (have hclX1 : Clo (.ro 3 ((stp a (edO a) (edK a)).levels.map TLevel.en)) := clo_list TLevel.clo_en)
  all_goals try (have hclX2 : Clo (.ro 3 ((stp a (edO a) (edK a)).editions.map TEdition.en)) := clo_list TEdition.clo_en)
  all_goals try (have hclM0 : Clo (.ro 8 ((TAtlas.ms 1 (stp a (edO a) (edK a))).log.map TEntry.en)) := clo_list TEntry.clo_en)
  all_goals try (have hclM1 : Clo (.ro 3 ((TAtlas.ms 1 (stp a (edO a) (edK a))).levels.map TLevel.en)) := clo_list TLevel.clo_en)
  all_goals try (have hclM2 : Clo (.ro 3 ((TAtlas.ms 1 (stp a (edO a) (edK a))).editions.map TEdition.en)) := clo_list TEdition.clo_en)
  all_goals try (have hk2 : decide (1 + (((stp a (edO a) (edK a)).cs : Nat) : Int) < 0) = false := by simp; omega)
  all_goals try (have hk1 : decide (1 + ((a.cs : Nat) : Int) < 0) = false := by simp; omega)
  repeat' ((first
    | ((with_reducible show AL _ _ _ _ _ _ _); first | refine AL.at 26 (h := POp.O Tryz.func26 (hc := toAtlas_oX a (by assumption))) ?_ | refine AL.at 29 (h := POp.O Tryz.func33 (hc := (show VCalls Tryz.prog 33 [.agg [.ro 8 (a.log.map TEntry.en), .ro 3 (a.levels.map TLevel.en), .ro 3 (a.editions.map TEdition.en), I a.cover.w, I a.cover.h, S a.cover.cells, I a.now]] (fun r M => r = .tup [.agg [.own 0 0, .own 1 0, .own 2 0, I (stp a (edO a) (edK a)).cover.w, I (stp a (edO a) (edK a)).cover.h, S (stp a (edO a) (edK a)).cover.cells, I (stp a (edO a) (edK a)).now], B (stpB a (edO a) (edK a))] ∧ M = [some ⟨121, 8, 0, false, (stp a (edO a) (edK a)).log.map TEntry.ed⟩, some ⟨97, 3, 0, false, (stp a (edO a) (edK a)).levels.map TLevel.en⟩, some ⟨136, 3, 0, false, (stp a (edO a) (edK a)).editions.map TEdition.ed⟩]) from edn_i a (gdA_of (by assumption) (by assumption)) ))) ?_ | refine AL.any ?_ | refine AL.any (h := POp.D Tryz.func19 (hc := eqAtlas_self a (by assumption)) (hvw := by first | ((repeat' (first | exact VwL.nil | refine VwL.cons ?_ ?_ | (refine View.own (by rfl) (by rfl) (by rfl) (by rfl) ?_ ?_ <;> first | exact DCl.b rfl | exact DCl.map (fun _ => rfl) | assumption | rfl | exact TPoint.und | exact TSegment.und | exact TBox.und | exact TFeature.und | exact TMeet.und | exact TPlace.und | exact TCover.und | exact TLabel.und | exact TPiece.und | exact TLevel.und | exact TChart.und | exact TReason.und | exact TEdit.und | exact TEntry.und | exact TEdition.und | exact TListing.und | exact TAtlas.und | exact TEvent.und | exact TWindow.und | exact und_nil | exact und_I | assumption) | refine View.agg' ?_ | exact View.same (by first | exact clo_of (by rfl) | assumption | exact clo_fn _) | exact View.nil)); done) | fail)) ?_ | refine AL.any (h := POp.D Tryz.func19 (hc := eqAtlas_self (stp a (edO a) (edK a)) (by assumption)) (hvw := by first | ((repeat' (first | exact VwL.nil | refine VwL.cons ?_ ?_ | (refine View.own (by rfl) (by rfl) (by rfl) (by rfl) ?_ ?_ <;> first | exact DCl.b rfl | exact DCl.map (fun _ => rfl) | assumption | rfl | exact TPoint.und | exact TSegment.und | exact TBox.und | exact TFeature.und | exact TMeet.und | exact TPlace.und | exact TCover.und | exact TLabel.und | exact TPiece.und | exact TLevel.und | exact TChart.und | exact TReason.und | exact TEdit.und | exact TEntry.und | exact TEdition.und | exact TListing.und | exact TAtlas.und | exact TEvent.und | exact TWindow.und | exact und_nil | exact und_I | assumption) | refine View.agg' ?_ | exact View.same (by first | exact clo_of (by rfl) | assumption | exact clo_fn _) | exact View.nil)); done) | fail)) ?_ | refine AL.any (h := POp.H [2, 3, 4] Tryz.func22 (hc := markAtlas a (1) (by omega) (by omega))) ?_ | refine AL.any (h := POp.H [6, 7, 8] Tryz.func22 (hc := markAtlas (stp a (edO a) (edK a)) 1 (by omega) (by omega))) ?_ | refine AL.any (h := POp.D Tryz.func23 (hc := heldAtlas (stp a (edO a) (edK a)) 1 (by omega) (by omega))) ?_ | refine AL.any (h := POp.k Tryz.func24 (hc := szAtlas a _ (by assumption))) ?_ | refine AL.any (h := POp.k Tryz.func26 (hc := toAtlas a (by assumption))) ?_ | refine AL.any (h := POp.k Tryz.func32 (hc := edn_s' a (gdA_of (by assumption) (by assumption)) )) ?_ | refine AL.any (h := POp.k Tryz.func33 (hc := edn_i' a (gdA_of (by assumption) (by assumption)) )) ?_ | refine AL.U ?_ | refine AL.F ?_ | refine AL.T ?_ | refine AL.T (h := POp.D Tryz.func19 (hc := eqAtlas_self a (by assumption)) (hvw := by first | ((repeat' (first | exact VwL.nil | refine VwL.cons ?_ ?_ | (refine View.own (by rfl) (by rfl) (by rfl) (by rfl) ?_ ?_ <;> first | exact DCl.b rfl | exact DCl.map (fun _ => rfl) | assumption | rfl | exact TPoint.und | exact TSegment.und | exact TBox.und | exact TFeature.und | exact TMeet.und | exact TPlace.und | exact TCover.und | exact TLabel.und | exact TPiece.und | exact TLevel.und | exact TChart.und | exact TReason.und | exact TEdit.und | exact TEntry.und | exact TEdition.und | exact TListing.und | exact TAtlas.und | exact TEvent.und | exact TWindow.und | exact und_nil | exact und_I | assumption) | refine View.agg' ?_ | exact View.same (by first | exact clo_of (by rfl) | assumption | exact clo_fn _) | exact View.nil)); done) | fail)) ?_ | refine AL.T (h := POp.D Tryz.func19 (hc := eqAtlas_self (stp a (edO a) (edK a)) (by assumption)) (hvw := by first | ((repeat' (first | exact VwL.nil | refine VwL.cons ?_ ?_ | (refine View.own (by rfl) (by rfl) (by rfl) (by rfl) ?_ ?_ <;> first | exact DCl.b rfl | exact DCl.map (fun _ => rfl) | assumption | rfl | exact TPoint.und | exact TSegment.und | exact TBox.und | exact TFeature.und | exact TMeet.und | exact TPlace.und | exact TCover.und | exact TLabel.und | exact TPiece.und | exact TLevel.und | exact TChart.und | exact TReason.und | exact TEdit.und | exact TEntry.und | exact TEdition.und | exact TListing.und | exact TAtlas.und | exact TEvent.und | exact TWindow.und | exact und_nil | exact und_I | assumption) | refine View.agg' ?_ | exact View.same (by first | exact clo_of (by rfl) | assumption | exact clo_fn _) | exact View.nil)); done) | fail)) ?_ | refine AL.W ?_ | refine AL.W (h := fun h => by (try rw [h]); exact POp.D Tryz.func19 (hc := eqAtlas_self a (by assumption)) (hvw := by first | ((repeat' (first | exact VwL.nil | refine VwL.cons ?_ ?_ | (refine View.own (by rfl) (by rfl) (by rfl) (by rfl) ?_ ?_ <;> first | exact DCl.b rfl | exact DCl.map (fun _ => rfl) | assumption | rfl | exact TPoint.und | exact TSegment.und | exact TBox.und | exact TFeature.und | exact TMeet.und | exact TPlace.und | exact TCover.und | exact TLabel.und | exact TPiece.und | exact TLevel.und | exact TChart.und | exact TReason.und | exact TEdit.und | exact TEntry.und | exact TEdition.und | exact TListing.und | exact TAtlas.und | exact TEvent.und | exact TWindow.und | exact und_nil | exact und_I | assumption) | refine View.agg' ?_ | exact View.same (by first | exact clo_of (by rfl) | assumption | exact clo_fn _) | exact View.nil)); done) | fail)) ?_ | refine AL.W (h := fun h => by (try rw [h]); exact POp.D Tryz.func19 (hc := eqAtlas_self (stp a (edO a) (edK a)) (by assumption)) (hvw := by first | ((repeat' (first | exact VwL.nil | refine VwL.cons ?_ ?_ | (refine View.own (by rfl) (by rfl) (by rfl) (by rfl) ?_ ?_ <;> first | exact DCl.b rfl | exact DCl.map (fun _ => rfl) | assumption | rfl | exact TPoint.und | exact TSegment.und | exact TBox.und | exact TFeature.und | exact TMeet.und | exact TPlace.und | exact TCover.und | exact TLabel.und | exact TPiece.und | exact TLevel.und | exact TChart.und | exact TReason.und | exact TEdit.und | exact TEntry.und | exact TEdition.und | exact TListing.und | exact TAtlas.und | exact TEvent.und | exact TWindow.und | exact und_nil | exact und_I | assumption) | refine View.agg' ?_ | exact View.same (by first | exact clo_of (by rfl) | assumption | exact clo_fn _) | exact View.nil)); done) | fail)) ?_ | refine AL.nil ?_)
    | ((with_reducible show DL _ _ _ _ _ _ _); first | refine DL.any ?_ | refine DL.any (h := POp.k Tryz.func26 (hc := toAtlas a (by assumption))) ?_ | refine DL.nil ?_)
    | ((with_reducible show AW _ _ _ _ _ _); first | refine AW.seq ?_ | refine AW.region ?_ | refine AW.skip ?_ | refine AW.dr (id := 10) 3 ?_ | refine AW.cT ?_ | refine AW.cF ?_ | (refine AW.c2 ?_ ?_ <;> (intro h; try simp only [Bool.not_eq_true', Bool.not_eq_false'] at h)) | refine AW.block ?_ | refine AW.exit ?_ | refine AW.ret ?_)
    | with_reducible refine (if_pos rfl).mpr ?_
    | with_reducible refine (if_neg (by decide)).mpr ?_) <;> (try dsimp only))
  all_goals exact Fin.one rfl (RV.tmp (by rfl)) (clo_c _) ⟨by first | rfl | (simp_all; done), rfl⟩

end Go.Proofs.YtacbpfbelcdeiaaGreat.Abs
