/- Regions whose order is drawn: operations that leave the memory as it is go in every order; what waits for all of them goes at the end. -/
import Derived.Test.YtpffahmmklpifaaGreatAbsM
import Derived.Orders
namespace Go.Proofs.YtpffahmmklpifaaGreat.Abs
open Go.RowKit
set_option linter.unusedVariables false
set_option linter.unusedSimpArgs false

def depsF (acc : List Nat) (m : Nat) (e : Edge) : Nat := if Region.binds .any e then m ||| (2 ^ e.on ||| acc.getD e.on 0) else m
def deps (o : Oper) (acc : List Nat) : Nat := o.after.toList.foldl (depsF acc) 0
def masks : List Oper → List Nat → List Nat
 | [], acc => acc
 | o :: rest, acc => masks rest (acc ++ [deps o acc])
theorem masks_spec : ∀ (l : List Oper) (acc : List Nat), ∃ tl, masks l acc = acc ++ tl ∧ tl.length = l.length ∧ ∀ (j : Nat) o, l[j]? = some o → tl[j]? = some (deps o (acc ++ tl.take j))
 | [], acc => ⟨[], by simp [masks], rfl, fun j o h => by simp at h⟩
 | o :: l, acc => by
  obtain ⟨tl, h1, h2, h3⟩ := masks_spec l (acc ++ [deps o acc])
  refine ⟨deps o acc :: tl, by rw [masks, h1]; simp, by simp [h2], fun j o' hj => ?_⟩
  cases j with
  | zero => simp at hj; subst hj; simp
  | succ j =>
   have := h3 j o' (by simpa using hj)
   simpa using this
theorem depsF_bit (acc : List Nat) (i : Nat) : ∀ (es : List Edge) (m : Nat), (es.foldl (depsF acc) m).testBit i = true → m.testBit i = true ∨ ∃ e ∈ es, Region.binds .any e = true ∧ (i = e.on ∨ (acc.getD e.on 0).testBit i = true)
 | [], m, h => .inl h
 | e :: es, m, h => by
  rcases depsF_bit acc i es _ h with h | ⟨e', h1, h2⟩
  · unfold depsF at h
    split at h
    · rename_i hb
      rw [Nat.testBit_or, Nat.testBit_or] at h
      simp only [Bool.or_eq_true] at h
      rcases h with h | h | h
      · exact .inl h
      · rw [Nat.testBit_two_pow] at h
        exact .inr ⟨e, List.mem_cons_self, hb, .inl (Eq.symm (by simpa using h))⟩
      · exact .inr ⟨e, List.mem_cons_self, hb, .inr h⟩
    · exact .inl h
  · exact .inr ⟨e', List.mem_cons_of_mem _ h1, h2⟩
theorem before {l : List Oper} {L : Nat → Prop} (hd : ∀ j o, L j → l[j]? = some o → ∀ e ∈ o.after, Region.binds .any e = true → L e.on) :
 ∀ (j : Nat) o i, l[j]? = some o → (∀ e ∈ o.after, Region.binds .any e = true → L e.on) → ((masks l []).getD j 0).testBit i = true → L i := by
 obtain ⟨tl, h1, h2, h3⟩ := masks_spec l []
 rw [h1, List.nil_append]
 intro j
 induction j using Nat.strongRecOn with
 | _ j ih =>
  intro o i ho hj hb
  have hj3 := h3 j o ho
  have e1 : tl.getD j 0 = deps o (tl.take j) := by rw [List.getD_eq_getElem?_getD, hj3]; simp
  rw [e1] at hb
  rcases depsF_bit _ i _ 0 hb with h | ⟨e, he, hbe, h⟩
  · simp at h
  · have hL := hj e (by simpa using he) hbe
    rcases h with rfl | h
    · exact hL
    · rw [List.getD_eq_getElem?_getD, List.getElem?_take] at h
      split at h
      · rename_i hlt
        have hlen : e.on < tl.length := by
         rcases Nat.lt_or_ge e.on tl.length with hl | hl
         · exact hl
         · rw [List.getElem?_eq_none hl] at h; simp at h
        have hlo : e.on < l.length := by omega
        refine ih e.on hlt l[e.on] i (List.getElem?_eq_getElem hlo) (hd e.on _ hL (List.getElem?_eq_getElem hlo)) ?_
        rw [List.getD_eq_getElem?_getD]
        exact h
      · simp at h

def mskG (ks : List Nat) : Nat → List AV → List AV
 | _, [] => []
 | i, x :: xs => match ks.elem i with
  | true => x :: mskG ks (i + 1) xs
  | false => .any :: mskG ks (i + 1) xs
def msk (ks : List Nat) (tm : List AV) : List AV := mskG ks 0 tm
theorem mskG_length (ks : List Nat) : ∀ (tm : List AV) (i : Nat), (mskG ks i tm).length = tm.length
 | [], _ => rfl
 | _ :: xs, i => by
  simp only [mskG]
  split <;> simp [mskG_length ks xs]
theorem mskG_get (ks : List Nat) : ∀ (tm : List AV) (i t : Nat) (x : AV), (mskG ks i tm)[t]? = some x → x = .any ∨ ((i + t) ∈ ks ∧ tm[t]? = some x)
 | [], _, t, x, h => by simp [mskG] at h
 | y :: ys, i, 0, x, h => by
  simp only [mskG] at h
  split at h
  · rename_i he
    exact .inr ⟨by simpa using he, by simpa using h⟩
  · exact .inl (by simpa using h.symm)
 | y :: ys, i, t + 1, x, h => by
  have h' : (mskG ks (i + 1) ys)[t]? = some x := by
   simp only [mskG] at h
   split at h <;> simpa using h
  rcases mskG_get ks ys (i + 1) t x h' with h | ⟨h1, h2⟩
  · exact .inl h
  · exact .inr ⟨by rw [show i + (t + 1) = i + 1 + t by omega]; exact h1, by simpa using h2⟩
theorem msk_get {ks : List Nat} {tm : List AV} {t : Nat} {x : AV} (h : (msk ks tm)[t]? = some x) : x = .any ∨ (t ∈ ks ∧ tm[t]? = some x) := by
 have := mskG_get ks tm 0 t x h
 simpa using this

def notB (b : Bool) : Value → Bool
 | .bool x => x != b
 | _ => true
def GOp (P : Program) (ops : Array Oper) (o : Oper) (E : Env) (tm : List AV) (M : Mem) (r : AV) : Prop := match o.guard with
 | none => POp P o E tm M r M
 | some (j, b) => ∃ oj d, ops[j]? = some oj ∧ oj.dst = some d ∧ ((∃ t r0, evA tm (.tmp d) = some (.c (.bool t)) ∧ (t = b → POp P o E tm M r0 M) ∧ r = .when (bif b then t else !t) r0) ∨ (∃ v, evA tm (.tmp d) = some (.c v) ∧ notB b v = true ∧ r = .c undef))

section
variable {P : Program} {E : Env} {tm : List AV} {M : Mem} {o : Oper} {ops : Array Oper}
theorem GOp.go {r : AV} (h : GOp P ops o E tm M r) {a : Act} {w : World} {Fx : Nat → Prop} {β : List Hd} {K : Act → World → Prop} {Q : Exit → Act → World → Prop} (hh : HS E.base E.w0 w Fx β M) (hsl : Slots w Fx β (gens M) tm a.tmps)
 (hk : ∀ v w' Fx' β', HS E.base E.w0 w' Fx' β' M → Nx w Fx β M w' Fx' β' M → Rep w' Fx' β' (gens M) r v → K (a.put o.dst v) w') :
 if Region.wanted o (yielded ops a.tmps) then o.wp P a w K Q ∨ (o.asks P a w ∧ LetsOut Q) else K (a.put o.dst undef) w := by
 unfold GOp at h
 split at h
 · rename_i hg
   have hw : Region.wanted o (yielded ops a.tmps) = true := by simp [Region.wanted, hg]
   rw [if_pos hw]
   exact .inl (h a w K Q Fx β hh hsl hk)
 · rename_i j b hg
   obtain ⟨oj, d, hj, hd, ⟨t, r0, hb, h1, rfl⟩ | ⟨v, hb, hv, rfl⟩⟩ := h
   · have hy : yielded ops a.tmps j = some t := by
      rw [evA_tmp] at hb
      cases hq : tm[d]? with
      | none => rw [hq] at hb; cases hb
      | some y0 =>
       rw [hq] at hb
       obtain ⟨u, hu, hr⟩ := hsl.get hq
       have e : unw y0 = .c (.bool t) := by simpa using hb
       have := hr.unw
       rw [e] at this
       obtain rfl := this.c_inv
       simp [yielded, hj, hd, hu]
     by_cases e : t = b
     · have hw : Region.wanted o (yielded ops a.tmps) = true := by simp [Region.wanted, hg, hy, e]
       rw [if_pos hw]
       exact .inl (h1 e a w K Q Fx β hh hsl fun v w' Fx' β' g1 g2 g3 => hk v w' Fx' β' g1 g2 (.when fun _ => g3))
     · have e2 : t = !b := by cases t <;> cases b <;> simp_all
       have hw : Region.wanted o (yielded ops a.tmps) = false := by cases b <;> simp [Region.wanted, hg, hy, e2]
       rw [if_neg (by rw [hw]; decide)]
       refine hk undef w Fx β hh Nx.refl (.when fun ht => ?_)
       subst e2
       cases b <;> cases ht
   · have hw : Region.wanted o (yielded ops a.tmps) = false := by
      rw [evA_tmp] at hb
      cases hq : tm[d]? with
      | none => rw [hq] at hb; cases hb
      | some y0 =>
       rw [hq] at hb
       obtain ⟨u, hu, hr⟩ := hsl.get hq
       have e : unw y0 = .c v := by simpa using hb
       have := hr.unw
       rw [e] at this
       obtain rfl := this.c_inv
       have hy : yielded ops a.tmps j = match u with | .bool b => some b | _ => none := by
        have e1 : ((ops[j]?).bind (·.dst)).bind (a.tmps[·]?) = some u := by rw [hj]; show oj.dst.bind (a.tmps[·]?) = some u; rw [hd]; exact hu
        unfold yielded
        rw [e1]
        cases u <;> rfl
       simp only [Region.wanted, hg]
       rw [hy]
       cases u <;> first
        | rfl
        | (rename_i x
           cases x <;> cases b <;> first | rfl | cases hv)
     rw [if_neg (by rw [hw]; decide)]
     exact hk undef w Fx β hh Nx.refl (.c _)
end

def DL (P : Program) (ops : Array Oper) (E : Env) (M : Mem) : List Oper → List AV → (List AV → Prop) → Prop
 | [], tm, N => N tm
 | o :: rest, tm, N => ∃ r, GOp P ops o E (msk (o.looksAt ops) tm) M r ∧ DL P ops E M rest (dput tm o.dst r) N
def run : List Oper → List AV → List AV → Nat → List AV
 | o :: os, r :: rs, tm, j + 1 => run os rs (dput tm o.dst r) j
 | _, _, tm, _ => tm
theorem dput_length (tm : List AV) (d : Option Nat) (x : AV) : (dput tm d x).length = tm.length := by cases d <;> simp [dput]
theorem run_length : ∀ (os : List Oper) (rs tm : List AV) (j : Nat), (run os rs tm j).length = tm.length
 | o :: os, r :: rs, tm, j + 1 => by rw [run, run_length os rs, dput_length]
 | [], _, tm, j => by simp [run]
 | _ :: _, [], tm, j => by cases j <;> simp [run]
 | _ :: _, _ :: _, tm, 0 => by simp [run]
theorem run_get : ∀ (os : List Oper) (rs tm : List AV) (j t : Nat) (x : AV), rs.length = os.length → (run os rs tm j)[t]? = some x →
 (∃ i o, i < j ∧ os[i]? = some o ∧ o.dst = some t ∧ rs[i]? = some x) ∨ ((∀ i o, i < j → os[i]? = some o → o.dst ≠ some t) ∧ tm[t]? = some x)
 | [], rs, tm, j, t, x, hl, h => .inr ⟨fun i o _ ho => by simp at ho, by simpa [run] using h⟩
 | o :: os, [], tm, j, t, x, hl, h => by simp at hl
 | o :: os, r :: rs, tm, 0, t, x, hl, h => .inr ⟨fun i o hi => by omega, by simpa [run] using h⟩
 | o :: os, r :: rs, tm, j + 1, t, x, hl, h => by
  rw [run] at h
  rcases run_get os rs _ j t x (by simpa using hl) h with ⟨i, o', h1, h2, h3, h4⟩ | ⟨h1, h2⟩
  · exact .inl ⟨i + 1, o', by omega, by simpa using h2, h3, by simpa using h4⟩
  · by_cases e : o.dst = some t
    · rw [e] at h2
      simp only [dput, List.getElem?_set, if_pos] at h2
      split at h2
      · obtain rfl := Option.some.inj h2
        exact .inl ⟨0, o, by omega, rfl, e, rfl⟩
      · cases h2
    · refine .inr ⟨fun i o' hi ho' => ?_, ?_⟩
      · cases i with
        | zero => simp at ho'; subst ho'; exact e
        | succ i => exact h1 i o' (by omega) (by simpa using ho')
      · cases hd : o.dst with
        | none => rw [hd] at h2; exact h2
        | some d =>
         rw [hd] at h2
         have hne : d ≠ t := fun h => e (by rw [hd, h])
         simpa [dput, List.getElem?_set, hne] using h2
theorem DL.data {P : Program} {ops : Array Oper} {E : Env} {M : Mem} {N : List AV → Prop} : ∀ (os : List Oper) (tm : List AV), DL P ops E M os tm N →
 ∃ rs : List AV, rs.length = os.length ∧ N (run os rs tm os.length) ∧ ∀ (j : Nat) o, os[j]? = some o → ∃ r, rs[j]? = some r ∧ GOp P ops o E (msk (o.looksAt ops) (run os rs tm j)) M r
 | [], tm, h => ⟨[], rfl, by simpa [run, DL] using h, fun j o ho => by simp at ho⟩
 | o :: os, tm, h => by
  obtain ⟨r, hg, h⟩ := h
  obtain ⟨rs, h1, h2, h3⟩ := DL.data os _ h
  refine ⟨r :: rs, by simp [h1], by simpa [run] using h2, fun j o' ho' => ?_⟩
  cases j with
  | zero => simp at ho'; subst ho'; exact ⟨r, rfl, by simpa [run] using hg⟩
  | succ j =>
   obtain ⟨r', g1, g2⟩ := h3 j o' (by simpa using ho')
   exact ⟨r', by simpa using g1, by simpa [run] using g2⟩

def dstAt (l : List Oper) (i : Nat) : Option Nat := (l[i]?).bind (·.dst)
def chkD (l : List Oper) (n1 : Nat) : Bool :=
 (List.range l.length).all fun j => match l[j]? with
  | none => true
  | some o => o.after.toList.all (fun e => !Region.binds .any e || Nat.blt e.on j) && match Nat.blt j n1 with
   | true => (o.looksAt l.toArray).all (fun t => (List.range l.length).all fun i => Nat.beq i j || !decide (dstAt l i = some t) || match Nat.blt i j with
    | true => ((masks l []).getD j 0).testBit i
    | false => ((masks l []).getD i 0).testBit j) && (List.range j).all (fun i => decide (o.dst = none) || !decide (dstAt l i = o.dst))
   | false => (List.range j).all fun i => ((masks l []).getD j 0).testBit i
structure ChkD (l : List Oper) (n1 : Nat) : Prop where
 top : ∀ (j : Nat) o e, l[j]? = some o → e ∈ o.after → Region.binds .any e = true → e.on < j
 look : ∀ (j : Nat) o t i oi, l[j]? = some o → j < n1 → t ∈ o.looksAt l.toArray → l[i]? = some oi → oi.dst = some t → i ≠ j → (i < j → ((masks l []).getD j 0).testBit i = true) ∧ (j < i → ((masks l []).getD i 0).testBit j = true)
 one : ∀ (j i : Nat) o oi d, l[j]? = some o → j < n1 → i < j → l[i]? = some oi → o.dst = some d → oi.dst ≠ some d
 tail : ∀ (j : Nat) o i, l[j]? = some o → n1 ≤ j → i < j → ((masks l []).getD j 0).testBit i = true
theorem chkD_ok {l : List Oper} {n1 : Nat} (h : chkD l n1 = true) : ChkD l n1 := by
 unfold chkD at h
 rw [List.all_eq_true] at h
 have hj : ∀ (j : Nat) o, l[j]? = some o → _ := fun j o ho => by
  have := h j (List.mem_range.2 (List.getElem?_eq_some_iff.1 ho).1)
  simp only [ho] at this
  exact this
 have blt : ∀ {a b : Nat}, a < b → Nat.blt a b = true := fun h => by simp [Nat.blt]; omega
 have nblt : ∀ {a b : Nat}, b ≤ a → Nat.blt a b = false := fun h => by
  rcases e : Nat.blt _ _ with _ | _
  · rfl
  · simp [Nat.blt] at e; omega
 have dst : ∀ {i : Nat} {oi : Oper}, l[i]? = some oi → dstAt l i = oi.dst := fun h => by simp [dstAt, h]
 refine ⟨fun j o e ho he hbe => ?_, fun j o t i oi ho hj1 ht hi hd hne => ?_, fun j i o oi d ho hj1 hij hi hd hdi => ?_, fun j o i ho hj1 hij => ?_⟩
 · have := hj j o ho
   rw [Bool.and_eq_true] at this
   have h2 := List.all_eq_true.1 this.1 e (by simpa using he)
   rw [hbe] at h2
   have h3 : e.on + 1 ≤ j := by simpa [Nat.blt] using h2
   omega
 · have := hj j o ho
   rw [Bool.and_eq_true, blt hj1] at this
   have h2 := this.2
   simp only at h2
   rw [Bool.and_eq_true] at h2
   have h3 := List.all_eq_true.1 (List.all_eq_true.1 h2.1 t ht) i (List.mem_range.2 (List.getElem?_eq_some_iff.1 hi).1)
   rw [dst hi, hd] at h3
   have hb : Nat.beq i j = false := by
    rcases e : Nat.beq i j with _ | _
    · rfl
    · exact absurd (Nat.eq_of_beq_eq_true e) hne
   simp only [hb, decide_true, Bool.not_true, Bool.or_false, Bool.false_or] at h3
   refine ⟨fun hlt => ?_, fun hlt => ?_⟩
   · rw [blt hlt] at h3; exact h3
   · rw [nblt (by omega)] at h3; exact h3
 · have := hj j o ho
   rw [Bool.and_eq_true, blt hj1] at this
   have h2 := this.2
   simp only at h2
   rw [Bool.and_eq_true] at h2
   have h3 := List.all_eq_true.1 h2.2 i (List.mem_range.2 hij)
   rw [dst hi, hd, hdi] at h3
   simp at h3
 · have := hj j o ho
   rw [Bool.and_eq_true, nblt hj1] at this
   have h2 := this.2
   simp only at h2
   exact List.all_eq_true.1 h2 i (List.mem_range.2 hij)

section
variable {P : Program} {E : Env} {M : Mem} {l : List Oper} {n1 : Nat} {rs tm0 : List AV}
structure DInv (E : Env) (M : Mem) (l : List Oper) (n1 : Nat) (rs tm0 : List AV) (L : Array Bool) (a : Act) (w : World) : Prop where
 sz : L.size = l.length
 down : ∀ (j : Nat) o, L.getD j false = true → l[j]? = some o → ∀ e ∈ o.after, Region.binds .any e = true → L.getD e.on false = true
 first : ∀ j, L.getD j false = true → j < n1
 st : a.defers = [] ∧ ∃ Fx β, HS E.base E.w0 w Fx β M ∧ Out E w Fx β M ∧ a.tmps.size = tm0.length ∧ ∀ (t : Nat) u, a.tmps[t]? = some u →
  (∀ (i : Nat) o r, L.getD i false = true → l[i]? = some o → o.dst = some t → rs[i]? = some r → Rep w Fx β (gens M) r u) ∧ ((∀ (i : Nat) o, L.getD i false = true → l[i]? = some o → o.dst ≠ some t) → ∀ x, tm0[t]? = some x → Rep w Fx β (gens M) x u)
theorem getD_set {L : Array Bool} {i j : Nat} (hi : i < L.size) : (L.setIfInBounds i true).getD j false = true ↔ j = i ∨ L.getD j false = true := by
 rw [Array.getD_eq_getD_getElem?, Array.getD_eq_getD_getElem?, Array.getElem?_setIfInBounds]
 by_cases e : i = j
 · subst e; simp [hi]
 · simp [e, Ne.symm e]
def cnt (L : Array Bool) : Nat := L.toList.countP (fun b => !b)
theorem cnt_set {L : Array Bool} {i : Nat} (hi : i < L.size) (h : L.getD i true = false) : cnt (L.setIfInBounds i true) + 1 = cnt L := by
 unfold cnt
 have hil : i < L.toList.length := by simpa using hi
 have e : L.toList[i] = false := by
  rw [Array.getD_eq_getD_getElem?, Array.getElem?_eq_getElem hi] at h
  simpa using h
 have hpos : 0 < L.toList.countP (fun b => !b) := List.countP_pos_iff.2 ⟨L.toList[i], List.getElem_mem hil, by rw [e]; rfl⟩
 rw [Array.toList_setIfInBounds, List.countP_set hil, e]
 show (L.toList.countP (fun b => !b) - 1 + 0) + 1 = L.toList.countP (fun b => !b)
 omega
theorem cnt_zero {L : Array Bool} (h : cnt L = 0) {i : Nat} (hi : i < L.size) : L.getD i true = true := by
 unfold cnt at h
 rw [List.countP_eq_zero] at h
 have := h L[i] (by simp)
 rw [Array.getD_eq_getD_getElem?, Array.getElem?_eq_getElem hi]
 simpa using this
theorem getD_tf {L : Array Bool} {i : Nat} (hi : i < L.size) : L.getD i true = L.getD i false := by
 rw [Array.getD_eq_getD_getElem?, Array.getD_eq_getD_getElem?, Array.getElem?_eq_getElem hi]; rfl

theorem wpAny_tail {Q : Exit → Act → World → Prop} (hc : ChkD l n1) : ∀ (fuel k : Nat) (L : Array Bool) (a : Act) (w : World), n1 ≤ k → k ≤ l.length → L.size = l.length → (∀ i, L.getD i false = true ↔ i < k) → cnt L ≤ fuel →
 wpList P l.toArray Q (l.drop k) a w → wpAny P .any l.toArray Q fuel L a w := by
 have ready : ∀ {k : Nat} {L : Array Bool} {j : Nat}, n1 ≤ k → L.size = l.length → (∀ i, L.getD i false = true ↔ i < k) → j ∈ Region.ready .any l.toArray L → j = k ∧ j < l.length := by
  intro k L j hk hsz hL hj
  obtain ⟨h1, o, ho, h2⟩ := mem_ready.1 hj
  have ho' : l[j]? = some o := by simpa using ho
  have hlt : j < l.length := (List.getElem?_eq_some_iff.1 ho').1
  rw [getD_tf (by omega)] at h1
  have hkj : k ≤ j := by
   rcases Nat.lt_or_ge j k with h | h
   · rw [(hL j).2 h] at h1; cases h1
   · exact h
  refine ⟨?_, hlt⟩
  rcases Nat.lt_or_ge k j with h | h
  · have hb := hc.tail j o k ho' (by omega) h
    have := before (l := l) (L := fun i => i < k) (fun j' o' hj' ho' e he hbe => by have := hc.top j' o' e ho' he hbe; omega) j o k ho' (fun e he hbe => (hL _).1 (h2 e he hbe)) hb
    omega
  · omega
 intro fuel
 induction fuel with
 | zero =>
  intro k L a w hk hkl hsz hL hcnt hw
  have hend : k = l.length := by
   rcases Nat.lt_or_ge k l.length with h | h
   · have := cnt_zero (by omega) (i := k) (L := L) (by omega)
     rw [getD_tf (by omega), hL] at this
     omega
   · omega
  rw [hend, List.drop_length] at hw
  refine ⟨?_, hw⟩
  rw [List.eq_nil_iff_forall_not_mem]
  intro j hj
  have := ready hk hsz hL hj
  omega
 | succ fuel ih =>
  intro k L a w hk hkl hsz hL hcnt hw
  refine ⟨fun hr => ?_, fun j hj => ?_⟩
  · rcases Nat.lt_or_ge k l.length with h | h
    · have : k ∈ Region.ready .any l.toArray L := mem_ready.2 ⟨by
       rw [getD_tf (by omega)]
       rcases e : L.getD k false with _ | _
       · rfl
       · rw [hL] at e; omega, l[k], by simp, fun e he hbe => (hL _).2 (by have := hc.top k _ e (List.getElem?_eq_getElem h) he hbe; omega)⟩
      rw [hr] at this
      simp at this
    · rw [List.drop_eq_nil_of_le h] at hw
      exact hw
  · obtain ⟨rfl, hlt⟩ := ready hk hsz hL hj
    have ho : l.toArray[j]? = some l[j] := by simp
    rw [List.drop_eq_getElem_cons hlt] at hw
    have nxt : ∀ a' w', wpList P l.toArray Q (l.drop (j + 1)) a' w' → wpAny P .any l.toArray Q fuel (L.setIfInBounds j true) a' w' := fun a' w' h => by
     have hu : L.getD j true = false := (mem_ready.1 hj).1
     have := cnt_set (L := L) (i := j) (by omega) hu
     refine ih (j + 1) _ a' w' (by omega) (by omega) (by simpa using hsz) (fun i => ?_) (by omega) h
     rw [getD_set (by omega), hL]
     omega
    unfold wpOp
    rw [ho]
    simp only [wpList] at hw
    simp only
    split
    · rename_i hwt
      rw [if_pos hwt] at hw
      exact hw.imp (Oper.wp_mono nxt) id
    · rename_i hwt
      rw [if_neg hwt] at hw
      exact nxt _ _ hw

theorem put_size (a : Act) (d : Option Nat) (u : Value) : (a.put d u).tmps.size = a.tmps.size := by cases d <;> simp [Act.put]
theorem put_get (a : Act) (d : Option Nat) (v : Value) (t : Nat) (u : Value) (h : (a.put d v).tmps[t]? = some u) : (d = some t ∧ u = v) ∨ (d ≠ some t ∧ a.tmps[t]? = some u) := by
 cases d with
 | none => exact .inr ⟨by simp, h⟩
 | some d =>
  simp only [Act.put] at h
  rw [Array.getElem?_setIfInBounds] at h
  by_cases e : d = t
  · subst e
    rw [if_pos rfl] at h
    split at h
    · exact .inl ⟨rfl, (Option.some.inj h).symm⟩
    · cases h
  · rw [if_neg e] at h
    exact .inr ⟨by simpa using e, h⟩

theorem wpAny_pure {Q : Exit → Act → World → Prop} (hc : ChkD l n1) (hn : n1 ≤ l.length) (hrl : rs.length = n1)
 (hops : ∀ (j : Nat) o, j < n1 → l[j]? = some o → ∃ r, rs[j]? = some r ∧ GOp P l.toArray o E (msk (o.looksAt l.toArray) (run (l.take n1) rs tm0 j)) M r)
 (hend : ∀ a w, Sim E (run (l.take n1) rs tm0 n1) M a w → wpList P l.toArray Q (l.drop n1) a w) :
 ∀ (fuel : Nat) (L : Array Bool) (a : Act) (w : World), DInv E M l n1 rs tm0 L a w → cnt L ≤ fuel → wpAny P .any l.toArray Q fuel L a w := by
 have hrlen : rs.length = (l.take n1).length := by rw [hrl, List.length_take]; omega
 have tk : ∀ {i : Nat} {o : Oper}, (l.take n1)[i]? = some o → i < n1 ∧ l[i]? = some o := fun {i o} h => by
  rw [List.getElem?_take] at h
  split at h
  · exact ⟨by assumption, h⟩
  · cases h
 have tk2 : ∀ {i : Nat} {o : Oper}, i < n1 → l[i]? = some o → (l.take n1)[i]? = some o := fun hi h => by rw [List.getElem?_take, if_pos hi]; exact h
 -- when all of the first have gone
 have fin : ∀ (fuel : Nat) (L : Array Bool) (a : Act) (w : World), DInv E M l n1 rs tm0 L a w → cnt L ≤ fuel → (∀ i, i < n1 → L.getD i false = true) → wpAny P .any l.toArray Q fuel L a w := by
  intro fuel L a w hI hcnt hall
  refine wpAny_tail hc fuel n1 L a w (Nat.le_refl _) hn hI.sz (fun i => ⟨hI.first i, hall i⟩) hcnt (hend a w ?_)
  obtain ⟨hd, Fx, β, hh, ho, hsz, hs⟩ := hI.st
  refine ⟨hd, Fx, β, hh, ho, by rw [run_length]; exact hsz, fun t x u hx hu => ?_⟩
  obtain ⟨h1, h2⟩ := hs t u hu
  rcases run_get _ _ _ _ _ _ hrlen hx with ⟨i, o, hi, ho', hdst, hr⟩ | ⟨hno, hx0⟩
  · exact h1 i o x (hall i hi) (tk ho').2 hdst hr
  · exact h2 (fun i o hL ho' => hno i o (hI.first i hL) (tk2 (hI.first i hL) ho')) x hx0
 intro fuel
 induction fuel with
 | zero =>
  intro L a w hI hcnt
  refine fin 0 L a w hI hcnt (fun i hi => ?_)
  have := cnt_zero (by omega) (i := i) (L := L) (by rw [hI.sz]; omega)
  rwa [getD_tf (by rw [hI.sz]; omega)] at this
 | succ fuel ih =>
  intro L a w hI hcnt
  by_cases hall : ∀ i, i < n1 → L.getD i false = true
  · exact fin _ L a w hI hcnt hall
  · have hex : ∃ i, i < n1 ∧ L.getD i false ≠ true := Classical.byContradiction fun h => hall fun i hi => Classical.byContradiction fun h2 => h ⟨i, hi, h2⟩
    obtain ⟨i0, ⟨hi0, hu0⟩, hmin⟩ := least_of hex
    have hi0l : i0 < l.length := by omega
    refine ⟨fun hr => ?_, fun j hj => ?_⟩
    · have : i0 ∈ Region.ready .any l.toArray L := mem_ready.2 ⟨by
       rw [getD_tf (by rw [hI.sz]; omega)]
       simpa using hu0, l[i0], by simp, fun e he hbe => by
        have hlt := hc.top i0 _ e (List.getElem?_eq_getElem hi0l) he hbe
        rcases e2 : L.getD e.on false with _ | _
        · exact absurd (hmin e.on ⟨by omega, by rw [e2]; decide⟩) (by omega)
        · rfl⟩
      rw [hr] at this
      simp at this
    · obtain ⟨hun, o, ho, hdep⟩ := mem_ready.1 hj
      have ho' : l[j]? = some o := by simpa using ho
      have hjl : j < l.length := (List.getElem?_eq_some_iff.1 ho').1
      have hunf : L.getD j false = false := by rw [← getD_tf (by rw [hI.sz]; omega)]; exact hun
      have bef : ∀ i, ((masks l []).getD j 0).testBit i = true → L.getD i false = true := fun i hb => before (l := l) (L := fun i => L.getD i false = true) hI.down j o i ho' hdep hb
      have hjn : j < n1 := by
       rcases Nat.lt_or_ge j n1 with h | h
       · exact h
       · exact absurd (bef i0 (hc.tail j o i0 ho' h (by omega))) hu0
      obtain ⟨r, hr, hg⟩ := hops j o hjn ho'
      obtain ⟨hd, Fx, β, hh, hout, hsz, hs⟩ := hI.st
      unfold wpOp
      rw [ho]
      refine hg.go hh ⟨by rw [msk, mskG_length, run_length]; exact hsz, fun t x u hx hu => ?_⟩ (fun v w' Fx' β' hh' hx hrep => ih _ _ _ ⟨by simpa using hI.sz, fun j' o2 hj' ho2 e he hbe => ?_, fun j' hj' => ?_, (put_defers a o.dst v).trans hd, Fx', β', hh', ?_, by rw [put_size]; exact hsz, fun t u hu => ?_⟩ (by have := cnt_set (L := L) (i := j) (by rw [hI.sz]; omega) hun; omega))
      · -- what it looks at
        rcases msk_get hx with rfl | ⟨hlook, hx⟩
        · exact .any u
        · obtain ⟨h1, h2⟩ := hs t u hu
          rcases run_get _ _ _ _ _ _ hrlen hx with ⟨i, oi, hi, hoi, hdst, hri⟩ | ⟨hno, hx0⟩
          · have hoi := (tk hoi).2
            exact h1 i oi x (bef i ((hc.look j o t i oi ho' hjn hlook hoi hdst (by omega)).1 hi)) hoi hdst hri
          · refine h2 (fun i oi hL hoi hdst => ?_) x hx0
            rcases Nat.lt_trichotomy i j with h | h | h
            · exact hno i oi h (tk2 (by omega) hoi) hdst
            · subst h; rw [hunf] at hL; cases hL
            · have hb := (hc.look j o t i oi ho' hjn hlook hoi hdst (by omega)).2 h
              have := before (l := l) (L := fun i => L.getD i false = true) hI.down i oi j hoi (hI.down i oi hL hoi) hb
              rw [hunf] at this
              cases this
      · rw [getD_set (by rw [hI.sz]; omega)] at hj' ⊢
        rcases hj' with rfl | hj'
        · rw [ho'] at ho2
          obtain rfl := Option.some.inj ho2
          exact .inr (hdep e he hbe)
        · exact .inr (hI.down j' o2 hj' ho2 e he hbe)
      · rw [getD_set (by rw [hI.sz]; omega)] at hj'
        rcases hj' with rfl | hj'
        · exact hjn
        · exact hI.first j' hj'
      · refine ⟨hout.mv.trans hx.mv, Nat.le_trans hout.size hx.size, fun k hk => ?_, fun id b v k h1 h2 h3 => ?_⟩
        · rcases hx.lim k hk with h | h | ⟨id, b, v, h1, h2, h3⟩
          · exact hout.lim k h
          · exact .inr (.inl (Nat.le_trans hout.size h))
          · rcases hout.own id b v k h1 h2 h3 with h | h
            · exact .inr (.inl h)
            · exact .inr (.inr h)
        · rcases hx.own id b v k h1 h2 h3 with h | ⟨id', b', v', g1, g2, g3⟩
          · exact .inl (Nat.le_trans hout.size h)
          · exact hout.own id' b' v' k g1 g2 g3
      · rcases put_get a o.dst v t u hu with ⟨hdt, rfl⟩ | ⟨hdt, hu⟩
        · refine ⟨fun i oi ri hL hoi hdst hri => ?_, fun hno => absurd hdt (hno j o ((getD_set (by rw [hI.sz]; omega)).2 (.inl rfl)) ho')⟩
          have hin : i < n1 := by
           rw [getD_set (by rw [hI.sz]; omega)] at hL
           rcases hL with rfl | hL
           · exact hjn
           · exact hI.first i hL
          have e : i = j := by
           rcases Nat.lt_trichotomy i j with h | h | h
           · exact absurd hdst (hc.one j i o oi t ho' hjn h hoi hdt)
           · exact h
           · exact absurd hdt (hc.one i j oi o t hoi hin h ho' hdst)
          subst e
          rw [hr] at hri
          obtain rfl := Option.some.inj hri
          exact hrep
        · obtain ⟨h1, h2⟩ := hs t u hu
          refine ⟨fun i oi ri hL hoi hdst hri => ?_, fun hno x hx0 => (h2 (fun i oi hL hoi => hno i oi ((getD_set (by rw [hI.sz]; omega)).2 (.inr hL)) hoi) x hx0).mv hx.mv⟩
          rw [getD_set (by rw [hI.sz]; omega)] at hL
          rcases hL with rfl | hL
          · rw [ho'] at hoi
            obtain rfl := Option.some.inj hoi
            exact absurd hdst hdt
          · exact (h1 i oi ri hL hoi hdst hri).mv hx.mv

theorem AW.drawn {id : Nat} {tm : List AV} {Qx : XPost} (n1 : Nat) (hm : P.follows .mixedOrders = true) (hc : chkD l n1 = true) (hn : Nat.ble n1 l.length = true)
 (h : DL P l.toArray E M (l.take n1) tm (fun tm' => AL P l.toArray (l.drop n1) E tm' M (Qx .normal))) : AW P (.region id l.toArray true) E tm M Qx := by
 intro a w Q hs hq
 have hn := Nat.le_of_ble_eq_true hn
 obtain ⟨rs, h1, h2, h3⟩ := DL.data _ _ h
 have htl : (l.take n1).length = n1 := by rw [List.length_take]; omega
 refine wp_region_any hm ?_
 obtain ⟨hd, Fx, β, hh, ho, hsl⟩ := hs
 have hdrew : ∀ {k : Nat}, ({ w with drawn := w.drawn + 1 } : World).heap[k]? = w.heap[k]? := rfl
 have hbel : Below w.heap.size w { w with drawn := w.drawn + 1 } := by exact (Below.refl w.heap.size w).drew
 obtain ⟨hh', m⟩ := hh.step hbel
 rw [htl] at h2
 refine wpAny_pure (E := E) (M := M) (rs := rs) (tm0 := tm) (chkD_ok hc) hn (by rw [h1, htl]) (fun j o hj ho => h3 j o (by rw [List.getElem?_take, if_pos hj]; exact ho)) (fun a' w' hs' => h2 a' w' Q hs' fun tm' M' a2 w2 hx hs2 => hq _ _ _ _ _ hx hs2) _ _ _ _ ⟨by simp, fun j o hj => ?_, fun j hj => ?_, hd, Fx, β, hh', ⟨ho.mv.trans m, Nat.le_trans ho.size hbel.size, ho.lim, ho.own⟩, hsl.1, fun t u hu => ⟨fun i o r hL => ?_, fun _ x hx => (hsl.2 t x u hx hu).mv m⟩⟩ ?_
 · simp [Array.getD_eq_getD_getElem?, Array.getElem?_replicate] at hj
   split at hj <;> simp at hj
 · simp [Array.getD_eq_getD_getElem?, Array.getElem?_replicate] at hj
   split at hj <;> simp at hj
 · simp [Array.getD_eq_getD_getElem?, Array.getElem?_replicate] at hL
   split at hL <;> simp at hL
 · unfold cnt
   have := List.countP_le_length (p := fun b => !b) (l := (Array.replicate l.toArray.size false).toList)
   simpa using this
end
end Go.Proofs.YtpffahmmklpifaaGreat.Abs
