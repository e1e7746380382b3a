/- Drawn regions with several makers, whose numbers are kept beforehand: the memory does not depend on the order. -/
import Derived.Test.YtfbanjdfihdngaaDoorAbsY
import Derived.Test.YtfbanjdfihdngaaDoorAbsR
namespace Go.Proofs.YtfbanjdfihdngaaDoor.Abs
open Go.RowKit
set_option linter.unusedVariables false
set_option linter.unusedSimpArgs false

def Rsv : Blk := ⟨0, 0, 0, false, []⟩
section
variable {P : Program} {E : Env} {tm : List AV} {M : Mem} {w w0 : World} {Fx : Nat → Prop} {β : List Hd} {base : Nat} {o : Oper}
theorem HS.newAt (h : HS base w0 w Fx β M) {id : Nat} (hM : M[id]? = some (some Rsv)) {w' : World} (hb : Below w.heap.size w w') {b : Blk} (hg : b.gen = 1) {v : Hd}
    (hok : Mv w Fx β (gens M) w' Fx (β.set id v) (gens (M.set id (some b))) → BlkOk w' Fx (β.set id v) (gens (M.set id (some b))) base b v) (hf : ∀ k, v.has k → w.heap.size ≤ k) :
    HS base w0 w' Fx (β.set id v) (M.set id (some b)) ∧ Mv w Fx β (gens M) w' Fx (β.set id v) (gens (M.set id (some b))) := by
  have hid : id < M.length := (List.getElem?_eq_some_iff.1 hM).1
  have gm : ∀ {q : Nat}, q ≠ id → (gens (M.set id (some b)))[q]? = (gens M)[q]? := fun {q} hq => by
    unfold gens
    rw [List.getElem?_map, List.getElem?_map, List.getElem?_set, if_neg (Ne.symm hq)]
  have g0 : (gens M)[id]? = some (some 0) := gens_of hM
  have m : Mv w Fx β (gens M) w' Fx (β.set id v) (gens (M.set id (some b))) := ⟨fun _ h => h, fun k hF => hb.block k (h.fx k hF), by simp [gens_length], fun q g' hq hg' => by
    by_cases e : q = id
    · subst e
      have h1 : (gens (M.set q (some b)))[q]? = some (some b.gen) := gens_of (by simp [hid])
      rw [h1, hg] at hg'
      refine ⟨0, g0, Nat.zero_le _, fun e2 => ?_⟩
      simp at hg'
      omega
    · rw [gm e] at hg'
      exact ⟨g', hg', Nat.le_refl _, fun _ => hd_eq (by rw [List.getElem?_set, if_neg (Ne.symm e)])⟩⟩
  have old : ∀ {q : Nat} {b' : Blk}, (M.set id (some b))[q]? = some (some b') → (q ≠ id ∧ M[q]? = some (some b')) ∨ (q = id ∧ b' = b) := by
    intro q b' hq
    rw [List.getElem?_set] at hq
    by_cases e : id = q
    · subst e
      rw [if_pos rfl, if_pos hid] at hq
      simp at hq
      exact .inr ⟨rfl, hq.symm⟩
    · rw [if_neg e] at hq
      exact .inl ⟨fun h => e h.symm, hq⟩
  have oldβ : ∀ {q : Nat}, q ≠ id → (β.set id v)[q]? = β[q]? := fun hq => by rw [List.getElem?_set, if_neg (Ne.symm hq)]
  have hnew : (β.set id v)[id]? = some v := by simp [h.len, hid]
  refine ⟨⟨h.bel.trans (hb.mono h.bs), Nat.le_trans h.bs hb.size, fun k hk => Nat.lt_of_lt_of_le (h.fx k hk) hb.size, by simp [h.len], fun q b' hq => ?_, fun q q' b1 b2 v1 v2 k hne h1 h2 hv1 hv2 hk1 hk2 => ?_⟩, m⟩
  · rcases old hq with ⟨hne, hb0⟩ | ⟨rfl, rfl⟩
    · obtain ⟨v', hv', hok'⟩ := h.blk q b' hb0
      exact ⟨v', (oldβ hne).trans hv', hok'.mv m hb.size (fun k hk' => hb.block k (hok'.1 k hk').2.1) (fun k hk' => (hok'.1 k hk').2.2)⟩
    · exact ⟨v, hnew, hok m⟩
  · rcases old h1 with ⟨hn1, hb1⟩ | ⟨rfl, rfl⟩
    · rw [oldβ hn1] at hv1
      rcases old h2 with ⟨hn2, hb2⟩ | ⟨rfl, rfl⟩
      · rw [oldβ hn2] at hv2
        exact h.inj q q' b1 b2 v1 v2 k hne hb1 hb2 hv1 hv2 hk1 hk2
      · rw [hnew] at hv2
        obtain rfl := Option.some.inj hv2
        obtain ⟨v3, hv3, hok3⟩ := h.blk q b1 hb1
        rw [hv1] at hv3
        obtain rfl := Option.some.inj hv3
        have := (hok3.1 k hk1).2.1
        have := hf k hk2
        omega
    · rw [hnew] at hv1
      obtain rfl := Option.some.inj hv1
      rcases old h2 with ⟨hn2, hb2⟩ | ⟨rfl, _⟩
      · rw [oldβ hn2] at hv2
        obtain ⟨v3, hv3, hok3⟩ := h.blk q' b2 hb2
        rw [hv2] at hv3
        obtain rfl := Option.some.inj hv3
        have := (hok3.1 k hk2).2.1
        have := hf k hk1
        omega
      · exact hne rfl

theorem POp.newVarAt {t : TypeId} {cs : List AV} {id : Nat} (hM : M[id]? = some (some Rsv)) (hrun : ∀ (a : Act) (w : World) Fx β, HS E.base E.w0 w Fx β M → Slots w Fx β (gens M) tm a.tmps → ∃ us : Array Value, us.size = cs.length ∧ (∀ v ∈ us.toList, v.oneCell' = true) ∧
      (∀ (i : Nat) y v, cs[i]? = some y → us.toList[i]? = some v → Rep w Fx β (gens M) y v) ∧ (execOp a.eval o).run P w = .ok (.value (.pointer (some ⟨w.heap.size, 0, none⟩))) (w.alloc (.cells us t))) : POp P o E tm M (.ref id 1 cs.length 0 0) (M.set id (some ⟨t, cs.length, 1, true, [cs]⟩)) := by
  intro a w K Q Fx β hh hsl hk
  obtain ⟨us, hl, h1, hR, hr⟩ := hrun a w Fx β hh hsl
  have hid : id < M.length := (List.getElem?_eq_some_iff.1 hM).1
  have hbel : Below w.heap.size w (w.alloc (.cells us t)) := (Below.refl w.heap.size w).alloc (Nat.le_refl _) _
  obtain ⟨hh', m⟩ := hh.newAt (b := ⟨t, cs.length, 1, true, [cs]⟩) (v := Hd.flat (.pointer (some ⟨w.heap.size, 0, none⟩))) hM hbel rfl (fun m => ⟨fun k hk' => by
    have e : w.heap.size = k := by simpa [blockOf] using Hd.flat_has.1 hk'
    subst e
    exact ⟨hh.bs, by simp, fun hF => absurd (hh.fx _ hF) (by omega)⟩, ⟨w.heap.size, us, rfl, heap_alloc_new w _, rfl, CellsRep.d ⟨by simp [hl], fun i r hr => by
        cases i with
        | zero =>
          simp at hr
          subst hr
          refine ⟨rfl, fun j x hx => ?_⟩
          have hj : j < us.toList.length := by simpa [hl] using (List.getElem?_eq_some_iff.1 hx).1
          refine ⟨us.toList[j], by simp only [Nat.zero_mul, Nat.zero_add]; exact List.getElem?_eq_getElem hj, h1 _ (List.getElem_mem hj), (hR j x _ hx (List.getElem?_eq_getElem hj)).mv m⟩
        | succ i => simp at hr⟩⟩⟩) (fun k hk' => by simp [Hd.flat_has, blockOf] at hk'; omega)
  unfold Oper.wp
  rw [hr, Oper.upon_value]
  have hnew : (β.set id (Hd.flat (Value.pointer (some ⟨w.heap.size, 0, none⟩))))[id]? = some (Hd.flat (.pointer (some ⟨w.heap.size, 0, none⟩))) := by simp [hh.len, hid]
  refine hk _ _ _ _ hh' ⟨m, by simp, fun k h => .inl h, fun q b v k g1 g2 g3 => ?_⟩ (Rep.ref rfl (by simp [gens_length, hid]) (fun g1 hg => ?_) (fun _ => ⟨_, w.heap.size, hnew, rfl, by simp⟩))
  · by_cases e : id = q
    · subst e
      rw [hnew] at g2
      obtain rfl := Option.some.inj g2
      simp [Hd.flat_has, blockOf] at g3
      exact .inl (by omega)
    · rw [List.getElem?_set, if_neg e] at g1 g2
      exact .inr ⟨q, b, v, g1, g2, g3⟩
  · have h1 : (gens (M.set id (some ⟨t, cs.length, 1, true, [cs]⟩)))[id]? = some (some 1) := gens_of (b := ⟨t, cs.length, 1, true, [cs]⟩) (by simp [hid])
    rw [h1] at hg
    simp at hg
    omega
theorem POp.allocAt {t : TypeId} {cs : List AV} {id : Nat} (ho : o.op = .alloc t) (hz : zeroA P t = some cs) (hM : M[id]? = some (some Rsv)) : POp P o E tm M (.ref id 1 cs.length 0 0) (M.set id (some ⟨t, cs.length, 1, true, [cs]⟩)) := by
  obtain ⟨z, hz, hcs, h1⟩ := zeroA_inv hz
  refine POp.newVarAt (t := t) (cs := cs) hM (fun a w Fx β hh hsl => ⟨z.cells, by simp [hcs], fun v hv => List.all_eq_true.1 h1 v hv, fun i y v hy hv => ?_, ?_⟩)
  · rw [hcs, List.getElem?_map, hv] at hy
    obtain rfl := Option.some.inj hy
    exact .c v
  · cases hq : P.info? t with
    | none => rw [hq] at hz; simp at hz
    | some i =>
      have hz' : i.zero = some z := by rw [hq] at hz; simpa using hz
      simp [execOp, ho, Instr.alloc, zeroValue, typeInfo, hq, hz', Go.newVar, Go.newRow]
theorem POp.boxAt {t : TypeId} {x : Operand} {y : AV} {cs : List AV} {id : Nat} (ho : o.op = .box t x) (hx : evA tm x = some y) (hcs : cellsA y = some cs) (hM : M[id]? = some (some Rsv)) : POp P o E tm M (.ref id 1 cs.length 0 0) (M.set id (some ⟨t, cs.length, 1, true, [cs]⟩)) := by
  refine POp.newVarAt (t := t) (cs := cs) hM (fun a w Fx β hh hsl => ?_)
  obtain ⟨h1, h2, h3⟩ := (hsl.ev hx).cells hcs
  exact ⟨(a.eval x).cells, by simpa using h1, h2, h3, by simp [execOp, ho, Instr.box, Go.newVar, Go.newRow]⟩
end

abbrev Chg := Option (Nat × Blk)
def yrun : List Chg → Mem → Nat → Mem
  | some (i, b) :: cs, Y, j + 1 => yrun cs (Y.set i (some b)) j
  | none :: cs, Y, j + 1 => yrun cs Y j
  | _, Y, _ => Y
theorem yrun_get : ∀ (cs : List Chg) (Y : Mem) (j i : Nat), ((∀ (q : Nat) b, q < j → cs[q]? ≠ some (some (i, b))) ∧ (yrun cs Y j)[i]? = Y[i]?) ∨
    (∃ (q : Nat) (b : Blk), q < j ∧ cs[q]? = some (some (i, b)) ∧ (∀ (q' : Nat) b', q < q' → q' < j → cs[q']? ≠ some (some (i, b'))) ∧ (i < Y.length → (yrun cs Y j)[i]? = some (some b)))
  | [], Y, j, i => .inl ⟨fun q b _ => by simp, by simp [yrun]⟩
  | c :: cs, Y, 0, i => .inl ⟨fun q b h => absurd h (by omega), by simp [yrun]⟩
  | none :: cs, Y, j + 1, i => by
    rw [yrun]
    rcases yrun_get cs Y j i with ⟨h1, h2⟩ | ⟨q, b, h1, h2, h3, h4⟩
    · refine .inl ⟨fun q b hq => ?_, h2⟩
      cases q with
      | zero => simp
      | succ q => simpa using h1 q b (by omega)
    · refine .inr ⟨q + 1, b, by omega, by simpa using h2, fun q' b' hq hq' => ?_, h4⟩
      cases q' with
      | zero => omega
      | succ q' => simpa using h3 q' b' (by omega) (by omega)
  | some (i0, b0) :: cs, Y, j + 1, i => by
    rw [yrun]
    rcases yrun_get cs (Y.set i0 (some b0)) j i with ⟨h1, h2⟩ | ⟨q, b, h1, h2, h3, h4⟩
    · by_cases e : i0 = i
      · subst e
        refine .inr ⟨0, b0, by omega, by simp, fun q' b' hq hq' => ?_, fun hi => by rw [h2]; simp [hi]⟩
        cases q' with
        | zero => omega
        | succ q' => simpa using h1 q' b' (by omega)
      · refine .inl ⟨fun q b hq => ?_, by rw [h2, List.getElem?_set, if_neg e]⟩
        cases q with
        | zero => simp; intro h; exact absurd h e
        | succ q => simpa using h1 q b (by omega)
    · refine .inr ⟨q + 1, b, by omega, by simpa using h2, fun q' b' hq hq' => ?_, fun hi => h4 (by simpa using hi)⟩
      cases q' with
      | zero => omega
      | succ q' => simpa using h3 q' b' (by omega) (by omega)

def DLR (P : Program) (ops : Array Oper) (E : Env) (M : Mem) : List Oper → List (Option Nat) → List AV → Mem → (Mem → List AV → Prop) → Prop
  | [], [], tm, Y, N => N Y tm
  | o :: rest, none :: ch, tm, Y, N => ∃ r, (∀ Y' : Mem, GOp P ops o E (msk (o.looksAt ops) tm) (M ++ Y') r) ∧ DLR P ops E M rest ch (dput tm o.dst r) Y N
  | o :: rest, some i :: ch, tm, Y, N => o.guard = none ∧ ∃ r b b', Y[i]? = some (some b) ∧ (∀ Y' : Mem, Y'[i]? = some (some b) → POp P o E (msk (o.looksAt ops) tm) (M ++ Y') r (M ++ Y'.set i (some b'))) ∧ DLR P ops E M rest ch (dput tm o.dst r) (Y.set i (some b')) N
  | _, _, _, _, _ => False
section
variable {P : Program} {E : Env} {M : Mem} {l : List Oper} {n1 : Nat} {rs tm0 : List AV} {cs : List Chg} {Y0 : Mem}
theorem DLR.data {ops : Array Oper} {N : Mem → List AV → Prop} : ∀ (os : List Oper) (ch : List (Option Nat)) (tm : List AV) (Y : Mem), DLR P ops E M os ch tm Y N →
    ∃ (rs : List AV) (cs : List Chg), rs.length = os.length ∧ cs.map (·.map (·.1)) = ch ∧ ch.length = os.length ∧ N (yrun cs Y os.length) (run os rs tm os.length) ∧ ∀ (j : Nat) o, os[j]? = some o → ∃ r, rs[j]? = some r ∧
      ((cs[j]? = some none ∧ ∀ Y' : Mem, GOp P ops o E (msk (o.looksAt ops) (run os rs tm j)) (M ++ Y') r) ∨
       (o.guard = none ∧ ∃ i b b', cs[j]? = some (some (i, b')) ∧ (yrun cs Y j)[i]? = some (some b) ∧ ∀ Y' : Mem, Y'[i]? = some (some b) → POp P o E (msk (o.looksAt ops) (run os rs tm j)) (M ++ Y') r (M ++ Y'.set i (some b'))))
  | [], [], tm, Y, h => ⟨[], [], rfl, rfl, rfl, by simpa [run, DLR, yrun] using h, fun j o ho => by simp at ho⟩
  | [], c :: ch, tm, Y, h => by cases h
  | o :: os, [], tm, Y, h => by cases h
  | o :: os, none :: ch, tm, Y, h => by
    obtain ⟨r, hg, h⟩ := h
    obtain ⟨rs, cs, h1, h1c, h1d, h2, h3⟩ := DLR.data os ch _ _ h
    refine ⟨r :: rs, none :: cs, by simp [h1], by simp [h1c], by simp [h1d], by simpa [run, yrun] using h2, fun j o' ho' => ?_⟩
    cases j with
    | zero => simp at ho'; subst ho'; exact ⟨r, rfl, .inl ⟨rfl, by simpa [run] using hg⟩⟩
    | succ j =>
      obtain ⟨r', g1, g2⟩ := h3 j o' (by simpa using ho')
      exact ⟨r', by simpa using g1, by simpa [run, yrun] using g2⟩
  | o :: os, some i :: ch, tm, Y, h => by
    obtain ⟨hg, r, b, b', hY, hp, h⟩ := h
    obtain ⟨rs, cs, h1, h1c, h1d, h2, h3⟩ := DLR.data os ch _ _ h
    refine ⟨r :: rs, some (i, b') :: cs, by simp [h1], by simp [h1c], by simp [h1d], by simpa [run, yrun] using h2, fun j o' ho' => ?_⟩
    cases j with
    | zero => simp at ho'; subst ho'; exact ⟨r, rfl, .inr ⟨hg, i, b, b', rfl, by simpa [yrun] using hY, by simpa [run] using hp⟩⟩
    | succ j =>
      obtain ⟨r', g1, g2⟩ := h3 j o' (by simpa using ho')
      exact ⟨r', by simpa using g1, by simpa [run, yrun] using g2⟩

structure YOk (cs : List Chg) (Y0 : Mem) (L : Nat → Prop) (Y : Mem) : Prop where
  len : Y.length = Y0.length
  none : ∀ i, (∀ (q : Nat) b, L q → cs[q]? ≠ some (some (i, b))) → Y[i]? = Y0[i]?
  last : ∀ i (q : Nat) b, L q → cs[q]? = some (some (i, b)) → (∀ (q' : Nat) b', q < q' → L q' → cs[q']? ≠ some (some (i, b'))) → i < Y0.length → Y[i]? = some (some b)
theorem YOk.at {L : Nat → Prop} {Y : Mem} (h : YOk cs Y0 L Y) {j i : Nat} (hL : ∀ (q : Nat) b, cs[q]? = some (some (i, b)) → (L q ↔ q < j)) (hi : i < Y0.length) : Y[i]? = (yrun cs Y0 j)[i]? := by
  rcases yrun_get cs Y0 j i with ⟨h1, h2⟩ | ⟨q, b, h1, h2, h3, h4⟩
  · rw [h2]
    exact h.none i fun q b hq he => h1 q b ((hL q b he).1 hq) he
  · rw [h4 hi]
    exact h.last i q b ((hL q b h2).2 h1) h2 (fun q' b' hlt hq' he => h3 q' b' hlt ((hL q' b' he).1 hq') he) hi
structure DInvR (E : Env) (M : Mem) (cs : List Chg) (Y0 : Mem) (l : List Oper) (n1 : Nat) (rs tm0 : List AV) (L : Array Bool) (a : Act) (w : World) : Prop where
  sz : L.size = l.length
  down : ∀ (j : Nat) o, L.getD j false = true → l[j]? = some o → ∀ e ∈ o.after, Region.binds .any e = true → L.getD e.on false = true
  first : ∀ j, L.getD j false = true → j < n1
  st : a.defers = [] ∧ ∃ Y, YOk cs Y0 (fun q => L.getD q false = true) Y ∧ ∃ Fx β, HS E.base E.w0 w Fx β (M ++ Y) ∧ Out E w Fx β (M ++ Y) ∧ a.tmps.size = tm0.length ∧ ∀ (t : Nat) u, a.tmps[t]? = some u →
    (∀ (i : Nat) o r, L.getD i false = true → l[i]? = some o → o.dst = some t → rs[i]? = some r → Rep w Fx β (gens (M ++ Y)) r u) ∧ ((∀ (i : Nat) o, L.getD i false = true → l[i]? = some o → o.dst ≠ some t) → ∀ x, tm0[t]? = some x → Rep w Fx β (gens (M ++ Y)) x u)
end
section
variable {P : Program} {E : Env} {tm : List AV} {M Y : Mem} {o : Oper} {ops : Array Oper} {rest : List Oper} {ch : List (Option Nat)} {N : Mem → List AV → Prop}
theorem DLR.nil (h : N Y tm) : DLR P ops E M [] [] tm Y N := h
theorem DLR.p {r : AV} (hg : o.guard = none) (h : ∀ Y' : Mem, POp P o E (msk (o.looksAt ops) tm) (M ++ Y') r (M ++ Y')) (hN : DLR P ops E M rest ch (dput tm o.dst r) Y N) : DLR P ops E M (o :: rest) (none :: ch) tm Y N :=
  ⟨r, fun Y' => by unfold GOp; rw [hg]; exact h Y', hN⟩
theorem DLR.g {j d : Nat} {oj : Oper} {b t : Bool} {r : AV} (hg : o.guard = some (j, b)) (hj : ops[j]? = some oj) (hd : oj.dst = some d) (hb : evA (msk (o.looksAt ops) tm) (.tmp d) = some (.c (.bool t)))
    (h : t = b → ∀ Y' : Mem, POp P o E (msk (o.looksAt ops) tm) (M ++ Y') r (M ++ Y')) (hN : DLR P ops E M rest ch (dput tm o.dst (.when (bif b then t else !t) r)) Y N) : DLR P ops E M (o :: rest) (none :: ch) tm Y N :=
  ⟨_, fun Y' => by unfold GOp; rw [hg]; exact ⟨oj, d, hj, hd, .inl ⟨t, r, hb, fun e => h e Y', rfl⟩⟩, hN⟩
theorem at_y {Y' : Mem} {i : Nat} {b : Option Blk} (h : Y'[i]? = some b) : (M ++ Y')[M.length + i]? = some b := by
  rw [List.getElem?_append_right (by omega), show M.length + i - M.length = i by omega]; exact h
theorem set_y {Y' : Mem} {i : Nat} {b : Option Blk} : (M ++ Y').set (M.length + i) b = M ++ Y'.set i b := by
  rw [List.set_append_right _ _ (by omega), show M.length + i - M.length = i by omega]
theorem DLR.alloc {i id : Nat} {t : TypeId} {cs : List AV} (hg : o.guard = none) (ho : o.op = .alloc t) (hz : zeroA P t = some cs) (hY : Y[i]? = some (some Rsv)) (hid : id = M.length + i)
    (hN : DLR P ops E M rest ch (dput tm o.dst (.ref id 1 cs.length 0 0)) (Y.set i (some ⟨t, cs.length, 1, true, [cs]⟩)) N) : DLR P ops E M (o :: rest) (some i :: ch) tm Y N := by
  subst hid
  exact ⟨hg, _, _, _, hY, fun Y' hY' => set_y (M := M) (Y' := Y') ▸ POp.allocAt ho hz (at_y hY'), hN⟩
theorem DLR.box {i id : Nat} {t : TypeId} {x : Operand} {y : AV} {cs : List AV} (hg : o.guard = none) (ho : o.op = .box t x) (hx : evA (msk (o.looksAt ops) tm) x = some y) (hcs : cellsA y = some cs) (hY : Y[i]? = some (some Rsv)) (hid : id = M.length + i)
    (hN : DLR P ops E M rest ch (dput tm o.dst (.ref id 1 cs.length 0 0)) (Y.set i (some ⟨t, cs.length, 1, true, [cs]⟩)) N) : DLR P ops E M (o :: rest) (some i :: ch) tm Y N := by
  subst hid
  exact ⟨hg, _, _, _, hY, fun Y' hY' => set_y (M := M) (Y' := Y') ▸ POp.boxAt ho hx hcs (at_y hY'), hN⟩
theorem DLR.store {i id g sz p q n : Nat} {b : Blk} {t : TypeId} {x y : Operand} {r cs : List AV} {z : AV} {bb : Bool} (hg : o.guard = none) (ho : o.op = .store t x y) (hx : evA (msk (o.looksAt ops) tm) x = some (.ref id g sz p q)) (hY : Y[i]? = some (some b)) (hid : id = M.length + i) (hgb : b.gen = g) (hb : b.sz = sz)
    (hr : b.es[p]? = some r) (hy : evA (msk (o.looksAt ops) tm) y = some z) (hcs : cellsA z = some cs) (hl : ldk P t = some (bb, n)) (hn : n = cs.length) (hj : Nat.ble (q + cs.length) r.length = true) (hds : o.dst = none)
    (hN : DLR P ops E M rest ch tm (Y.set i (some { b with es := b.es.set p (splice r q cs) })) N) : DLR P ops E M (o :: rest) (some i :: ch) tm Y N := by
  subst hid
  refine ⟨hg, .c undef, _, _, hY, fun Y' hY' => set_y (M := M) (Y' := Y') ▸ POp.store ho hx (at_y hY') hgb hb hr hy hcs (by obtain ⟨d, _, _, h3⟩ := ldk_inv hl; rw [h3, hn]) (Nat.le_of_ble_eq_true hj) hds, ?_⟩
  rw [hds]
  exact hN
end
end Go.Proofs.YtfbanjdfihdngaaDoor.Abs
