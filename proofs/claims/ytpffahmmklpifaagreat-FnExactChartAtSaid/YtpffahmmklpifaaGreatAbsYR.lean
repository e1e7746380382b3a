/- Drawn regions with several makers, whose numbers are kept beforehand: the memory does not depend on the order. -/
import Derived.Test.YtpffahmmklpifaaGreatAbsY
import Derived.Test.YtpffahmmklpifaaGreatAbsR
namespace Go.Proofs.YtpffahmmklpifaaGreat.Abs
open Go.RowKit
set_option linter.unusedVariables false
set_option linter.unusedSimpArgs false

def Rsv : Blk := ⟨0, 0, 0, false, []⟩
section
variable {P : Program} {E : Env} {tm : List AV} {M : Mem} {w w0 : World} {Fx : Nat → Prop} {β : List Hd} {base : Nat} {o : Oper}
theorem HS.rsv (h : HS base w0 w Fx β M) : HS base w0 w Fx (β ++ [Hd.flat (.slice none 0 0)]) (M ++ [some Rsv]) ∧ Mv w Fx β (gens M) w Fx (β ++ [Hd.flat (.slice none 0 0)]) (gens (M ++ [some Rsv])) := by
 have hG : gens (M ++ [some Rsv]) = gens M ++ [some 0] := by simp [gens, Rsv]
 have m : Mv w Fx β (gens M) w Fx (β ++ [Hd.flat (.slice none 0 0)]) (gens (M ++ [some Rsv])) := ⟨fun _ h => h, fun k hF => rfl, by rw [hG]; simp, fun id g' hid hg => by
  rw [hG, List.getElem?_append_left hid] at hg
  refine ⟨g', hg, Nat.le_refl _, fun _ => hd_eq (List.getElem?_append_left ?_)⟩
  rw [h.len, ← gens_length]
  exact hid⟩
 have old : ∀ {id : Nat} {b : Blk}, (M ++ [some Rsv])[id]? = some (some b) → (id < M.length ∧ M[id]? = some (some b)) ∨ (id = M.length ∧ b = Rsv) := by
  intro id b hb
  rcases Nat.lt_or_ge id M.length with hid | hid
  · rw [List.getElem?_append_left hid] at hb
    exact .inl ⟨hid, hb⟩
  · rw [List.getElem?_append_right hid] at hb
    have e : id - M.length = 0 := by
     rcases Nat.eq_zero_or_pos (id - M.length) with e | e
     · exact e
     · rw [List.getElem?_eq_none (by simp; omega)] at hb; cases hb
    rw [e] at hb
    simp at hb
    exact .inr ⟨by omega, hb.symm⟩
 have oldβ : ∀ {id : Nat}, id < M.length → (β ++ [Hd.flat (.slice none 0 0)])[id]? = β[id]? := fun hid => List.getElem?_append_left (by rw [h.len]; exact hid)
 have hlast : (β ++ [Hd.flat (.slice none 0 0)])[M.length]? = some (Hd.flat (.slice none 0 0)) := by simp [← h.len]
 refine ⟨⟨h.bel, h.bs, h.fx, by simp [h.len], fun id b hb => ?_, fun id id' b b' v v' k hne hb hb' hv hv' hk1 hk2 => ?_⟩, m⟩
 · rcases old hb with ⟨hid, hb0⟩ | ⟨rfl, rfl⟩
   · obtain ⟨v, hv, hok⟩ := h.blk id b hb0
     exact ⟨v, (oldβ hid).trans hv, hok.mv m (Nat.le_refl _) (fun k hk' => rfl) (fun k hk' => (hok.1 k hk').2.2)⟩
   · exact ⟨_, hlast, fun k hk => by simp [Hd.flat_has, blockOf] at hk, ⟨[], ⟨rfl, .inl ⟨rfl, rfl⟩⟩, CellsRep.d ⟨rfl, fun i r hr => by simp [Rsv] at hr⟩⟩⟩
 · rcases old hb with ⟨hid, hb0⟩ | ⟨rfl, _⟩
   · rw [oldβ hid] at hv
     rcases old hb' with ⟨hid', hb0'⟩ | ⟨rfl, _⟩
     · rw [oldβ hid'] at hv'
       exact h.inj id id' b b' v v' k hne hb0 hb0' hv hv' hk1 hk2
     · rw [hlast] at hv'
       obtain rfl := Option.some.inj hv'
       simp [Hd.flat_has, blockOf] at hk2
   · rw [hlast] at hv
     obtain rfl := Option.some.inj hv
     simp [Hd.flat_has, blockOf] at hk1
theorem Sim.rsv {a : Act} (hs : Sim E tm M a w) : Sim E tm (M ++ [some Rsv]) a w := by
 obtain ⟨hd, Fx, β, hh, ho, hsl⟩ := hs
 obtain ⟨hh', m⟩ := hh.rsv
 refine ⟨hd, Fx, _, hh', ⟨ho.mv.trans m, ho.size, ho.lim, fun id b v k h1 h2 h3 => ?_⟩, hsl.mv m⟩
 rcases Nat.lt_or_ge id M.length with hid | hid
 · rw [List.getElem?_append_left hid] at h1
   rw [List.getElem?_append_left (by rw [hh.len]; exact hid)] at h2
   exact ho.own id b v k h1 h2 h3
 · rw [List.getElem?_append_right (by rw [hh.len]; exact hid)] at h2
   have e : id - β.length = 0 := by
    rcases Nat.eq_zero_or_pos (id - β.length) with e | e
    · exact e
    · rw [List.getElem?_eq_none (by simp; omega)] at h2; cases h2
   rw [e] at h2
   simp at h2
   subst h2
   simp [Hd.flat_has, blockOf] at h3
theorem Sim.rsvs {a : Act} : ∀ (n : Nat) {M : Mem}, Sim E tm M a w → Sim E tm (M ++ List.replicate n (some Rsv)) a w
 | 0, M, hs => by simpa using hs
 | n + 1, M, hs => by
  rw [List.replicate_succ, List.append_cons]
  exact Sim.rsvs n hs.rsv

theorem HS.newAt (h : HS base w0 w Fx β M) {id : Nat} (hM : M[id]? = some (some Rsv)) {w' : World} (hb : Below w.heap.size w w') {b : Blk} (hg : b.gen = 1) {v : Hd}
 (hok : Mv w Fx β (gens M) w' Fx (β.set id v) (gens (M.set id (some b))) → BlkOk w' Fx (β.set id v) (gens (M.set id (some b))) base b v) (hf : ∀ k, v.has k → w.heap.size ≤ k) :
 HS base w0 w' Fx (β.set id v) (M.set id (some b)) ∧ Mv w Fx β (gens M) w' Fx (β.set id v) (gens (M.set id (some b))) := by
 have hid : id < M.length := (List.getElem?_eq_some_iff.1 hM).1
 have gm : ∀ {q : Nat}, q ≠ id → (gens (M.set id (some b)))[q]? = (gens M)[q]? := fun {q} hq => by
  unfold gens
  rw [List.getElem?_map, List.getElem?_map, List.getElem?_set, if_neg (Ne.symm hq)]
 have g0 : (gens M)[id]? = some (some 0) := gens_of hM
 have m : Mv w Fx β (gens M) w' Fx (β.set id v) (gens (M.set id (some b))) := ⟨fun _ h => h, fun k hF => hb.block k (h.fx k hF), by simp [gens_length], fun q g' hq hg' => by
  by_cases e : q = id
  · subst e
    have h1 : (gens (M.set q (some b)))[q]? = some (some b.gen) := gens_of (by simp [hid])
    rw [h1, hg] at hg'
    refine ⟨0, g0, Nat.zero_le _, fun e2 => ?_⟩
    simp at hg'
    omega
  · rw [gm e] at hg'
    exact ⟨g', hg', Nat.le_refl _, fun _ => hd_eq (by rw [List.getElem?_set, if_neg (Ne.symm e)])⟩⟩
 have old : ∀ {q : Nat} {b' : Blk}, (M.set id (some b))[q]? = some (some b') → (q ≠ id ∧ M[q]? = some (some b')) ∨ (q = id ∧ b' = b) := by
  intro q b' hq
  rw [List.getElem?_set] at hq
  by_cases e : id = q
  · subst e
    rw [if_pos rfl, if_pos hid] at hq
    simp at hq
    exact .inr ⟨rfl, hq.symm⟩
  · rw [if_neg e] at hq
    exact .inl ⟨fun h => e h.symm, hq⟩
 have oldβ : ∀ {q : Nat}, q ≠ id → (β.set id v)[q]? = β[q]? := fun hq => by rw [List.getElem?_set, if_neg (Ne.symm hq)]
 have hnew : (β.set id v)[id]? = some v := by simp [h.len, hid]
 refine ⟨⟨h.bel.trans (hb.mono h.bs), Nat.le_trans h.bs hb.size, fun k hk => Nat.lt_of_lt_of_le (h.fx k hk) hb.size, by simp [h.len], fun q b' hq => ?_, fun q q' b1 b2 v1 v2 k hne h1 h2 hv1 hv2 hk1 hk2 => ?_⟩, m⟩
 · rcases old hq with ⟨hne, hb0⟩ | ⟨rfl, rfl⟩
   · obtain ⟨v', hv', hok'⟩ := h.blk q b' hb0
     exact ⟨v', (oldβ hne).trans hv', hok'.mv m hb.size (fun k hk' => hb.block k (hok'.1 k hk').2.1) (fun k hk' => (hok'.1 k hk').2.2)⟩
   · exact ⟨v, hnew, hok m⟩
 · rcases old h1 with ⟨hn1, hb1⟩ | ⟨rfl, rfl⟩
   · rw [oldβ hn1] at hv1
     rcases old h2 with ⟨hn2, hb2⟩ | ⟨rfl, rfl⟩
     · rw [oldβ hn2] at hv2
       exact h.inj q q' b1 b2 v1 v2 k hne hb1 hb2 hv1 hv2 hk1 hk2
     · rw [hnew] at hv2
       obtain rfl := Option.some.inj hv2
       obtain ⟨v3, hv3, hok3⟩ := h.blk q b1 hb1
       rw [hv1] at hv3
       obtain rfl := Option.some.inj hv3
       have := (hok3.1 k hk1).2.1
       have := hf k hk2
       omega
   · rw [hnew] at hv1
     obtain rfl := Option.some.inj hv1
     rcases old h2 with ⟨hn2, hb2⟩ | ⟨rfl, _⟩
     · rw [oldβ hn2] at hv2
       obtain ⟨v3, hv3, hok3⟩ := h.blk q' b2 hb2
       rw [hv2] at hv3
       obtain rfl := Option.some.inj hv3
       have := (hok3.1 k hk2).2.1
       have := hf k hk1
       omega
     · exact hne rfl

theorem POp.newVarAt {t : TypeId} {cs : List AV} {id : Nat} (hM : M[id]? = some (some Rsv)) (hrun : ∀ (a : Act) (w : World) Fx β, HS E.base E.w0 w Fx β M → Slots w Fx β (gens M) tm a.tmps → ∃ us : Array Value, us.size = cs.length ∧ (∀ v ∈ us.toList, v.oneCell' = true) ∧
 (∀ (i : Nat) y v, cs[i]? = some y → us.toList[i]? = some v → Rep w Fx β (gens M) y v) ∧ (execOp a.eval o).run P w = .ok (.value (.pointer (some ⟨w.heap.size, 0, none⟩))) (w.alloc (.cells us t))) : POp P o E tm M (.ref id 1 cs.length 0 0) (M.set id (some ⟨t, cs.length, 1, true, [cs]⟩)) := by
 intro a w K Q Fx β hh hsl hk
 obtain ⟨us, hl, h1, hR, hr⟩ := hrun a w Fx β hh hsl
 have hid : id < M.length := (List.getElem?_eq_some_iff.1 hM).1
 have hbel : Below w.heap.size w (w.alloc (.cells us t)) := (Below.refl w.heap.size w).alloc (Nat.le_refl _) _
 obtain ⟨hh', m⟩ := hh.newAt (b := ⟨t, cs.length, 1, true, [cs]⟩) (v := Hd.flat (.pointer (some ⟨w.heap.size, 0, none⟩))) hM hbel rfl (fun m => ⟨fun k hk' => by
  have e : w.heap.size = k := by simpa [blockOf] using Hd.flat_has.1 hk'
  subst e
  exact ⟨hh.bs, by simp, fun hF => absurd (hh.fx _ hF) (by omega)⟩, ⟨w.heap.size, us, rfl, heap_alloc_new w _, rfl, CellsRep.d ⟨by simp [hl], fun i r hr => by
   cases i with
   | zero =>
    simp at hr
    subst hr
    refine ⟨rfl, fun j x hx => ?_⟩
    have hj : j < us.toList.length := by simpa [hl] using (List.getElem?_eq_some_iff.1 hx).1
    refine ⟨us.toList[j], by simp only [Nat.zero_mul, Nat.zero_add]; exact List.getElem?_eq_getElem hj, h1 _ (List.getElem_mem hj), (hR j x _ hx (List.getElem?_eq_getElem hj)).mv m⟩
   | succ i => simp at hr⟩⟩⟩) (fun k hk' => by simp [Hd.flat_has, blockOf] at hk'; omega)
 unfold Oper.wp
 rw [hr, Oper.upon_value]
 have hnew : (β.set id (Hd.flat (Value.pointer (some ⟨w.heap.size, 0, none⟩))))[id]? = some (Hd.flat (.pointer (some ⟨w.heap.size, 0, none⟩))) := by simp [hh.len, hid]
 refine hk _ _ _ _ hh' ⟨m, by simp, fun k h => .inl h, fun q b v k g1 g2 g3 => ?_⟩ (Rep.ref rfl (by simp [gens_length, hid]) (fun g1 hg => ?_) (fun _ => ⟨_, w.heap.size, hnew, rfl, by simp⟩))
 · by_cases e : id = q
   · subst e
     rw [hnew] at g2
     obtain rfl := Option.some.inj g2
     simp [Hd.flat_has, blockOf] at g3
     exact .inl (by omega)
   · rw [List.getElem?_set, if_neg e] at g1 g2
     exact .inr ⟨q, b, v, g1, g2, g3⟩
 · have h1 : (gens (M.set id (some ⟨t, cs.length, 1, true, [cs]⟩)))[id]? = some (some 1) := gens_of (b := ⟨t, cs.length, 1, true, [cs]⟩) (by simp [hid])
   rw [h1] at hg
   simp at hg
   omega
theorem POp.allocAt {t : TypeId} {cs : List AV} {id : Nat} (ho : o.op = .alloc t) (hz : zeroA P t = some cs) (hM : M[id]? = some (some Rsv)) : POp P o E tm M (.ref id 1 cs.length 0 0) (M.set id (some ⟨t, cs.length, 1, true, [cs]⟩)) := by
 obtain ⟨z, hz, hcs, h1⟩ := zeroA_inv hz
 refine POp.newVarAt (t := t) (cs := cs) hM (fun a w Fx β hh hsl => ⟨z.cells, by simp [hcs], fun v hv => List.all_eq_true.1 h1 v hv, fun i y v hy hv => ?_, ?_⟩)
 · rw [hcs, List.getElem?_map, hv] at hy
   obtain rfl := Option.some.inj hy
   exact .c v
 · cases hq : P.info? t with
   | none => rw [hq] at hz; simp at hz
   | some i =>
    have hz' : i.zero = some z := by rw [hq] at hz; simpa using hz
    simp [execOp, ho, Instr.alloc, zeroValue, typeInfo, hq, hz', Go.newVar, Go.newRow]
theorem POp.boxAt {t : TypeId} {x : Operand} {y : AV} {cs : List AV} {id : Nat} (ho : o.op = .box t x) (hx : evA tm x = some y) (hcs : cellsA y = some cs) (hM : M[id]? = some (some Rsv)) : POp P o E tm M (.ref id 1 cs.length 0 0) (M.set id (some ⟨t, cs.length, 1, true, [cs]⟩)) := by
 refine POp.newVarAt (t := t) (cs := cs) hM (fun a w Fx β hh hsl => ?_)
 obtain ⟨h1, h2, h3⟩ := (hsl.ev hx).cells hcs
 exact ⟨(a.eval x).cells, by simpa using h1, h2, h3, by simp [execOp, ho, Instr.box, Go.newVar, Go.newRow]⟩
end

abbrev Chg := Option (Nat × Blk)
def yrun : List Chg → Mem → Nat → Mem
 | some (i, b) :: cs, Y, j + 1 => yrun cs (Y.set i (some b)) j
 | none :: cs, Y, j + 1 => yrun cs Y j
 | _, Y, _ => Y
theorem yrun_length : ∀ (cs : List Chg) (Y : Mem) (j : Nat), (yrun cs Y j).length = Y.length
 | some (i, b) :: cs, Y, j + 1 => by rw [yrun, yrun_length]; simp
 | none :: cs, Y, j + 1 => by rw [yrun, yrun_length]
 | [], Y, j => by simp [yrun]
 | _ :: _, Y, 0 => by simp [yrun]
theorem yrun_get : ∀ (cs : List Chg) (Y : Mem) (j i : Nat), ((∀ (q : Nat) b, q < j → cs[q]? ≠ some (some (i, b))) ∧ (yrun cs Y j)[i]? = Y[i]?) ∨
 (∃ (q : Nat) (b : Blk), q < j ∧ cs[q]? = some (some (i, b)) ∧ (∀ (q' : Nat) b', q < q' → q' < j → cs[q']? ≠ some (some (i, b'))) ∧ (i < Y.length → (yrun cs Y j)[i]? = some (some b)))
 | [], Y, j, i => .inl ⟨fun q b _ => by simp, by simp [yrun]⟩
 | c :: cs, Y, 0, i => .inl ⟨fun q b h => absurd h (by omega), by simp [yrun]⟩
 | none :: cs, Y, j + 1, i => by
  rw [yrun]
  rcases yrun_get cs Y j i with ⟨h1, h2⟩ | ⟨q, b, h1, h2, h3, h4⟩
  · refine .inl ⟨fun q b hq => ?_, h2⟩
    cases q with
    | zero => simp
    | succ q => simpa using h1 q b (by omega)
  · refine .inr ⟨q + 1, b, by omega, by simpa using h2, fun q' b' hq hq' => ?_, h4⟩
    cases q' with
    | zero => omega
    | succ q' => simpa using h3 q' b' (by omega) (by omega)
 | some (i0, b0) :: cs, Y, j + 1, i => by
  rw [yrun]
  rcases yrun_get cs (Y.set i0 (some b0)) j i with ⟨h1, h2⟩ | ⟨q, b, h1, h2, h3, h4⟩
  · by_cases e : i0 = i
    · subst e
      refine .inr ⟨0, b0, by omega, by simp, fun q' b' hq hq' => ?_, fun hi => by rw [h2]; simp [hi]⟩
      cases q' with
      | zero => omega
      | succ q' => simpa using h1 q' b' (by omega)
    · refine .inl ⟨fun q b hq => ?_, by rw [h2, List.getElem?_set, if_neg e]⟩
      cases q with
      | zero => simp; intro h; exact absurd h e
      | succ q => simpa using h1 q b (by omega)
  · refine .inr ⟨q + 1, b, by omega, by simpa using h2, fun q' b' hq hq' => ?_, fun hi => h4 (by simpa using hi)⟩
    cases q' with
    | zero => omega
    | succ q' => simpa using h3 q' b' (by omega) (by omega)

def DLR (P : Program) (ops : Array Oper) (E : Env) (M : Mem) : List Oper → List (Option Nat) → List AV → Mem → (Mem → List AV → Prop) → Prop
 | [], [], tm, Y, N => N Y tm
 | o :: rest, none :: ch, tm, Y, N => ∃ r, (∀ Y' : Mem, GOp P ops o E (msk (o.looksAt ops) tm) (M ++ Y') r) ∧ DLR P ops E M rest ch (dput tm o.dst r) Y N
 | o :: rest, some i :: ch, tm, Y, N => o.guard = none ∧ ∃ r b b', Y[i]? = some (some b) ∧ (∀ Y' : Mem, Y'[i]? = some (some b) → POp P o E (msk (o.looksAt ops) tm) (M ++ Y') r (M ++ Y'.set i (some b'))) ∧ DLR P ops E M rest ch (dput tm o.dst r) (Y.set i (some b')) N
 | _, _, _, _, _ => False
def chkCh (l : List Oper) (ch : List (Option Nat)) : Bool :=
 (List.range ch.length).all fun j => match ch.getD j none with
  | none => true
  | some i => (List.range j).all fun q => !decide (ch.getD q none = some i) || ((masks l []).getD j 0).testBit q
theorem chkCh_ok {l : List Oper} {ch : List (Option Nat)} (h : chkCh l ch = true) {q j i : Nat} (hq : q < j) (h1 : ch[q]? = some (some i)) (h2 : ch[j]? = some (some i)) : ((masks l []).getD j 0).testBit q = true := by
 unfold chkCh at h
 have hj : j < ch.length := (List.getElem?_eq_some_iff.1 h2).1
 have h3 := List.all_eq_true.1 h j (List.mem_range.2 hj)
 have e2 : ch.getD j none = some i := by rw [List.getD_eq_getElem?_getD, h2]; rfl
 have e1 : ch.getD q none = some i := by rw [List.getD_eq_getElem?_getD, h1]; rfl
 rw [e2] at h3
 have h4 := List.all_eq_true.1 h3 q (List.mem_range.2 hq)
 rw [e1] at h4
 simpa using h4
section
variable {P : Program} {E : Env} {M : Mem} {l : List Oper} {n1 : Nat} {rs tm0 : List AV} {cs : List Chg} {Y0 : Mem}
theorem DLR.data {ops : Array Oper} {N : Mem → List AV → Prop} : ∀ (os : List Oper) (ch : List (Option Nat)) (tm : List AV) (Y : Mem), DLR P ops E M os ch tm Y N →
 ∃ (rs : List AV) (cs : List Chg), rs.length = os.length ∧ cs.map (·.map (·.1)) = ch ∧ ch.length = os.length ∧ N (yrun cs Y os.length) (run os rs tm os.length) ∧ ∀ (j : Nat) o, os[j]? = some o → ∃ r, rs[j]? = some r ∧
  ((cs[j]? = some none ∧ ∀ Y' : Mem, GOp P ops o E (msk (o.looksAt ops) (run os rs tm j)) (M ++ Y') r) ∨
   (o.guard = none ∧ ∃ i b b', cs[j]? = some (some (i, b')) ∧ (yrun cs Y j)[i]? = some (some b) ∧ ∀ Y' : Mem, Y'[i]? = some (some b) → POp P o E (msk (o.looksAt ops) (run os rs tm j)) (M ++ Y') r (M ++ Y'.set i (some b'))))
 | [], [], tm, Y, h => ⟨[], [], rfl, rfl, rfl, by simpa [run, DLR, yrun] using h, fun j o ho => by simp at ho⟩
 | [], c :: ch, tm, Y, h => by cases h
 | o :: os, [], tm, Y, h => by cases h
 | o :: os, none :: ch, tm, Y, h => by
  obtain ⟨r, hg, h⟩ := h
  obtain ⟨rs, cs, h1, h1c, h1d, h2, h3⟩ := DLR.data os ch _ _ h
  refine ⟨r :: rs, none :: cs, by simp [h1], by simp [h1c], by simp [h1d], by simpa [run, yrun] using h2, fun j o' ho' => ?_⟩
  cases j with
  | zero => simp at ho'; subst ho'; exact ⟨r, rfl, .inl ⟨rfl, by simpa [run] using hg⟩⟩
  | succ j =>
   obtain ⟨r', g1, g2⟩ := h3 j o' (by simpa using ho')
   exact ⟨r', by simpa using g1, by simpa [run, yrun] using g2⟩
 | o :: os, some i :: ch, tm, Y, h => by
  obtain ⟨hg, r, b, b', hY, hp, h⟩ := h
  obtain ⟨rs, cs, h1, h1c, h1d, h2, h3⟩ := DLR.data os ch _ _ h
  refine ⟨r :: rs, some (i, b') :: cs, by simp [h1], by simp [h1c], by simp [h1d], by simpa [run, yrun] using h2, fun j o' ho' => ?_⟩
  cases j with
  | zero => simp at ho'; subst ho'; exact ⟨r, rfl, .inr ⟨hg, i, b, b', rfl, by simpa [yrun] using hY, by simpa [run] using hp⟩⟩
  | succ j =>
   obtain ⟨r', g1, g2⟩ := h3 j o' (by simpa using ho')
   exact ⟨r', by simpa using g1, by simpa [run, yrun] using g2⟩

structure YOk (cs : List Chg) (Y0 : Mem) (L : Nat → Prop) (Y : Mem) : Prop where
 len : Y.length = Y0.length
 none : ∀ i, (∀ (q : Nat) b, L q → cs[q]? ≠ some (some (i, b))) → Y[i]? = Y0[i]?
 last : ∀ i (q : Nat) b, L q → cs[q]? = some (some (i, b)) → (∀ (q' : Nat) b', q < q' → L q' → cs[q']? ≠ some (some (i, b'))) → i < Y0.length → Y[i]? = some (some b)
theorem YOk.at {L : Nat → Prop} {Y : Mem} (h : YOk cs Y0 L Y) {j i : Nat} (hL : ∀ (q : Nat) b, cs[q]? = some (some (i, b)) → (L q ↔ q < j)) (hi : i < Y0.length) : Y[i]? = (yrun cs Y0 j)[i]? := by
 rcases yrun_get cs Y0 j i with ⟨h1, h2⟩ | ⟨q, b, h1, h2, h3, h4⟩
 · rw [h2]
   exact h.none i fun q b hq he => h1 q b ((hL q b he).1 hq) he
 · rw [h4 hi]
   exact h.last i q b ((hL q b h2).2 h1) h2 (fun q' b' hlt hq' he => h3 q' b' hlt ((hL q' b' he).1 hq') he) hi
structure DInvR (E : Env) (M : Mem) (cs : List Chg) (Y0 : Mem) (l : List Oper) (n1 : Nat) (rs tm0 : List AV) (L : Array Bool) (a : Act) (w : World) : Prop where
 sz : L.size = l.length
 down : ∀ (j : Nat) o, L.getD j false = true → l[j]? = some o → ∀ e ∈ o.after, Region.binds .any e = true → L.getD e.on false = true
 first : ∀ j, L.getD j false = true → j < n1
 st : a.defers = [] ∧ ∃ Y, YOk cs Y0 (fun q => L.getD q false = true) Y ∧ ∃ Fx β, HS E.base E.w0 w Fx β (M ++ Y) ∧ Out E w Fx β (M ++ Y) ∧ a.tmps.size = tm0.length ∧ ∀ (t : Nat) u, a.tmps[t]? = some u →
  (∀ (i : Nat) o r, L.getD i false = true → l[i]? = some o → o.dst = some t → rs[i]? = some r → Rep w Fx β (gens (M ++ Y)) r u) ∧ ((∀ (i : Nat) o, L.getD i false = true → l[i]? = some o → o.dst ≠ some t) → ∀ x, tm0[t]? = some x → Rep w Fx β (gens (M ++ Y)) x u)
theorem wpAny_rsv {Q : Exit → Act → World → Prop} (hc : ChkD l n1) (hn : n1 ≤ l.length) (hrl : rs.length = n1) (hcl : cs.length = n1) (hch : ∀ (q j i : Nat) b b', q < j → cs[q]? = some (some (i, b)) → cs[j]? = some (some (i, b')) → ((masks l []).getD j 0).testBit q = true)
 (hops : ∀ (j : Nat) o, j < n1 → l[j]? = some o → ∃ r, rs[j]? = some r ∧ ((cs[j]? = some none ∧ ∀ Y' : Mem, GOp P l.toArray o E (msk (o.looksAt l.toArray) (run (l.take n1) rs tm0 j)) (M ++ Y') r) ∨
  (o.guard = none ∧ ∃ i b b', cs[j]? = some (some (i, b')) ∧ (yrun cs Y0 j)[i]? = some (some b) ∧ ∀ Y' : Mem, Y'[i]? = some (some b) → POp P o E (msk (o.looksAt l.toArray) (run (l.take n1) rs tm0 j)) (M ++ Y') r (M ++ Y'.set i (some b')))))
 (hend : ∀ a w, Sim E (run (l.take n1) rs tm0 n1) (M ++ yrun cs Y0 n1) a w → wpList P l.toArray Q (l.drop n1) a w) :
 ∀ (fuel : Nat) (L : Array Bool) (a : Act) (w : World), DInvR E M cs Y0 l n1 rs tm0 L a w → cnt L ≤ fuel → wpAny P .any l.toArray Q fuel L a w := by
 have hrlen : rs.length = (l.take n1).length := by rw [hrl, List.length_take]; omega
 have tk : ∀ {i : Nat} {o : Oper}, (l.take n1)[i]? = some o → i < n1 ∧ l[i]? = some o := fun {i o} h => by
  rw [List.getElem?_take] at h
  split at h
  · exact ⟨by assumption, h⟩
  · cases h
 have tk2 : ∀ {i : Nat} {o : Oper}, i < n1 → l[i]? = some o → (l.take n1)[i]? = some o := fun hi h => by rw [List.getElem?_take, if_pos hi]; exact h
 have csl : ∀ {q : Nat} {c : Chg}, cs[q]? = some c → q < n1 := fun h => by have := (List.getElem?_eq_some_iff.1 h).1; omega
 -- when all of the first have gone
 have fin : ∀ (fuel : Nat) (L : Array Bool) (a : Act) (w : World), DInvR E M cs Y0 l n1 rs tm0 L a w → cnt L ≤ fuel → (∀ i, i < n1 → L.getD i false = true) → wpAny P .any l.toArray Q fuel L a w := by
  intro fuel L a w hI hcnt hall
  refine wpAny_tail hc fuel n1 L a w (Nat.le_refl _) hn hI.sz (fun i => ⟨hI.first i, hall i⟩) hcnt (hend a w ?_)
  obtain ⟨hd, Y, hY, Fx, β, hh, ho, hsz, hs⟩ := hI.st
  have eY : Y = yrun cs Y0 n1 := by
   apply List.ext_getElem?
   intro i
   rcases Nat.lt_or_ge i Y0.length with hi | hi
   · exact hY.at (fun q b he => ⟨hI.first q, hall q⟩) hi
   · rw [List.getElem?_eq_none (by rw [hY.len]; exact hi), List.getElem?_eq_none (by rw [yrun_length]; exact hi)]
  rw [eY] at hh ho hs
  refine ⟨hd, Fx, β, hh, ho, by rw [run_length]; exact hsz, fun t x u hx hu => ?_⟩
  obtain ⟨h1, h2⟩ := hs t u hu
  rcases run_get _ _ _ _ _ _ hrlen hx with ⟨i, o, hi, ho', hdst, hr⟩ | ⟨hno, hx0⟩
  · exact h1 i o x (hall i hi) (tk ho').2 hdst hr
  · exact h2 (fun i o hL ho' => hno i o (hI.first i hL) (tk2 (hI.first i hL) ho')) x hx0
 intro fuel
 induction fuel with
 | zero =>
  intro L a w hI hcnt
  refine fin 0 L a w hI hcnt (fun i hi => ?_)
  have := cnt_zero (by omega) (i := i) (L := L) (by rw [hI.sz]; omega)
  rwa [getD_tf (by rw [hI.sz]; omega)] at this
 | succ fuel ih =>
  intro L a w hI hcnt
  by_cases hall : ∀ i, i < n1 → L.getD i false = true
  · exact fin _ L a w hI hcnt hall
  · have hex : ∃ i, i < n1 ∧ L.getD i false ≠ true := Classical.byContradiction fun h => hall fun i hi => Classical.byContradiction fun h2 => h ⟨i, hi, h2⟩
    obtain ⟨i0, ⟨hi0, hu0⟩, hmin⟩ := least_of hex
    have hi0l : i0 < l.length := by omega
    refine ⟨fun hr => ?_, fun j hj => ?_⟩
    · have : i0 ∈ Region.ready .any l.toArray L := mem_ready.2 ⟨by
       rw [getD_tf (by rw [hI.sz]; omega)]
       simpa using hu0, l[i0], by simp, fun e he hbe => by
        have hlt := hc.top i0 _ e (List.getElem?_eq_getElem hi0l) he hbe
        rcases e2 : L.getD e.on false with _ | _
        · exact absurd (hmin e.on ⟨by omega, by rw [e2]; decide⟩) (by omega)
        · rfl⟩
      rw [hr] at this
      simp at this
    · obtain ⟨hun, o, ho, hdep⟩ := mem_ready.1 hj
      have ho' : l[j]? = some o := by simpa using ho
      have hjl : j < l.length := (List.getElem?_eq_some_iff.1 ho').1
      have hunf : L.getD j false = false := by rw [← getD_tf (by rw [hI.sz]; omega)]; exact hun
      have bef : ∀ i, ((masks l []).getD j 0).testBit i = true → L.getD i false = true := fun i hb => before (l := l) (L := fun i => L.getD i false = true) hI.down j o i ho' hdep hb
      -- what waits for j has not gone
      have aft : ∀ (q : Nat), ((masks l []).getD q 0).testBit j = true → L.getD q false = true → False := fun q hb hL => by
       have hq : q < l.length := by
        rw [← hI.sz]
        rcases Nat.lt_or_ge q L.size with h | h
        · exact h
        · rw [Array.getD_eq_getD_getElem?, Array.getElem?_eq_none h] at hL
          cases hL
       have := before (l := l) (L := fun i => L.getD i false = true) hI.down q _ j (List.getElem?_eq_getElem hq) (hI.down q _ hL (List.getElem?_eq_getElem hq)) hb
       rw [hunf] at this
       cases this
      have hjn : j < n1 := by
       rcases Nat.lt_or_ge j n1 with h | h
       · exact h
       · exact absurd (bef i0 (hc.tail j o i0 ho' h (by omega))) hu0
      obtain ⟨r, hr, hg⟩ := hops j o hjn ho'
      obtain ⟨hd, Y, hY, Fx, β, hh, hout, hsz, hs⟩ := hI.st
      have hsl : Slots w Fx β (gens (M ++ Y)) (msk (o.looksAt l.toArray) (run (l.take n1) rs tm0 j)) a.tmps := by
       refine ⟨by rw [msk, mskG_length, run_length]; exact hsz, fun t x u hx hu => ?_⟩
       rcases msk_get hx with rfl | ⟨hlook, hx⟩
       · exact .any u
       · obtain ⟨h1, h2⟩ := hs t u hu
         rcases run_get _ _ _ _ _ _ hrlen hx with ⟨i, oi, hi, hoi, hdst, hri⟩ | ⟨hno, hx0⟩
         · have hoi := (tk hoi).2
           exact h1 i oi x (bef i ((hc.look j o t i oi ho' hjn hlook hoi hdst (by omega)).1 hi)) hoi hdst hri
         · refine h2 (fun i oi hL hoi hdst => ?_) x hx0
           rcases Nat.lt_trichotomy i j with h | h | h
           · exact hno i oi h (tk2 (by omega) hoi) hdst
           · subst h; rw [hunf] at hL; cases hL
           · exact aft i ((hc.look j o t i oi ho' hjn hlook hoi hdst (by omega)).2 h) hL
      have go : ∀ Y2, YOk cs Y0 (fun q => (L.setIfInBounds j true).getD q false = true) Y2 → ∀ v w' Fx' β', HS E.base E.w0 w' Fx' β' (M ++ Y2) → Nx w Fx β (M ++ Y) w' Fx' β' (M ++ Y2) → Rep w' Fx' β' (gens (M ++ Y2)) r v → wpAny P .any l.toArray Q fuel (L.setIfInBounds j true) (a.put o.dst v) w' := by
       intro Y2 hY2 v w' Fx' β' hh' hx hrep
       refine ih _ _ _ ⟨by simpa using hI.sz, fun j' o2 hj' ho2 e he hbe => ?_, fun j' hj' => ?_, (put_defers a o.dst v).trans hd, Y2, hY2, Fx', β', hh', ?_, by rw [put_size]; exact hsz, fun t u hu => ?_⟩ (by have := cnt_set (L := L) (i := j) (by rw [hI.sz]; omega) hun; omega)
       · rw [getD_set (by rw [hI.sz]; omega)] at hj' ⊢
         rcases hj' with rfl | hj'
         · rw [ho'] at ho2
           obtain rfl := Option.some.inj ho2
           exact .inr (hdep e he hbe)
         · exact .inr (hI.down j' o2 hj' ho2 e he hbe)
       · rw [getD_set (by rw [hI.sz]; omega)] at hj'
         rcases hj' with rfl | hj'
         · exact hjn
         · exact hI.first j' hj'
       · refine ⟨hout.mv.trans hx.mv, Nat.le_trans hout.size hx.size, fun k hk => ?_, fun id b v k h1 h2 h3 => ?_⟩
         · rcases hx.lim k hk with h | h | ⟨id, b, v, h1, h2, h3⟩
           · exact hout.lim k h
           · exact .inr (.inl (Nat.le_trans hout.size h))
           · rcases hout.own id b v k h1 h2 h3 with h | h
             · exact .inr (.inl h)
             · exact .inr (.inr h)
         · rcases hx.own id b v k h1 h2 h3 with h | ⟨id', b', v', g1, g2, g3⟩
           · exact .inl (Nat.le_trans hout.size h)
           · exact hout.own id' b' v' k g1 g2 g3
       · rcases put_get a o.dst v t u hu with ⟨hdt, rfl⟩ | ⟨hdt, hu⟩
         · refine ⟨fun i oi ri hL hoi hdst hri => ?_, fun hno => absurd hdt (hno j o ((getD_set (by rw [hI.sz]; omega)).2 (.inl rfl)) ho')⟩
           have hin : i < n1 := by
            rw [getD_set (by rw [hI.sz]; omega)] at hL
            rcases hL with rfl | hL
            · exact hjn
            · exact hI.first i hL
           have e : i = j := by
            rcases Nat.lt_trichotomy i j with h | h | h
            · exact absurd hdst (hc.one j i o oi t ho' hjn h hoi hdt)
            · exact h
            · exact absurd hdt (hc.one i j oi o t hoi hin h ho' hdst)
           subst e
           rw [hr] at hri
           obtain rfl := Option.some.inj hri
           exact hrep
         · obtain ⟨h1, h2⟩ := hs t u hu
           refine ⟨fun i oi ri hL hoi hdst hri => ?_, fun hno x hx0 => (h2 (fun i oi hL hoi => hno i oi ((getD_set (by rw [hI.sz]; omega)).2 (.inr hL)) hoi) x hx0).mv hx.mv⟩
           rw [getD_set (by rw [hI.sz]; omega)] at hL
           rcases hL with rfl | hL
           · rw [ho'] at hoi
             obtain rfl := Option.some.inj hoi
             exact absurd hdst hdt
           · exact (h1 i oi ri hL hoi hdst hri).mv hx.mv
      unfold wpOp
      rw [ho]
      rcases hg with ⟨hcj, hp⟩ | ⟨hgd, i, b, b', hcj, hyj, hp⟩
      · -- it leaves the memory
        have hY2 : YOk cs Y0 (fun q => (L.setIfInBounds j true).getD q false = true) Y := by
         have hq : ∀ (q : Nat) c, cs[q]? = some (some c) → ((L.setIfInBounds j true).getD q false = true ↔ L.getD q false = true) := fun q c he => by
          rw [getD_set (by rw [hI.sz]; omega)]
          refine ⟨fun h => h.resolve_left fun e => ?_, .inr⟩
          subst e
          rw [hcj] at he
          cases he
         exact ⟨hY.len, fun i h => hY.none i fun q b hL he => h q b ((hq q _ he).2 hL) he, fun i q b hL he h hi => hY.last i q b ((hq q _ he).1 hL) he (fun q' b' hlt hL' he' => h q' b' hlt ((hq q' _ he').2 hL') he') hi⟩
        exact (hp Y).go hh hsl (go Y hY2)
      · -- it changes block i
        have hi : i < Y0.length := by
         have := (List.getElem?_eq_some_iff.1 hyj).1
         rwa [yrun_length] at this
        have hb : Y[i]? = some (some b) := by
         rw [hY.at (j := j) (fun q b2 he => ?_) hi]
         · exact hyj
         · refine ⟨fun hL => ?_, fun hlt => bef q (hch q j i _ _ hlt he hcj)⟩
           rcases Nat.lt_trichotomy q j with h | h | h
           · exact h
           · subst h; rw [hunf] at hL; cases hL
           · exact (aft q (hch j q i _ _ h hcj he) hL).elim
        have hY2 : YOk cs Y0 (fun q => (L.setIfInBounds j true).getD q false = true) (Y.set i (some b')) := by
         have g : ∀ q, (L.setIfInBounds j true).getD q false = true ↔ q = j ∨ L.getD q false = true := fun q => getD_set (by rw [hI.sz]; omega)
         refine ⟨by simp [hY.len], fun i2 h => ?_, fun i2 q b2 hL he h hi2 => ?_⟩
         · have hne : i ≠ i2 := fun e => by subst e; exact h j b' ((g j).2 (.inl rfl)) hcj
           rw [List.getElem?_set, if_neg hne]
           exact hY.none i2 fun q b hL he => h q b ((g q).2 (.inr hL)) he
         · by_cases e : i = i2
           · subst e
             have eq : q = j := by
              rcases (g q).1 hL with h1 | h1
              · exact h1
              · rcases Nat.lt_trichotomy q j with h2 | h2 | h2
                · exact absurd hcj (h j b' h2 ((g j).2 (.inl rfl)))
                · exact h2
                · exact (aft q (hch j q i _ _ h2 hcj he) h1).elim
             subst eq
             rw [hcj] at he
             simp at he
             subst he
             rw [List.getElem?_set, if_pos rfl, if_pos (by rw [hY.len]; exact hi)]
           · rw [List.getElem?_set, if_neg e]
             refine hY.last i2 q b2 (((g q).1 hL).resolve_left fun e2 => ?_) he (fun q' b3 hlt hL' he' => h q' b3 hlt ((g q').2 (.inr hL')) he') hi2
             subst e2
             rw [hcj] at he
             simp at he
             exact e he.1
        have hw : Region.wanted o (yielded l.toArray a.tmps) = true := by simp [Region.wanted, hgd]
        simp only [hw, if_true]
        exact .inl (hp Y hb a w _ Q Fx β hh hsl (go _ hY2))
theorem AW.drawnR {id : Nat} {tm : List AV} {Qx : XPost} (n1 k : Nat) (ch : List (Option Nat)) (Y0 : Mem) (hY0 : Y0 = List.replicate k (some Rsv)) (hmx : P.follows .mixedOrders = true) (hc : chkD l n1 = true) (hch : chkCh l ch = true) (hn : Nat.ble n1 l.length = true)
 (h : DLR P l.toArray E M (l.take n1) ch tm Y0 (fun Y tm' => AL P l.toArray (l.drop n1) E tm' (M ++ Y) (Qx .normal))) : AW P (.region id l.toArray true) E tm M Qx := by
 subst hY0
 intro a w Q hs hq
 have hn := Nat.le_of_ble_eq_true hn
 obtain ⟨rs, cs, h1, h1c, h1d, h2, h3⟩ := DLR.data _ _ _ _ h
 have htl : (l.take n1).length = n1 := by rw [List.length_take]; omega
 refine wp_region_any hmx ?_
 obtain ⟨hd, Fx, β, hh, ho, hsl⟩ := Sim.rsvs k hs
 have hbel : Below w.heap.size w { w with drawn := w.drawn + 1 } := by exact (Below.refl w.heap.size w).drew
 obtain ⟨hh', mv⟩ := hh.step hbel
 rw [htl] at h2
 have L0 : ∀ q, (Array.replicate l.toArray.size false).getD q false = false := fun q => by
  rw [Array.getD_eq_getD_getElem?, Array.getElem?_replicate]
  split <;> rfl
 have hcs : ∀ {q : Nat} {i : Nat} {b : Blk}, cs[q]? = some (some (i, b)) → ch[q]? = some (some i) := fun {q i b} he => by rw [← h1c, List.getElem?_map, he]; rfl
 refine wpAny_rsv (E := E) (M := M) (cs := cs) (Y0 := List.replicate k (some Rsv)) (rs := rs) (tm0 := tm) (chkD_ok hc) hn (by rw [h1, htl]) (by rw [← htl, ← h1d, ← h1c, List.length_map]) (fun q j i b b' hlt e1 e2 => chkCh_ok hch hlt (hcs e1) (hcs e2)) (fun j o hj ho => h3 j o (by rw [List.getElem?_take, if_pos hj]; exact ho)) (fun a' w' hs' => h2 a' w' Q hs' fun tm' M' a2 w2 hx hs2 => hq _ _ _ _ _ hx hs2) _ _ _ _
  ⟨by simp, fun j o hj => ?_, fun j hj => ?_, hd, List.replicate k (some Rsv), ⟨rfl, fun i _ => rfl, fun i q b hL => ?_⟩, Fx, β, hh', ⟨ho.mv.trans mv, Nat.le_trans ho.size hbel.size, ho.lim, ho.own⟩, hsl.1, fun t u hu => ⟨fun i o r hL => ?_, fun _ x hx => (hsl.2 t x u hx hu).mv mv⟩⟩ ?_
 · rw [L0] at hj; cases hj
 · rw [L0] at hj; cases hj
 · rw [L0] at hL; cases hL
 · rw [L0] at hL; cases hL
 · unfold cnt
   have := List.countP_le_length (p := fun b => !b) (l := (Array.replicate l.toArray.size false).toList)
   simpa using this
end
section
variable {P : Program} {E : Env} {tm : List AV} {M Y : Mem} {o : Oper} {ops : Array Oper} {rest : List Oper} {ch : List (Option Nat)} {N : Mem → List AV → Prop}
theorem DLR.nil (h : N Y tm) : DLR P ops E M [] [] tm Y N := h
theorem DLR.p {r : AV} (hg : o.guard = none) (h : ∀ Y' : Mem, POp P o E (msk (o.looksAt ops) tm) (M ++ Y') r (M ++ Y')) (hN : DLR P ops E M rest ch (dput tm o.dst r) Y N) : DLR P ops E M (o :: rest) (none :: ch) tm Y N :=
 ⟨r, fun Y' => by unfold GOp; rw [hg]; exact h Y', hN⟩
theorem DLR.g {j d : Nat} {oj : Oper} {b t : Bool} {r : AV} (hg : o.guard = some (j, b)) (hj : ops[j]? = some oj) (hd : oj.dst = some d) (hb : evA (msk (o.looksAt ops) tm) (.tmp d) = some (.c (.bool t)))
 (h : t = b → ∀ Y' : Mem, POp P o E (msk (o.looksAt ops) tm) (M ++ Y') r (M ++ Y')) (hN : DLR P ops E M rest ch (dput tm o.dst (.when (bif b then t else !t) r)) Y N) : DLR P ops E M (o :: rest) (none :: ch) tm Y N :=
 ⟨_, fun Y' => by unfold GOp; rw [hg]; exact ⟨oj, d, hj, hd, .inl ⟨t, r, hb, fun e => h e Y', rfl⟩⟩, hN⟩
theorem at_y {Y' : Mem} {i : Nat} {b : Option Blk} (h : Y'[i]? = some b) : (M ++ Y')[M.length + i]? = some b := by
 rw [List.getElem?_append_right (by omega), show M.length + i - M.length = i by omega]; exact h
theorem set_y {Y' : Mem} {i : Nat} {b : Option Blk} : (M ++ Y').set (M.length + i) b = M ++ Y'.set i b := by
 rw [List.set_append_right _ _ (by omega), show M.length + i - M.length = i by omega]
theorem DLR.alloc {i id : Nat} {t : TypeId} {cs : List AV} (hg : o.guard = none) (ho : o.op = .alloc t) (hz : zeroA P t = some cs) (hY : Y[i]? = some (some Rsv)) (hid : id = M.length + i)
 (hN : DLR P ops E M rest ch (dput tm o.dst (.ref id 1 cs.length 0 0)) (Y.set i (some ⟨t, cs.length, 1, true, [cs]⟩)) N) : DLR P ops E M (o :: rest) (some i :: ch) tm Y N := by
 subst hid
 exact ⟨hg, _, _, _, hY, fun Y' hY' => set_y (M := M) (Y' := Y') ▸ POp.allocAt ho hz (at_y hY'), hN⟩
theorem DLR.box {i id : Nat} {t : TypeId} {x : Operand} {y : AV} {cs : List AV} (hg : o.guard = none) (ho : o.op = .box t x) (hx : evA (msk (o.looksAt ops) tm) x = some y) (hcs : cellsA y = some cs) (hY : Y[i]? = some (some Rsv)) (hid : id = M.length + i)
 (hN : DLR P ops E M rest ch (dput tm o.dst (.ref id 1 cs.length 0 0)) (Y.set i (some ⟨t, cs.length, 1, true, [cs]⟩)) N) : DLR P ops E M (o :: rest) (some i :: ch) tm Y N := by
 subst hid
 exact ⟨hg, _, _, _, hY, fun Y' hY' => set_y (M := M) (Y' := Y') ▸ POp.boxAt ho hx hcs (at_y hY'), hN⟩
theorem DLR.store {i id g sz p q n : Nat} {b : Blk} {t : TypeId} {x y : Operand} {r cs : List AV} {z : AV} {bb : Bool} (hg : o.guard = none) (ho : o.op = .store t x y) (hx : evA (msk (o.looksAt ops) tm) x = some (.ref id g sz p q)) (hY : Y[i]? = some (some b)) (hid : id = M.length + i) (hgb : b.gen = g) (hb : b.sz = sz)
 (hr : b.es[p]? = some r) (hy : evA (msk (o.looksAt ops) tm) y = some z) (hcs : cellsA z = some cs) (hl : ldk P t = some (bb, n)) (hn : n = cs.length) (hj : Nat.ble (q + cs.length) r.length = true) (hds : o.dst = none)
 (hN : DLR P ops E M rest ch tm (Y.set i (some { b with es := b.es.set p (splice r q cs) })) N) : DLR P ops E M (o :: rest) (some i :: ch) tm Y N := by
 subst hid
 refine ⟨hg, .c undef, _, _, hY, fun Y' hY' => set_y (M := M) (Y' := Y') ▸ POp.store ho hx (at_y hY') hgb hb hr hy hcs (by obtain ⟨d, _, _, h3⟩ := ldk_inv hl; rw [h3, hn]) (Nat.le_of_ble_eq_true hj) hds, ?_⟩
 rw [hds]
 exact hN
end
end Go.Proofs.YtpffahmmklpifaaGreat.Abs
