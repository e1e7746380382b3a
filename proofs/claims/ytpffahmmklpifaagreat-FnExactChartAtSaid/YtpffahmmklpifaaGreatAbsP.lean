/- Structs and arrays out of their parts, and a part of one. -/
import Derived.Test.YtpffahmmklpifaaGreatAbsO
import Derived.Laws.Tables
namespace Go.Proofs.YtpffahmmklpifaaGreat.Abs
open Go.RowKit
set_option linter.unusedVariables false
set_option linter.unusedSimpArgs false

def bldk (P : Program) (t : TypeId) : Option (List Value × List (Nat × Nat)) := match P.info? t, P.underlying t with
 | some it, some (.array n e) => match it.zero, P.info? e with
  | some z, some ie => if z.cells.toList.all (·.oneCell') then some (z.cells.toList, (List.range n).map fun i => (i * ie.size, ie.size)) else none
  | _, _ => none
 | some it, some (.struct fields) => match it.zero, fields.toList.mapM (fun f => (P.info? f.type).map fun i => (f.offset, i.size)) with
  | some z, some places => if z.cells.toList.all (·.oneCell') then some (z.cells.toList, places) else none
  | _, _ => none
 | _, _ => none
def fillA (pl : List (Nat × Nat)) : List AV → List (Nat × AV) → Option (List AV)
 | cs, [] => some cs
 | cs, (i, x) :: rest => match pl[i]?, cellsA x with
  | some (off, size), some xs => match Nat.beq xs.length size && Nat.ble (off + xs.length) cs.length with
   | true => fillA pl (splice cs off xs) rest
   | false => none
  | _, _ => none

theorem foldl_setL : ∀ (l : List Value) (off k : Nat) (cells : Array Value), (l.zipIdx k).foldl (fun cs (p : Value × Nat) => cs.setIfInBounds (off + p.2) p.1) cells = setL cells (off + k) l
 | [], off, k, cells => rfl
 | v :: r, off, k, cells => by
  simp only [List.zipIdx_cons, List.foldl_cons, setL]
  rw [foldl_setL r off (k + 1)]
  rfl
theorem foldl_setL' (v : Array Value) (off : Nat) (cells : Array Value) : v.zipIdx.foldl (fun cs (c, j) => cs.setIfInBounds (off + j) c) cells = setL cells off v.toList := by
 rw [← Array.foldl_toList, Array.toList_zipIdx]
 exact foldl_setL v.toList off 0 cells
section
variable {w : World} {Fx : Nat → Prop} {β : List Hd} {G : List (Option Nat)}
def CellsOk (w : World) (Fx : Nat → Prop) (β : List Hd) (G : List (Option Nat)) (cs : List AV) (us : List Value) : Prop :=
 us.length = cs.length ∧ (∀ u ∈ us, u.oneCell' = true) ∧ ∀ (i : Nat) y u, cs[i]? = some y → us[i]? = some u → Rep w Fx β G y u
theorem CellsOk.splice {cs xs : List AV} {cells : Array Value} {us : List Value} {off : Nat} (h : CellsOk w Fx β G cs cells.toList) (hx : CellsOk w Fx β G xs us) (ho : off + xs.length ≤ cs.length) : CellsOk w Fx β G (Abs.splice cs off xs) (setL cells off us).toList := by
 obtain ⟨h1, h2, h3⟩ := h
 obtain ⟨g1, g2, g3⟩ := hx
 have hb : off + us.length ≤ cells.size := by rw [g1]; simpa [← h1] using ho
 have get : ∀ q : Nat, (setL cells off us).toList[q]? = if off ≤ q ∧ q < off + us.length then us[q - off]? else cells.toList[q]? := fun q => by
  have h5 := setL_get us cells off q hb
  have e1 : (setL cells off us).toList[q]? = (setL cells off us)[q]? := Array.getElem?_toList
  have e2 : cells.toList[q]? = cells[q]? := Array.getElem?_toList
  rw [e1, e2]
  exact h5
 refine ⟨by rw [splice_length ho, ← h1]; simp [setL_size], fun u hu => ?_, fun i y u hy hu => ?_⟩
 · obtain ⟨q, hq⟩ := List.getElem?_of_mem hu
   rw [get] at hq
   split at hq
   · exact g2 u (List.mem_of_getElem? hq)
   · exact h2 u (List.mem_of_getElem? hq)
 · rw [get] at hu
   rw [splice_get ho, ← g1] at hy
   split at hu
   · rename_i hc
     rw [if_pos hc] at hy
     exact g3 _ y u hy hu
   · rename_i hc
     rw [if_neg hc] at hy
     exact h3 i y u hy hu
theorem fill_ok {pl : List (Nat × Nat)} {place : Nat → Option (Nat × Nat)} (hp : ∀ (i : Nat) x, pl[i]? = some x → place i = some x) :
 ∀ (ps : List (Nat × AV)) (vs : List (Nat × Value)) (cs cs' : List AV) (cells : Array Value), CellsOk w Fx β G cs cells.toList → vs.length = ps.length →
  (∀ (i : Nat) p v, ps[i]? = some p → vs[i]? = some v → v.1 = p.1 ∧ Rep w Fx β G p.2 v.2) → fillA pl cs ps = some cs' → ∃ cells', Instr.fill place cells vs = some cells' ∧ CellsOk w Fx β G cs' cells'.toList
 | [], vs, cs, cs', cells, hc, hl, hr, hf => by
  have : vs = [] := List.length_eq_zero_iff.1 (by simpa using hl)
  subst this
  simp only [fillA, Option.some.injEq] at hf
  subst hf
  exact ⟨cells, rfl, hc⟩
 | (i, x) :: ps, [], cs, cs', cells, hc, hl, hr, hf => by simp at hl
 | (i, x) :: ps, (i', v) :: vs, cs, cs', cells, hc, hl, hr, hf => by
  obtain ⟨rfl, hx⟩ := hr 0 _ _ rfl rfl
  simp only at hx
  unfold fillA at hf
  split at hf
  · rename_i off size xs hpl hcx
    split at hf
    · rename_i hb
      rw [Bool.and_eq_true] at hb
      have hs := Nat.eq_of_beq_eq_true hb.1
      have ho := Nat.le_of_ble_eq_true hb.2
      obtain ⟨c1, c2, c3⟩ := hx.cells hcx
      have h2 := CellsOk.splice hc ⟨c1, c2, c3⟩ ho
      obtain ⟨cells', hf', hc'⟩ := fill_ok hp ps vs _ cs' _ h2 (by simpa using hl) (fun j p u h3 h4 => hr (j + 1) p u (by simpa using h3) (by simpa using h4)) hf
      refine ⟨cells', ?_, hc'⟩
      have e1 : v.cells.size = xs.length := by rw [← c1]; simp
      have e2 : cells.size = cs.length := by rw [← hc.1]; simp
      unfold Instr.fill
      rw [hp _ _ hpl]
      have k1 : ¬ (v.cells.size ≠ size) := by omega
      have k2 : ¬ (off + v.cells.size > cells.size) := by omega
      simp only [k1, k2, decide_false, Bool.or_self, Bool.false_eq_true, if_false]
      rw [foldl_setL']
      exact hf'
    · cases hf
  · cases hf
end
section
variable {P : Program} {E : Env} {T : Tbl} {tm : List AV} {M : Mem} {o : Oper}
theorem QOp.build {t : TypeId} {parts : Array (Nat × Operand)} {zs : List Value} {pl : List (Nat × Nat)} {ps : List (Nat × AV)} {cs : List AV} (ho : o.op = .build t parts) (hb : bldk P t = some (zs, pl)) (hp : parts.toList.mapM (fun p => (evA tm p.2).map fun y => (p.1, y)) = some ps)
 (hf : fillA pl (zs.map .c) ps = some cs) : QOp P o tm M (.agg cs) := fun base w0 a w Fx β hh hs => by
 obtain ⟨hl, hq⟩ := mapM_get hp
 have hr : ∀ (i : Nat) p v, ps[i]? = some p → (parts.toList.map fun p => (p.1, a.eval p.2))[i]? = some v → v.1 = p.1 ∧ Rep w Fx β (gens M) p.2 v.2 := fun i p v h1 h2 => by
  rw [List.getElem?_map] at h2
  cases hx : parts.toList[i]? with
  | none => rw [hx] at h2; cases h2
  | some q =>
   rw [hx] at h2
   obtain rfl := Option.some.inj h2
   obtain ⟨y, hy, he⟩ := hq i q hx
   rw [h1] at hy
   obtain rfl := Option.some.inj hy
   cases he2 : evA tm q.2 with
   | none => rw [he2] at he; cases he
   | some z =>
    rw [he2] at he
    obtain rfl := Option.some.inj he
    exact ⟨rfl, hs.ev he2⟩
 have key : ∃ place : Nat → Option (Nat × Nat), (∀ (i : Nat) x, pl[i]? = some x → place i = some x) ∧ (∀ u ∈ zs, u.oneCell' = true) ∧ ∀ vs, P.built t vs = Instr.fill place zs.toArray vs := by
  unfold bldk at hb
  split at hb
  · rename_i it n e h1 h2
    split at hb
    · rename_i z ie hz hie
      split at hb
      · rename_i hone
        obtain ⟨rfl, rfl⟩ := Prod.mk.inj (Option.some.inj hb)
        refine ⟨fun i => some (i * ie.size, ie.size), fun i x hx => ?_, fun u hu => List.all_eq_true.1 hone u hu, fun vs => by simp [Program.built, h1, h2, hz, hie]⟩
        rw [List.getElem?_map] at hx
        cases hr : (List.range n)[i]? with
        | none => rw [hr] at hx; cases hx
        | some k =>
         rw [hr] at hx
         have : k = i := by
          have hlt : i < n := by have := (List.getElem?_eq_some_iff.1 hr).1; simpa using this
          rw [List.getElem?_range hlt] at hr
          exact (Option.some.inj hr).symm
         subst this
         simpa using hx
      · cases hb
    · cases hb
  · rename_i it fields h1 h2
    split at hb
    · rename_i z places hz hpl
      split at hb
      · rename_i hone
        obtain ⟨rfl, rfl⟩ := Prod.mk.inj (Option.some.inj hb)
        exact ⟨fun i => places.toArray[i]?, fun i x hx => by simpa using hx, fun u hu => List.all_eq_true.1 hone u hu, fun vs => by simp [Program.built, h1, h2, hz, hpl]⟩
      · cases hb
    · cases hb
  · cases hb
 obtain ⟨place, hplace, hone, hbuilt⟩ := key
 obtain ⟨cells', h1, h2⟩ := fill_ok hplace ps (parts.toList.map fun p => (p.1, a.eval p.2)) (zs.map .c) cs zs.toArray ⟨by simp, fun u hu => hone u (by simpa using hu), fun i y u hy hu => by
  rw [List.getElem?_map] at hy
  have hu : zs[i]? = some u := by simpa using hu
  rw [hu] at hy
  obtain rfl := Option.some.inj hy
  exact .c u⟩ (by simp [hl]) hr hf
 refine ⟨.agg cells', fun w' _ => ?_, Rep.agg (us := cells'.toList) h2.1 h2.2.1 h2.2.2⟩
 have := run_build (P := P) w' t (parts.map fun (i, x) => (i, a.eval x)) cells' (by
  rw [hbuilt, ← h1]
  congr 1
  simp)
 simp [execOp, ho, this]
end
end Go.Proofs.YtpffahmmklpifaaGreat.Abs
