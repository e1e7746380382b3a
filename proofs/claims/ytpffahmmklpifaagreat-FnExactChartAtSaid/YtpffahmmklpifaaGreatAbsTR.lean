/- Trees that a row of ours owns: told in its cells, let out as rows, taken in again; how such rows are lent; what is done to the memory without a step. -/
import Derived.Test.YtpffahmmklpifaaGreatAbsZC
namespace Go.Proofs.YtpffahmmklpifaaGreat.Abs
open Go.RowKit
set_option linter.unusedVariables false
set_option linter.unusedSimpArgs false

def undp : AV → AV
 | .dp (.is _ x) => x
 | .dp x => x
 | x => x
def dpz : AV → AV
 | .ro sz es => .dp (.ro sz es)
 | .is u x => .dp (.is u x)
 | x => x
theorem RepD.strip {w : World} {S : Nat → Prop} {x : AV} {u : Value} (h : RepD w S x u) : RepD w S (undp (.dp x)) u := by
 cases h with
 | c => exact .c _
 | ro pc f ho hk hpc hd hr hx h => exact .ro pc f ho hk hpc hd hr hx h
 | is h => exact h
def undpR (es : List (List AV)) : List (List AV) := es.map (·.map undp)
def dpR (es : List (List AV)) : List (List AV) := es.map (·.map dpz)
def isCD : AV → Bool
 | .c _ => true
 | .dp _ => true
 | _ => false
def DCl (es : List (List AV)) : Prop := ∀ r ∈ es, ∀ x ∈ r, isCD x = true
theorem DCl.b {es : List (List AV)} (h : es.all (fun r => r.all isCD) = true) : DCl es := fun r hr x hx => List.all_eq_true.1 (List.all_eq_true.1 h r hr) x hx
theorem DCl.map {α : Type} {en : α → List AV} (h : ∀ a, (en a).all isCD = true) {l : List α} : DCl (l.map en) := fun r hr x hx => by
 obtain ⟨a, _, rfl⟩ := List.mem_map.1 hr
 exact List.all_eq_true.1 (h a) x hx
theorem DCl.app {a b : List (List AV)} (h : DCl a) (k : DCl b) : DCl (a ++ b) := fun r hr => (List.mem_append.1 hr).elim (h r) (k r)
theorem DCl.rep {n : Nat} {z : List AV} (h : z.all isCD = true) : DCl (List.replicate n z) := fun r hr x hx => by
 obtain ⟨_, rfl⟩ := List.mem_replicate.1 hr
 exact List.all_eq_true.1 h x hx
theorem isCD_clo {x : AV} (h : isCD x = true) : CloC x := by
 cases x <;> first | exact (clo_c _).c | exact CloC.dp | cases h
theorem isCD_pur {x : AV} (h : isCD x = true) : PurC x := by
 cases x <;> first | exact (Pur.c _).cc | exact PurC.dp | cases h
theorem undpR_length {es : List (List AV)} : (undpR es).length = es.length := by simp [undpR]
theorem dpR_length {es : List (List AV)} : (dpR es).length = es.length := by simp [dpR]
theorem undpR_get {es : List (List AV)} {i : Nat} {r : List AV} (h : (undpR es)[i]? = some r) : ∃ r0, es[i]? = some r0 ∧ r = r0.map undp := by
 unfold undpR at h
 rw [List.getElem?_map] at h
 cases hq : es[i]? with
 | none => rw [hq] at h; cases h
 | some r0 => rw [hq] at h; exact ⟨r0, rfl, (Option.some.inj h).symm⟩
theorem dpR_get {es : List (List AV)} {i : Nat} {r : List AV} (h : (dpR es)[i]? = some r) : ∃ r0, es[i]? = some r0 ∧ r = r0.map dpz := by
 unfold dpR at h
 rw [List.getElem?_map] at h
 cases hq : es[i]? with
 | none => rw [hq] at h; cases h
 | some r0 => rw [hq] at h; exact ⟨r0, rfl, (Option.some.inj h).symm⟩
theorem map_get_of {f : AV → AV} {r : List AV} {j : Nat} {x : AV} (h : (r.map f)[j]? = some x) : ∃ y, r[j]? = some y ∧ x = f y := by
 rw [List.getElem?_map] at h
 cases hq : r[j]? with
 | none => rw [hq] at h; cases h
 | some y => rw [hq] at h; exact ⟨y, rfl, (Option.some.inj h).symm⟩

section
variable {P : Program} {E : Env} {tm : List AV} {M : Mem} {o : Oper} {w w0 : World} {Fx : Nat → Prop} {β : List Hd} {base : Nat} {G : List (Option Nat)}
theorem own_more {b : Nat} {e : TypeId} {size : Nat} {v : Value} {n : Nat} {xs : List Value} (h : w.ownsRow b e size v n xs) (hle : ∀ k, blockOf v = some k → base ≤ k) : w.ownsRow base e size v n xs := by
 obtain ⟨h1, h2⟩ := h
 refine ⟨h1, h2.imp id fun ⟨g, cap, cur, he, hb, hr⟩ => ⟨g, cap, cur, he, hle g (by rw [he]; rfl), hr⟩⟩
theorem RepD.rep {S : Nat → Prop} {x : AV} {u : Value} (h : RepD w S x u) : ∀ {Fc : Nat → Prop}, (∀ k, S k → Fc k) → Rep w Fc [] [] x u := by
 induction h with
 | c x => exact fun _ => .c x
 | is _ ih => exact fun hF => .is (ih hF)
 | @ro S sz es ty u xs pc f ho hk hpc hd hr hx _ ih =>
  intro Fc hF
  have hone : ∀ (i : Nat) (r : List AV) (j : Nat) (x : AV), es[i]? = some r → r[j]? = some x → (if (f i j).oneCell' = true then f i j else .bool false) = f i j := fun i r j x h1 h2 => if_pos (hx i r j x h1 h2).2
  obtain ⟨hx1, ho⟩ := ho
  rcases ho with ⟨rfl, hn⟩ | ⟨g, cap, cur, rfl, hg, hkx, hcap, hm, hsz, htake⟩
  · have e : es = [] := List.length_eq_zero_iff.1 hn
    subst e
    exact Rep.ro (es := []) (fun _ _ => .bool false) (by simp) (by simp) (fun h => absurd h (by simp)) (fun i r hr => by simp at hr) (fun _ _ => rfl) (fun i r j x hr => by simp at hr)
  · refine Rep.ro (fun i j => if (f i j).oneCell' = true then f i j else .bool false) hcap (by unfold maxLen at hm; omega) (fun hpos => ⟨⟨g, 0, none⟩, rfl, hF g (hk g rfl), fun i r j h1 hj => ?_⟩) hr (fun i j => ?_) (fun i r j x h1 h2 => ?_)
    · have hrl := hr i r h1
      have h2 := List.getElem?_eq_getElem (l := r) (i := j) (by omega)
      rw [hone i r j _ h1 h2]
      have hu := (hx i r j _ h1 h2).1
      rw [Addr.add_mid, Nat.zero_add, cell_of_row w g _ cur ty (0, 0) hkx]
      rw [← htake, List.getElem?_take] at hu
      split at hu
      · simpa using hu
      · cases hu
    · split
      · assumption
      · rfl
    · rw [hone i r j x h1 h2]
      exact ih i r j x h1 h2 fun k hp => hF k (hpc i j k hp).1
theorem BlkOk.tree {b : Blk} {h : Hd} (hk : BlkOk w Fx β G base b h) (hb : b.box = false) (hc : DCl b.es) : RepD w h.has (.ro b.sz (undpR b.es)) h.v := by
 obtain ⟨h1, h2⟩ := hk
 rw [hb] at h2
 obtain ⟨xs, ho, c1, c2, pc, c3, c4, c5⟩ := h2
 have ho' : w.ownsRow 0 b.ty b.sz h.v (undpR b.es).length xs := by rw [undpR_length]; exact own_less ho (Nat.zero_le _)
 refine .ro pc (fun i j => (xs[i * b.sz + j]?).getD undef) ho' (fun k hk => .inl hk) (fun i j k hp => ⟨.inr (c3 i j k hp).1, (c3 i j k hp).2⟩) c4 (fun i r hr => ?_) (fun i r j x hr hx => ?_) (fun i r j x hr hx => ?_)
 · obtain ⟨r0, hr0, rfl⟩ := undpR_get hr
   rw [List.length_map]
   exact (c2 i r0 hr0).1
 · obtain ⟨r0, hr0, rfl⟩ := undpR_get hr
   obtain ⟨x0, hx0, rfl⟩ := map_get_of hx
   obtain ⟨u, hu, h1, _⟩ := (c2 i r0 hr0).2 j x0 hx0
   rw [hu]
   exact ⟨rfl, h1⟩
 · obtain ⟨r0, hr0, rfl⟩ := undpR_get hr
   obtain ⟨x0, hx0, rfl⟩ := map_get_of hx
   have hcd := hc r0 (List.mem_of_getElem? hr0) x0 (List.mem_of_getElem? hx0)
   obtain ⟨u, hu, _, hR⟩ := (c2 i r0 hr0).2 j x0 hx0
   cases x0 with
   | c v =>
    obtain rfl := (hR rfl).c_inv
    rw [hu]
    exact .c _
   | dp d =>
    obtain ⟨u', hu', hD⟩ := c5 i r0 j d hr0 hx0
    rw [hu']
    exact hD.strip
   | _ => cases hcd

def Gh (M1 M2 : Mem) : Prop := ∀ base w0 w Fx β, HS base w0 w Fx β M1 → ∃ β', HS base w0 w Fx β' M2 ∧ Mv w Fx β (gens M1) w Fx β' (gens M2) ∧
 ∀ (id : Nat) b (v : Hd) k, M2[id]? = some (some b) → β'[id]? = some v → v.has k → ∃ (id' : Nat) (b' : Blk) (v' : Hd), M1[id']? = some (some b') ∧ β[id']? = some v' ∧ v'.has k
def GhE (M1 : Mem) (M2 : TypeId → Mem) : Prop := ∀ base w0 w Fx β, HS base w0 w Fx β M1 → ∃ ty β', HS base w0 w Fx β' (M2 ty) ∧ Mv w Fx β (gens M1) w Fx β' (gens (M2 ty)) ∧
 ∀ (id : Nat) b (v : Hd) k, (M2 ty)[id]? = some (some b) → β'[id]? = some v → v.has k → ∃ (id' : Nat) (b' : Blk) (v' : Hd), M1[id']? = some (some b') ∧ β[id']? = some v' ∧ v'.has k
theorem Gh.refl : Gh M M := fun base w0 w Fx β hh => ⟨β, hh, Mv.refl, fun id b v k h1 h2 h3 => ⟨id, b, v, h1, h2, h3⟩⟩
theorem Gh.trans {M1 M2 M3 : Mem} (h : Gh M1 M2) (k : Gh M2 M3) : Gh M1 M3 := fun base w0 w Fx β hh => by
 obtain ⟨β1, h1, m1, o1⟩ := h base w0 w Fx β hh
 obtain ⟨β2, h2, m2, o2⟩ := k base w0 w Fx β1 h1
 refine ⟨β2, h2, m1.trans m2, fun id b v k g1 g2 g3 => ?_⟩
 obtain ⟨id', b', v', g4, g5, g6⟩ := o2 id b v k g1 g2 g3
 exact o1 id' b' v' k g4 g5 g6
theorem Sim.ghE {a : Act} {M2 : TypeId → Mem} (hg : GhE M M2) (h : Sim E tm M a w) : ∃ ty, Sim E tm (M2 ty) a w := by
 obtain ⟨hd, Fx, β, hh, ho, hsl⟩ := h
 obtain ⟨ty, β', hh', m, own⟩ := hg _ _ _ _ _ hh
 refine ⟨ty, hd, Fx, β', hh', ⟨ho.mv.trans m, ho.size, ho.lim, fun id b v k h1 h2 h3 => ?_⟩, hsl.mv m⟩
 obtain ⟨id', b', v', g1, g2, g3⟩ := own id b v k h1 h2 h3
 exact ho.own id' b' v' k g1 g2 g3
theorem Gh.toE {M2 : Mem} (h : Gh M M2) : GhE M (fun _ => M2) := fun base w0 w Fx β hh => by
 obtain ⟨β', h1⟩ := h base w0 w Fx β hh
 exact ⟨0, β', h1⟩
theorem Sim.gh {a : Act} {M2 : Mem} (hg : Gh M M2) (h : Sim E tm M a w) : Sim E tm M2 a w := by
 obtain ⟨_, h⟩ := h.ghE hg.toE
 exact h
theorem AW.gh {c : Code} {Qx : XPost} {M2 : Mem} (hg : Gh M M2) (h : AW P c E tm M2 Qx) : AW P c E tm M Qx := fun a w Q hs k => h a w Q (hs.gh hg) k
theorem AW.ghE {c : Code} {Qx : XPost} {M2 : TypeId → Mem} (hg : GhE M M2) (h : ∀ ty, AW P c E tm (M2 ty) Qx) : AW P c E tm M Qx := fun a w Q hs k => by
 obtain ⟨ty, hs'⟩ := hs.ghE hg
 exact h ty a w Q hs' k
theorem POp.gh {r : AV} {M1 M2 : Mem} (h : POp P o E tm M r M1) (hg : Gh M1 M2) : POp P o E tm M r M2 := by
 intro a w K Q Fx β hh hsl hk
 refine h a w K Q Fx β hh hsl fun v w' Fx' β' hh' hx hr => ?_
 obtain ⟨β2, hh2, m, own⟩ := hg _ _ _ _ _ hh'
 refine hk v w' Fx' β2 hh2 ⟨hx.mv.trans m, hx.size, hx.lim, fun id b v k h1 h2 h3 => ?_⟩ (hr.mv m)
 obtain ⟨id', b', v', g1, g2, g3⟩ := own id b v k h1 h2 h3
 exact hx.own id' b' v' k g1 g2 g3

theorem set_get {α : Type} {l : List α} {i j : Nat} {x y : α} (h : (l.set i x)[j]? = some y) : (j = i ∧ y = x ∧ i < l.length) ∨ (j ≠ i ∧ l[j]? = some y) := by
 rw [List.getElem?_set] at h
 by_cases e : i = j
 · subst e
   rw [if_pos rfl] at h
   split at h
   · rename_i hlt
     exact .inl ⟨rfl, (Option.some.inj h).symm, hlt⟩
   · cases h
 · rw [if_neg e] at h
   exact .inr ⟨fun h => e h.symm, h⟩
theorem app_get {α : Type} {l : List α} {j : Nat} {x y : α} (h : (l ++ [x])[j]? = some y) : (j < l.length ∧ l[j]? = some y) ∨ (j = l.length ∧ y = x) := by
 rcases Nat.lt_or_ge j l.length with hj | hj
 · rw [List.getElem?_append_left hj] at h
   exact .inl ⟨hj, h⟩
 · rw [List.getElem?_append_right hj] at h
   have e : j - l.length = 0 := by
    rcases Nat.eq_zero_or_pos (j - l.length) with e | e
    · exact e
    · rw [List.getElem?_eq_none (by simp; omega)] at h; cases h
   rw [e] at h
   exact .inr ⟨by omega, by simpa using h.symm⟩
theorem CellsD.absorb {pv S : Nat → Prop} {hb : Option Nat} {sz : Nat} {es : List (List AV)} {xs : List Value} (h : CellsD w Fx β G pv hb sz es xs) {i j : Nat} {r : List AV} {y d : AV} (hr : es[i]? = some r) (hj : r[j]? = some y)
 (hS : ∀ k, S k → ¬ pv k ∧ hb ≠ some k) (hD : ∀ u, xs[i * sz + j]? = some u → RepD w S d u) : CellsD w Fx β G (fun k => pv k ∨ S k) hb sz (es.set i (r.set j (.dp d))) xs := by
 obtain ⟨h1, h2, pc, h3, h4, h5⟩ := h
 have hil : i < es.length := (List.getElem?_eq_some_iff.1 hr).1
 refine ⟨by rw [h1, List.length_set], fun i' r' hr' => ?_, fun i' j' k => (i' = i ∧ j' = j ∧ S k) ∨ (¬ (i' = i ∧ j' = j) ∧ pc i' j' k), fun i' j' k hp => ?_, fun i1 j1 i2 j2 k hp hq => ?_, fun i' r' j' d' hr' hd => ?_⟩
 · rcases set_get hr' with ⟨rfl, rfl, _⟩ | ⟨hne, hr0⟩
   · refine ⟨by rw [List.length_set]; exact (h2 _ r hr).1, fun j' x hx => ?_⟩
     rcases set_get hx with ⟨rfl, rfl, _⟩ | ⟨hne, hx0⟩
     · obtain ⟨u, hu, ho, _⟩ := (h2 _ r hr).2 _ y hj
       exact ⟨u, hu, ho, fun h => by cases h⟩
     · exact (h2 _ r hr).2 _ x hx0
   · exact h2 i' r' hr0
 · rcases hp with ⟨_, _, hp⟩ | ⟨_, hp⟩
   · exact ⟨.inr hp, (hS k hp).2⟩
   · exact ⟨.inl (h3 _ _ k hp).1, (h3 _ _ k hp).2⟩
 · rcases hp with ⟨rfl, rfl, hp⟩ | ⟨n1, hp⟩ <;> rcases hq with ⟨rfl, rfl, hq⟩ | ⟨n2, hq⟩
   · exact ⟨rfl, rfl⟩
   · exact absurd (h3 _ _ k hq).1 (hS k hp).1
   · exact absurd (h3 _ _ k hp).1 (hS k hq).1
   · exact h4 _ _ _ _ k hp hq
 · have sub : ∀ {k : Nat}, pc i' j' k → ¬ (i' = i ∧ j' = j) → (i' = i ∧ j' = j ∧ S k) ∨ (¬ (i' = i ∧ j' = j) ∧ pc i' j' k) := fun h hn => .inr ⟨hn, h⟩
   rcases set_get hr' with ⟨rfl, rfl, _⟩ | ⟨hne, hr0⟩
   · rcases set_get hd with ⟨rfl, e, _⟩ | ⟨hne, hx0⟩
     · cases e
       obtain ⟨u, hu, _, _⟩ := (h2 _ r hr).2 _ y hj
       exact ⟨u, hu, (hD u hu).mono fun k hk => .inl ⟨rfl, rfl, hk⟩⟩
     · obtain ⟨u, hu, hR⟩ := h5 _ r _ d' hr hx0
       exact ⟨u, hu, hR.mono fun k hk => sub hk fun h => hne h.2⟩
   · obtain ⟨u, hu, hR⟩ := h5 _ r' _ d' hr0 hd
     exact ⟨u, hu, hR.mono fun k hk => sub hk fun h => hne h.1⟩
theorem CellsD.expose {pv : Nat → Prop} {hb : Option Nat} {sz : Nat} {es : List (List AV)} {xs : List Value} (h : CellsD w Fx β G pv hb sz es xs) {i j : Nat} {r : List AV} {d : AV} (hr : es[i]? = some r) (hj : r[j]? = some (.dp d)) :
 ∃ (S : Nat → Prop) (u : Value), (∀ k, S k → pv k ∧ hb ≠ some k) ∧ u.oneCell' = true ∧ RepD w S d u ∧ ∀ (Fx' : Nat → Prop) (β' : List Hd) (G' : List (Option Nat)) (y : AV), Mv w Fx β G w Fx' β' G' → Rep w Fx' β' G' y u → CellsD w Fx' β' G' (fun k => pv k ∧ ¬ S k) hb sz (es.set i (r.set j y)) xs := by
 obtain ⟨h1, h2, pc, h3, h4, h5⟩ := h
 obtain ⟨u, hu, hR⟩ := h5 i r j d hr hj
 obtain ⟨u', hu', ho, _⟩ := (h2 i r hr).2 j _ hj
 rw [hu] at hu'
 obtain rfl := Option.some.inj hu'
 refine ⟨pc i j, u, fun k hk => h3 i j k hk, ho, hR, fun Fx' β' G' y m hy => ⟨by rw [h1, List.length_set], fun i' r' hr' => ?_, fun i' j' k => ¬ (i' = i ∧ j' = j) ∧ pc i' j' k, fun i' j' k hp => ⟨⟨(h3 _ _ k hp.2).1, fun hq => hp.1 (h4 _ _ _ _ k hp.2 hq)⟩, (h3 _ _ k hp.2).2⟩, fun i1 j1 i2 j2 k hp hq => h4 _ _ _ _ k hp.2 hq.2, fun i' r' j' d' hr' hd => ?_⟩⟩
 · rcases set_get hr' with ⟨rfl, rfl, _⟩ | ⟨hne, hr0⟩
   · refine ⟨by rw [List.length_set]; exact (h2 _ r hr).1, fun j' x hx => ?_⟩
     rcases set_get hx with ⟨rfl, rfl, _⟩ | ⟨hne, hx0⟩
     · exact ⟨u, hu, ho, hy.cr⟩
     · obtain ⟨u2, a1, a2, a3⟩ := (h2 _ r hr).2 _ x hx0
       exact ⟨u2, a1, a2, a3.mv m⟩
   · refine ⟨(h2 i' r' hr0).1, fun j' x hx => ?_⟩
     obtain ⟨u2, a1, a2, a3⟩ := (h2 i' r' hr0).2 j' x hx
     exact ⟨u2, a1, a2, a3.mv m⟩
 · rcases set_get hr' with ⟨rfl, rfl, _⟩ | ⟨hne, hr0⟩
   · rcases set_get hd with ⟨rfl, e, _⟩ | ⟨hne, hx0⟩
     · subst e; cases hy
     · obtain ⟨u', hu', hR'⟩ := h5 _ r _ d' hr hx0
       exact ⟨u', hu', hR'.mono fun k hk => ⟨fun h => hne h.2, hk⟩⟩
   · obtain ⟨u', hu', hR'⟩ := h5 _ r' _ d' hr0 hd
     exact ⟨u', hu', hR'.mono fun k hk => ⟨fun h => hne h.1, hk⟩⟩
theorem BlkOk.open {b : Blk} {h : Hd} (hk : BlkOk w Fx β G base b h) : ∃ xs, CellsD w Fx β G h.pv (blockOf h.v) b.sz b.es xs ∧ ∀ (b' : Blk) (h' : Hd) (β' : List Hd) (G' : List (Option Nat)), h'.v = h.v → b'.ty = b.ty → b'.sz = b.sz → b'.box = b.box → b'.es.length = b.es.length → (∀ k, h'.has k → base ≤ k ∧ k < w.heap.size ∧ ¬ Fx k) →
 CellsD w Fx β' G' h'.pv (blockOf h.v) b.sz b'.es xs → BlkOk w Fx β' G' base b' h' := by
 obtain ⟨_, h2⟩ := hk
 cases hb : b.box with
 | true =>
  rw [hb] at h2
  obtain ⟨k, xs, a1, a2, a3, a4⟩ := h2
  refine ⟨_, a4, fun b' h' β' G' hv hty hsz hbx hl h1 hc => ⟨h1, ?_⟩⟩
  rw [hbx, hv, hty, hsz, hl]
  exact ⟨k, xs, a1, a2, a3, hc⟩
 | false =>
  rw [hb] at h2
  obtain ⟨xs, a1, a2⟩ := h2
  refine ⟨_, a2, fun b' h' β' G' hv hty hsz hbx hl h1 hc => ⟨h1, ?_⟩⟩
  rw [hbx, hv, hty, hsz, hl]
  exact ⟨xs, a1, hc⟩
theorem Gh.absorb {q id i j g : Nat} {bo b : Blk} {r : List AV} (ho : M[q]? = some (some bo)) (hM : M[id]? = some (some b)) (hne : Nat.beq q id = false) (hr : bo.es[i]? = some r) (hc : r[j]? = some (.own id g)) (hg : b.gen = g) (hb : b.box = false) (hd : DCl b.es) :
 Gh M ((M.set q (some { bo with es := bo.es.set i (r.set j (.dp (.ro b.sz (undpR b.es)))) })).set id none) := by
 intro base w0 w Fx β hh
 have hne : q ≠ id := fun e => by rw [e] at hne; simp at hne
 obtain ⟨vo, hvo, hoko⟩ := hh.blk q bo ho
 obtain ⟨vi, hvi, hoki⟩ := hh.blk id b hM
 have tree := hoki.tree hb hd
 have hql : q < M.length := (List.getElem?_eq_some_iff.1 ho).1
 have up : ∀ {p : Nat} {b1 : Blk}, ((M.set q (some { bo with es := bo.es.set i (r.set j (.dp (.ro b.sz (undpR b.es)))) })).set id none)[p]? = some (some b1) → p ≠ id ∧ ((p = q ∧ b1 = { bo with es := bo.es.set i (r.set j (.dp (.ro b.sz (undpR b.es)))) }) ∨ (p ≠ q ∧ M[p]? = some (some b1))) := fun {p b1} h => by
  rcases set_get h with ⟨_, e, _⟩ | ⟨n1, h⟩
  · cases e
  · refine ⟨n1, ?_⟩
    rcases set_get h with ⟨e, e2, _⟩ | ⟨n2, h⟩
    · exact .inl ⟨e, Option.some.inj e2⟩
    · exact .inr ⟨n2, h⟩
 have hself : (β.set q ⟨vo.v, fun k => vo.pv k ∨ vi.has k⟩)[q]? = some ⟨vo.v, fun k => vo.pv k ∨ vi.has k⟩ := by simp [hh.len, hql]
 have oth : ∀ {p : Nat}, p ≠ q → (β.set q ⟨vo.v, fun k => vo.pv k ∨ vi.has k⟩)[p]? = β[p]? := fun h => by rw [List.getElem?_set, if_neg (Ne.symm h)]
 have has' : ∀ {k : Nat}, (⟨vo.v, fun k => vo.pv k ∨ vi.has k⟩ : Hd).has k → vo.has k ∨ vi.has k := fun h => h.elim (fun h => .inl (.inl h)) (fun h => h.elim (fun h => .inl (.inr h)) .inr)
 have m : Mv w Fx β (gens M) w Fx (β.set q ⟨vo.v, fun k => vo.pv k ∨ vi.has k⟩) (gens ((M.set q (some { bo with es := bo.es.set i (r.set j (.dp (.ro b.sz (undpR b.es)))) })).set id none)) := ⟨fun _ h => h, fun _ _ => rfl, by simp [gens_length], fun p g' hp hg' => by
  obtain ⟨b1, hb1, rfl⟩ := gens_get hg'
  obtain ⟨n1, ⟨rfl, rfl⟩ | ⟨n2, h2⟩⟩ := up hb1
  · refine ⟨bo.gen, gens_of ho, Nat.le_refl _, fun _ => ?_⟩
    rw [hself, hvo]
    rfl
  · exact ⟨b1.gen, gens_of h2, Nat.le_refl _, fun _ => hd_eq (oth n2)⟩⟩
 refine ⟨β.set q ⟨vo.v, fun k => vo.pv k ∨ vi.has k⟩, ⟨hh.bel, hh.bs, hh.fx, by simp [hh.len], fun p b1 h1 => ?_, fun p1 p2 b1 b2 v1 v2 k hne2 h1 h2 hv1 hv2 hk1 hk2 => ?_⟩, m, fun p b1 v k h1 hv hk => ?_⟩
 · obtain ⟨n1, ⟨rfl, rfl⟩ | ⟨n2, h2⟩⟩ := up h1
   · obtain ⟨xs, hcd, mk⟩ := hoko.open
     refine ⟨_, hself, mk _ ⟨vo.v, fun k => vo.pv k ∨ vi.has k⟩ _ _ rfl rfl rfl rfl (by simp) (fun k hk => ?_) ?_⟩
     · rcases has' hk with hk | hk
       · exact hoko.1 k hk
       · exact hoki.1 k hk
     · have := hcd.absorb (S := vi.has) (d := .ro b.sz (undpR b.es)) hr hc (fun k hk => ⟨fun hp => hh.inj _ _ _ _ _ _ k hne ho hM hvo hvi (.inr hp) hk, fun he => hh.inj _ _ _ _ _ _ k hne ho hM hvo hvi (.inl he) hk⟩) (fun u hu => by
        obtain ⟨u', hu', _, hR⟩ := (hcd.cel i r hr).2 j _ hc
        rw [hu] at hu'
        obtain rfl := Option.some.inj hu'
        cases hR rfl with
        | own _ _ _ h =>
         obtain ⟨hd0, h3, rfl⟩ := h (by rw [← hg]; exact gens_of hM)
         rw [hvi] at h3
         obtain rfl := Option.some.inj h3
         exact tree)
       exact this.mv m fun _ _ _ => rfl
   · obtain ⟨v, hv, hok⟩ := hh.blk p b1 h2
     exact ⟨v, (oth n2).trans hv, hok.mv m (Nat.le_refl _) (fun _ _ => rfl) (fun k hk => (hok.1 k hk).2.2)⟩
 · obtain ⟨n1, c1⟩ := up h1
   obtain ⟨n2, c2⟩ := up h2
   rcases c1 with ⟨rfl, rfl⟩ | ⟨m1, c1⟩ <;> rcases c2 with ⟨rfl, rfl⟩ | ⟨m2, c2⟩
   · exact hne2 rfl
   · rw [hself] at hv1
     obtain rfl := Option.some.inj hv1
     rw [oth m2] at hv2
     rcases has' hk1 with h | h
     · exact hh.inj _ _ _ _ _ _ k (Ne.symm m2) ho c2 hvo hv2 h hk2
     · exact hh.inj _ _ _ _ _ _ k (Ne.symm n2) hM c2 hvi hv2 h hk2
   · rw [hself] at hv2
     obtain rfl := Option.some.inj hv2
     rw [oth m1] at hv1
     rcases has' hk2 with h | h
     · exact hh.inj _ _ _ _ _ _ k (Ne.symm m1) ho c1 hvo hv1 h hk1
     · exact hh.inj _ _ _ _ _ _ k (Ne.symm n1) hM c1 hvi hv1 h hk1
   · rw [oth m1] at hv1
     rw [oth m2] at hv2
     exact hh.inj _ _ _ _ _ _ k hne2 c1 c2 hv1 hv2 hk1 hk2
 · obtain ⟨n1, ⟨rfl, rfl⟩ | ⟨n2, h2⟩⟩ := up h1
   · rw [hself] at hv
     obtain rfl := Option.some.inj hv
     rcases has' hk with h | h
     · exact ⟨_, bo, vo, ho, hvo, h⟩
     · exact ⟨id, b, vi, hM, hvi, h⟩
   · exact ⟨p, b1, v, h2, (oth n2).symm.trans hv, hk⟩
theorem RepD.cells_of {S : Nat → Prop} {sz : Nat} {es : List (List AV)} {u : Value} {ty : TypeId} {xs : List Value} (pc : Nat → Nat → Nat → Prop) (f : Nat → Nat → Value) (ho : w.ownsRow 0 ty sz u es.length xs)
 (hpc : ∀ i j k, pc i j k → S k ∧ blockOf u ≠ some k) (hd : ∀ i j i' j' k, pc i j k → pc i' j' k → i = i' ∧ j = j') (hr : ∀ (i : Nat) (r : List AV), es[i]? = some r → r.length = sz)
 (hx : ∀ (i : Nat) (r : List AV) (j : Nat) (x : AV), es[i]? = some r → r[j]? = some x → xs[i * sz + j]? = some (f i j) ∧ (f i j).oneCell' = true) (h : ∀ (i : Nat) (r : List AV) (j : Nat) (x : AV), es[i]? = some r → r[j]? = some x → RepD w (pc i j) x (f i j)) :
 CellsD w Fx β G (fun k => S k ∧ blockOf u ≠ some k) (blockOf u) sz (dpR es) xs := by
 refine ⟨by rw [ho.1, dpR_length], fun i r hr' => ?_, pc, fun i j k hp => ⟨hpc i j k hp, (hpc i j k hp).2⟩, hd, fun i r j d hr' hd' => ?_⟩
 · obtain ⟨r0, h0, rfl⟩ := dpR_get hr'
   refine ⟨by rw [List.length_map]; exact hr i r0 h0, fun j x hx' => ?_⟩
   obtain ⟨x0, hx0, rfl⟩ := map_get_of hx'
   refine ⟨f i j, (hx i r0 j x0 h0 hx0).1, (hx i r0 j x0 h0 hx0).2, ?_⟩
   have h4 := h i r0 j x0 h0 hx0
   cases h4 with
   | c => exact fun _ => .c _
   | ro => exact fun hn => by cases hn
   | is => exact fun hn => by cases hn
 · obtain ⟨r0, h0, rfl⟩ := dpR_get hr'
   obtain ⟨x0, hx0, e⟩ := map_get_of hd'
   have h4 := h i r0 j x0 h0 hx0
   refine ⟨f i j, (hx i r0 j x0 h0 hx0).1, ?_⟩
   cases x0 with
   | ro s2 e2 => cases e; exact h4
   | is u2 x2 => cases e; exact h4
   | c v => cases e
   | _ => cases h4
theorem GhE.expose {q i j sz : Nat} {bo : Blk} {r : List AV} {es : List (List AV)} (ho : M[q]? = some (some bo)) (hr : bo.es[i]? = some r) (hc : r[j]? = some (.dp (.ro sz es))) :
 GhE M (fun ty => M.set q (some { bo with es := bo.es.set i (r.set j (.own M.length 0)) }) ++ [some ⟨ty, sz, 0, false, dpR es⟩]) := by
 intro base w0 w Fx β hh
 obtain ⟨vo, hvo, hoko⟩ := hh.blk q bo ho
 have hql : q < M.length := (List.getElem?_eq_some_iff.1 ho).1
 obtain ⟨xs0, hcd0, mk⟩ := hoko.open
 obtain ⟨S, u, hS, hu1, hD, hset⟩ := hcd0.expose hr hc
 obtain ⟨ty, xs, hSk, hown, hcdn⟩ : ∃ ty xs, (∀ k, blockOf u = some k → S k) ∧ w.ownsRow 0 ty sz u es.length xs ∧ ∀ (β1 : List Hd) (G1 : List (Option Nat)), CellsD w Fx β1 G1 (fun k => S k ∧ blockOf u ≠ some k) (blockOf u) sz (dpR es) xs := by
  cases hD with
  | @ro _ _ _ ty _ xs pc f ho hk hpc hd hr hx h =>
   exact ⟨ty, xs, hk, ho, fun β1 G1 => RepD.cells_of pc f ho hpc hd hr hx h⟩
 have hSb : ∀ k, S k → base ≤ k ∧ k < w.heap.size ∧ ¬ Fx k := fun k hk => hoko.1 k (.inr (hS k hk).1)
 obtain ⟨ho', eho⟩ : ∃ h : Hd, h = ⟨vo.v, fun k => vo.pv k ∧ ¬ S k⟩ := ⟨_, rfl⟩
 obtain ⟨hn, ehn⟩ : ∃ h : Hd, h = ⟨u, fun k => S k ∧ blockOf u ≠ some k⟩ := ⟨_, rfl⟩
 have hnhas : ∀ {k : Nat}, hn.has k → S k := fun h => by subst ehn; exact h.elim (fun h => hSk _ h) (fun h => h.1)
 have hohas : ∀ {k : Nat}, ho'.has k → vo.has k ∧ ¬ S k := fun {k} h => by subst eho; exact h.elim (fun h => ⟨.inl h, fun hs => (hS k hs).2 h⟩) (fun h => ⟨.inr h.1, h.2⟩)
 obtain ⟨bo', ebo⟩ : ∃ b : Blk, b = { bo with es := bo.es.set i (r.set j (.own M.length 0)) } := ⟨_, rfl⟩
 obtain ⟨bn, ebn⟩ : ∃ b : Blk, b = ⟨ty, sz, 0, false, dpR es⟩ := ⟨_, rfl⟩
 obtain ⟨Mn, eMn⟩ : ∃ m : Mem, m = M.set q (some bo') ++ [some bn] := ⟨_, rfl⟩
 obtain ⟨βn, eβn⟩ : ∃ l : List Hd, l = β.set q ho' ++ [hn] := ⟨_, rfl⟩
 have up : ∀ {p : Nat} {b1 : Blk}, Mn[p]? = some (some b1) → (p = q ∧ b1 = bo') ∨ (p ≠ q ∧ p < M.length ∧ M[p]? = some (some b1)) ∨ (p = M.length ∧ b1 = bn) := fun {p b1} h => by
  rw [eMn] at h
  rcases app_get h with ⟨h1, h⟩ | ⟨e, e2⟩
  · rcases set_get h with ⟨e, e2, _⟩ | ⟨n2, h⟩
    · exact .inl ⟨e, Option.some.inj e2⟩
    · exact .inr (.inl ⟨n2, by simpa using h1, h⟩)
  · exact .inr (.inr ⟨by simpa using e, Option.some.inj e2⟩)
 have hlb : β.length = M.length := hh.len
 have hlM : Mn.length = M.length + 1 := by rw [eMn]; simp
 have hself : βn[q]? = some ho' := by
  rw [eβn, List.getElem?_append_left (by simp; omega)]
  simp [hlb, hql]
 have oth : ∀ {p : Nat}, p ≠ q → p < M.length → βn[p]? = β[p]? := fun {p} h hp => by
  rw [eβn, List.getElem?_append_left (by simp; omega), List.getElem?_set, if_neg (Ne.symm h)]
 have hlast : βn[M.length]? = some hn := by
  rw [eβn, List.getElem?_append_right (by simp; omega)]
  simp [hlb]
 have m : Mv w Fx β (gens M) w Fx βn (gens Mn) := ⟨fun _ h => h, fun _ _ => rfl, by rw [gens_length, gens_length, hlM]; omega, fun p g' hp hg' => by
  obtain ⟨b1, hb1, rfl⟩ := gens_get hg'
  rw [gens_length] at hp
  rcases up hb1 with ⟨rfl, rfl⟩ | ⟨n2, _, h2⟩ | ⟨rfl, _⟩
  · refine ⟨bo.gen, gens_of ho, by rw [ebo]; exact Nat.le_refl _, fun _ => ?_⟩
    rw [hself, hvo, eho]
    rfl
  · exact ⟨b1.gen, gens_of h2, Nat.le_refl _, fun _ => hd_eq (oth n2 hp)⟩
  · omega⟩
 have hrep : Rep w Fx βn (gens Mn) (.own M.length 0) u := .own hu1 (by rw [gens_length, hlM]; omega) (fun g1 _ => Nat.zero_le _) (fun _ => ⟨hn, hlast, by rw [ehn]⟩)
 suffices h : HS base w0 w Fx βn Mn ∧ Mv w Fx β (gens M) w Fx βn (gens Mn) ∧ ∀ (id : Nat) b (v : Hd) k, Mn[id]? = some (some b) → βn[id]? = some v → v.has k → ∃ (id' : Nat) (b' : Blk) (v' : Hd), M[id']? = some (some b') ∧ β[id']? = some v' ∧ v'.has k by
  rw [eMn, ebo, ebn] at h
  exact ⟨ty, βn, h⟩
 refine ⟨⟨hh.bel, hh.bs, hh.fx, by rw [eβn, hlM]; simp [hlb], fun p b1 h1 => ?_, fun p1 p2 b1 b2 v1 v2 k hne2 h1 h2 hv1 hv2 hk1 hk2 => ?_⟩, m, fun p b1 v k h1 hv hk => ?_⟩
 · rcases up h1 with ⟨rfl, rfl⟩ | ⟨n2, hp, h2⟩ | ⟨rfl, rfl⟩
   · refine ⟨_, hself, ?_⟩
     refine mk b1 ho' _ _ (by rw [eho]) (by rw [ebo]) (by rw [ebo]) (by rw [ebo]) (by rw [ebo]; simp) (fun k hk => hoko.1 k (hohas hk).1) ?_
     rw [ebo, eho]
     exact hset _ _ _ _ m hrep
   · obtain ⟨v, hv, hok⟩ := hh.blk p b1 h2
     exact ⟨v, (oth n2 hp).trans hv, hok.mv m (Nat.le_refl _) (fun _ _ => rfl) (fun k hk => (hok.1 k hk).2.2)⟩
   · refine ⟨hn, hlast, fun k hk => hSb k (hnhas hk), ?_⟩
     rw [ebn, ehn]
     exact ⟨xs, by rw [dpR_length]; exact own_more hown fun k hk => (hSb k (hSk k hk)).1, hcdn _ _⟩
 · rcases up h1 with ⟨rfl, rfl⟩ | ⟨m1, q1, c1⟩ | ⟨rfl, rfl⟩ <;> rcases up h2 with ⟨rfl, rfl⟩ | ⟨m2, q2, c2⟩ | ⟨rfl, rfl⟩
   · exact hne2 rfl
   · rw [hself] at hv1
     obtain rfl := Option.some.inj hv1
     rw [oth m2 q2] at hv2
     exact hh.inj _ _ _ _ _ _ k (Ne.symm m2) ho c2 hvo hv2 (hohas hk1).1 hk2
   · rw [hself] at hv1
     obtain rfl := Option.some.inj hv1
     rw [hlast] at hv2
     obtain rfl := Option.some.inj hv2
     exact (hohas hk1).2 (hnhas hk2)
   · rw [hself] at hv2
     obtain rfl := Option.some.inj hv2
     rw [oth m1 q1] at hv1
     exact hh.inj _ _ _ _ _ _ k (Ne.symm m1) ho c1 hvo hv1 (hohas hk2).1 hk1
   · rw [oth m1 q1] at hv1
     rw [oth m2 q2] at hv2
     exact hh.inj _ _ _ _ _ _ k hne2 c1 c2 hv1 hv2 hk1 hk2
   · rw [oth m1 q1] at hv1
     rw [hlast] at hv2
     obtain rfl := Option.some.inj hv2
     exact hh.inj _ _ _ _ _ _ k (Ne.symm m1) ho c1 hvo hv1 (.inr (hS k (hnhas hk2)).1) hk1
   · rw [hself] at hv2
     obtain rfl := Option.some.inj hv2
     rw [hlast] at hv1
     obtain rfl := Option.some.inj hv1
     exact (hohas hk2).2 (hnhas hk1)
   · rw [oth m2 q2] at hv2
     rw [hlast] at hv1
     obtain rfl := Option.some.inj hv1
     exact hh.inj _ _ _ _ _ _ k (Ne.symm m2) ho c2 hvo hv2 (.inr (hS k (hnhas hk1)).1) hk2
   · exact hne2 rfl
 · rcases up h1 with ⟨rfl, rfl⟩ | ⟨n2, hp, h2⟩ | ⟨rfl, rfl⟩
   · rw [hself] at hv
     obtain rfl := Option.some.inj hv
     exact ⟨p, bo, vo, ho, hvo, (hohas hk).1⟩
   · exact ⟨p, b1, v, h2, (oth n2 hp).symm.trans hv, hk⟩
   · rw [hlast] at hv
     obtain rfl := Option.some.inj hv
     exact ⟨q, bo, vo, ho, hvo, .inr (hS k (hnhas hk)).1⟩
end
end Go.Proofs.YtpffahmmklpifaaGreat.Abs
