/- Trees that a row of ours owns: told in its cells, let out as rows, taken in again; how such rows are lent; what is done to the memory without a step. -/
import Derived.Test.YtpffahmmklpifaaGreatAbsZC
namespace Go.Proofs.YtpffahmmklpifaaGreat.Abs
open Go.RowKit
set_option linter.unusedVariables false
set_option linter.unusedSimpArgs false

def undp : AV → AV
  | .dp (.is _ x) => x
  | .dp x => x
  | x => x
theorem RepD.strip {w : World} {S : Nat → Prop} {x : AV} {u : Value} (h : RepD w S x u) : RepD w S (undp (.dp x)) u := by
  cases h with
  | c => exact .c _
  | ro pc f ho hk hpc hd hr hx h => exact .ro pc f ho hk hpc hd hr hx h
  | is h => exact h
def undpR (es : List (List AV)) : List (List AV) := es.map (·.map undp)
def isCD : AV → Bool
  | .c _ => true
  | .dp _ => true
  | _ => false
def DCl (es : List (List AV)) : Prop := ∀ r ∈ es, ∀ x ∈ r, isCD x = true
theorem DCl.b {es : List (List AV)} (h : es.all (fun r => r.all isCD) = true) : DCl es := fun r hr x hx => List.all_eq_true.1 (List.all_eq_true.1 h r hr) x hx
theorem DCl.map {α : Type} {en : α → List AV} (h : ∀ a, (en a).all isCD = true) {l : List α} : DCl (l.map en) := fun r hr x hx => by
  obtain ⟨a, _, rfl⟩ := List.mem_map.1 hr
  exact List.all_eq_true.1 (h a) x hx
theorem DCl.rep {n : Nat} {z : List AV} (h : z.all isCD = true) : DCl (List.replicate n z) := fun r hr x hx => by
  obtain ⟨_, rfl⟩ := List.mem_replicate.1 hr
  exact List.all_eq_true.1 h x hx
theorem isCD_clo {x : AV} (h : isCD x = true) : CloC x := by
  cases x <;> first | exact (clo_c _).c | exact CloC.dp | cases h
theorem isCD_pur {x : AV} (h : isCD x = true) : PurC x := by
  cases x <;> first | exact (Pur.c _).cc | exact PurC.dp | cases h
theorem undpR_length {es : List (List AV)} : (undpR es).length = es.length := by simp [undpR]
theorem undpR_get {es : List (List AV)} {i : Nat} {r : List AV} (h : (undpR es)[i]? = some r) : ∃ r0, es[i]? = some r0 ∧ r = r0.map undp := by
  unfold undpR at h
  rw [List.getElem?_map] at h
  cases hq : es[i]? with
  | none => rw [hq] at h; cases h
  | some r0 => rw [hq] at h; exact ⟨r0, rfl, (Option.some.inj h).symm⟩
theorem map_get_of {f : AV → AV} {r : List AV} {j : Nat} {x : AV} (h : (r.map f)[j]? = some x) : ∃ y, r[j]? = some y ∧ x = f y := by
  rw [List.getElem?_map] at h
  cases hq : r[j]? with
  | none => rw [hq] at h; cases h
  | some y => rw [hq] at h; exact ⟨y, rfl, (Option.some.inj h).symm⟩

section
variable {P : Program} {E : Env} {tm : List AV} {M : Mem} {o : Oper} {w w0 : World} {Fx : Nat → Prop} {β : List Hd} {base : Nat} {G : List (Option Nat)}
theorem own_more {b : Nat} {e : TypeId} {size : Nat} {v : Value} {n : Nat} {xs : List Value} (h : w.ownsRow b e size v n xs) (hle : ∀ k, blockOf v = some k → base ≤ k) : w.ownsRow base e size v n xs := by
  obtain ⟨h1, h2⟩ := h
  refine ⟨h1, h2.imp id fun ⟨g, cap, cur, he, hb, hr⟩ => ⟨g, cap, cur, he, hle g (by rw [he]; rfl), hr⟩⟩
theorem RepD.rep {S : Nat → Prop} {x : AV} {u : Value} (h : RepD w S x u) : ∀ {Fc : Nat → Prop}, (∀ k, S k → Fc k) → Rep w Fc [] [] x u := by
  induction h with
  | c x => exact fun _ => .c x
  | is _ ih => exact fun hF => .is (ih hF)
  | @ro S sz es ty u xs pc f ho hk hpc hd hr hx _ ih =>
    intro Fc hF
    have hone : ∀ (i : Nat) (r : List AV) (j : Nat) (x : AV), es[i]? = some r → r[j]? = some x → (if (f i j).oneCell' = true then f i j else .bool false) = f i j := fun i r j x h1 h2 => if_pos (hx i r j x h1 h2).2
    obtain ⟨hx1, ho⟩ := ho
    rcases ho with ⟨rfl, hn⟩ | ⟨g, cap, cur, rfl, hg, hkx, hcap, hm, hsz, htake⟩
    · have e : es = [] := List.length_eq_zero_iff.1 hn
      subst e
      exact Rep.ro (es := []) (fun _ _ => .bool false) (by simp) (by simp) (fun h => absurd h (by simp)) (fun i r hr => by simp at hr) (fun _ _ => rfl) (fun i r j x hr => by simp at hr)
    · refine Rep.ro (fun i j => if (f i j).oneCell' = true then f i j else .bool false) hcap (by unfold maxLen at hm; omega) (fun hpos => ⟨⟨g, 0, none⟩, rfl, hF g (hk g rfl), fun i r j h1 hj => ?_⟩) hr (fun i j => ?_) (fun i r j x h1 h2 => ?_)
      · have hrl := hr i r h1
        have h2 := List.getElem?_eq_getElem (l := r) (i := j) (by omega)
        rw [hone i r j _ h1 h2]
        have hu := (hx i r j _ h1 h2).1
        rw [Addr.add_mid, Nat.zero_add, cell_of_row w g _ cur ty (0, 0) hkx]
        rw [← htake, List.getElem?_take] at hu
        split at hu
        · simpa using hu
        · cases hu
      · split
        · assumption
        · rfl
      · rw [hone i r j x h1 h2]
        exact ih i r j x h1 h2 fun k hp => hF k (hpc i j k hp).1
theorem BlkOk.tree {b : Blk} {h : Hd} (hk : BlkOk w Fx β G base b h) (hb : b.box = false) (hc : DCl b.es) : RepD w h.has (.ro b.sz (undpR b.es)) h.v := by
  obtain ⟨h1, h2⟩ := hk
  rw [hb] at h2
  obtain ⟨xs, ho, c1, c2, pc, c3, c4, c5⟩ := h2
  have ho' : w.ownsRow 0 b.ty b.sz h.v (undpR b.es).length xs := by rw [undpR_length]; exact own_less ho (Nat.zero_le _)
  refine .ro pc (fun i j => (xs[i * b.sz + j]?).getD undef) ho' (fun k hk => .inl hk) (fun i j k hp => ⟨.inr (c3 i j k hp).1, (c3 i j k hp).2⟩) c4 (fun i r hr => ?_) (fun i r j x hr hx => ?_) (fun i r j x hr hx => ?_)
  · obtain ⟨r0, hr0, rfl⟩ := undpR_get hr
    rw [List.length_map]
    exact (c2 i r0 hr0).1
  · obtain ⟨r0, hr0, rfl⟩ := undpR_get hr
    obtain ⟨x0, hx0, rfl⟩ := map_get_of hx
    obtain ⟨u, hu, h1, _⟩ := (c2 i r0 hr0).2 j x0 hx0
    rw [hu]
    exact ⟨rfl, h1⟩
  · obtain ⟨r0, hr0, rfl⟩ := undpR_get hr
    obtain ⟨x0, hx0, rfl⟩ := map_get_of hx
    have hcd := hc r0 (List.mem_of_getElem? hr0) x0 (List.mem_of_getElem? hx0)
    obtain ⟨u, hu, _, hR⟩ := (c2 i r0 hr0).2 j x0 hx0
    cases x0 with
    | c v =>
      obtain rfl := (hR rfl).c_inv
      rw [hu]
      exact .c _
    | dp d =>
      obtain ⟨u', hu', hD⟩ := c5 i r0 j d hr0 hx0
      rw [hu']
      exact hD.strip
    | _ => cases hcd

def Gh (M1 M2 : Mem) : Prop := ∀ base w0 w Fx β, HS base w0 w Fx β M1 → ∃ β', HS base w0 w Fx β' M2 ∧ Mv w Fx β (gens M1) w Fx β' (gens M2) ∧
  ∀ (id : Nat) b (v : Hd) k, M2[id]? = some (some b) → β'[id]? = some v → v.has k → ∃ (id' : Nat) (b' : Blk) (v' : Hd), M1[id']? = some (some b') ∧ β[id']? = some v' ∧ v'.has k
def GhE (M1 : Mem) (M2 : TypeId → Mem) : Prop := ∀ base w0 w Fx β, HS base w0 w Fx β M1 → ∃ ty β', HS base w0 w Fx β' (M2 ty) ∧ Mv w Fx β (gens M1) w Fx β' (gens (M2 ty)) ∧
  ∀ (id : Nat) b (v : Hd) k, (M2 ty)[id]? = some (some b) → β'[id]? = some v → v.has k → ∃ (id' : Nat) (b' : Blk) (v' : Hd), M1[id']? = some (some b') ∧ β[id']? = some v' ∧ v'.has k
theorem Gh.refl : Gh M M := fun base w0 w Fx β hh => ⟨β, hh, Mv.refl, fun id b v k h1 h2 h3 => ⟨id, b, v, h1, h2, h3⟩⟩
theorem Gh.trans {M1 M2 M3 : Mem} (h : Gh M1 M2) (k : Gh M2 M3) : Gh M1 M3 := fun base w0 w Fx β hh => by
  obtain ⟨β1, h1, m1, o1⟩ := h base w0 w Fx β hh
  obtain ⟨β2, h2, m2, o2⟩ := k base w0 w Fx β1 h1
  refine ⟨β2, h2, m1.trans m2, fun id b v k g1 g2 g3 => ?_⟩
  obtain ⟨id', b', v', g4, g5, g6⟩ := o2 id b v k g1 g2 g3
  exact o1 id' b' v' k g4 g5 g6
theorem Sim.ghE {a : Act} {M2 : TypeId → Mem} (hg : GhE M M2) (h : Sim E tm M a w) : ∃ ty, Sim E tm (M2 ty) a w := by
  obtain ⟨hd, Fx, β, hh, ho, hsl⟩ := h
  obtain ⟨ty, β', hh', m, own⟩ := hg _ _ _ _ _ hh
  refine ⟨ty, hd, Fx, β', hh', ⟨ho.mv.trans m, ho.size, ho.lim, fun id b v k h1 h2 h3 => ?_⟩, hsl.mv m⟩
  obtain ⟨id', b', v', g1, g2, g3⟩ := own id b v k h1 h2 h3
  exact ho.own id' b' v' k g1 g2 g3
theorem Gh.toE {M2 : Mem} (h : Gh M M2) : GhE M (fun _ => M2) := fun base w0 w Fx β hh => by
  obtain ⟨β', h1⟩ := h base w0 w Fx β hh
  exact ⟨0, β', h1⟩
theorem Sim.gh {a : Act} {M2 : Mem} (hg : Gh M M2) (h : Sim E tm M a w) : Sim E tm M2 a w := by
  obtain ⟨_, h⟩ := h.ghE hg.toE
  exact h
theorem AW.gh {c : Code} {Qx : XPost} {M2 : Mem} (hg : Gh M M2) (h : AW P c E tm M2 Qx) : AW P c E tm M Qx := fun a w Q hs k => h a w Q (hs.gh hg) k
theorem POp.gh {r : AV} {M1 M2 : Mem} (h : POp P o E tm M r M1) (hg : Gh M1 M2) : POp P o E tm M r M2 := by
  intro a w K Q Fx β hh hsl hk
  refine h a w K Q Fx β hh hsl fun v w' Fx' β' hh' hx hr => ?_
  obtain ⟨β2, hh2, m, own⟩ := hg _ _ _ _ _ hh'
  refine hk v w' Fx' β2 hh2 ⟨hx.mv.trans m, hx.size, hx.lim, fun id b v k h1 h2 h3 => ?_⟩ (hr.mv m)
  obtain ⟨id', b', v', g1, g2, g3⟩ := own id b v k h1 h2 h3
  exact hx.own id' b' v' k g1 g2 g3

theorem set_get {α : Type} {l : List α} {i j : Nat} {x y : α} (h : (l.set i x)[j]? = some y) : (j = i ∧ y = x ∧ i < l.length) ∨ (j ≠ i ∧ l[j]? = some y) := by
  rw [List.getElem?_set] at h
  by_cases e : i = j
  · subst e
    rw [if_pos rfl] at h
    split at h
    · rename_i hlt
      exact .inl ⟨rfl, (Option.some.inj h).symm, hlt⟩
    · cases h
  · rw [if_neg e] at h
    exact .inr ⟨fun h => e h.symm, h⟩
theorem CellsD.absorb {pv S : Nat → Prop} {hb : Option Nat} {sz : Nat} {es : List (List AV)} {xs : List Value} (h : CellsD w Fx β G pv hb sz es xs) {i j : Nat} {r : List AV} {y d : AV} (hr : es[i]? = some r) (hj : r[j]? = some y)
    (hS : ∀ k, S k → ¬ pv k ∧ hb ≠ some k) (hD : ∀ u, xs[i * sz + j]? = some u → RepD w S d u) : CellsD w Fx β G (fun k => pv k ∨ S k) hb sz (es.set i (r.set j (.dp d))) xs := by
  obtain ⟨h1, h2, pc, h3, h4, h5⟩ := h
  have hil : i < es.length := (List.getElem?_eq_some_iff.1 hr).1
  refine ⟨by rw [h1, List.length_set], fun i' r' hr' => ?_, fun i' j' k => (i' = i ∧ j' = j ∧ S k) ∨ (¬ (i' = i ∧ j' = j) ∧ pc i' j' k), fun i' j' k hp => ?_, fun i1 j1 i2 j2 k hp hq => ?_, fun i' r' j' d' hr' hd => ?_⟩
  · rcases set_get hr' with ⟨rfl, rfl, _⟩ | ⟨hne, hr0⟩
    · refine ⟨by rw [List.length_set]; exact (h2 _ r hr).1, fun j' x hx => ?_⟩
      rcases set_get hx with ⟨rfl, rfl, _⟩ | ⟨hne, hx0⟩
      · obtain ⟨u, hu, ho, _⟩ := (h2 _ r hr).2 _ y hj
        exact ⟨u, hu, ho, fun h => by cases h⟩
      · exact (h2 _ r hr).2 _ x hx0
    · exact h2 i' r' hr0
  · rcases hp with ⟨_, _, hp⟩ | ⟨_, hp⟩
    · exact ⟨.inr hp, (hS k hp).2⟩
    · exact ⟨.inl (h3 _ _ k hp).1, (h3 _ _ k hp).2⟩
  · rcases hp with ⟨rfl, rfl, hp⟩ | ⟨n1, hp⟩ <;> rcases hq with ⟨rfl, rfl, hq⟩ | ⟨n2, hq⟩
    · exact ⟨rfl, rfl⟩
    · exact absurd (h3 _ _ k hq).1 (hS k hp).1
    · exact absurd (h3 _ _ k hp).1 (hS k hq).1
    · exact h4 _ _ _ _ k hp hq
  · have sub : ∀ {k : Nat}, pc i' j' k → ¬ (i' = i ∧ j' = j) → (i' = i ∧ j' = j ∧ S k) ∨ (¬ (i' = i ∧ j' = j) ∧ pc i' j' k) := fun h hn => .inr ⟨hn, h⟩
    rcases set_get hr' with ⟨rfl, rfl, _⟩ | ⟨hne, hr0⟩
    · rcases set_get hd with ⟨rfl, e, _⟩ | ⟨hne, hx0⟩
      · cases e
        obtain ⟨u, hu, _, _⟩ := (h2 _ r hr).2 _ y hj
        exact ⟨u, hu, (hD u hu).mono fun k hk => .inl ⟨rfl, rfl, hk⟩⟩
      · obtain ⟨u, hu, hR⟩ := h5 _ r _ d' hr hx0
        exact ⟨u, hu, hR.mono fun k hk => sub hk fun h => hne h.2⟩
    · obtain ⟨u, hu, hR⟩ := h5 _ r' _ d' hr0 hd
      exact ⟨u, hu, hR.mono fun k hk => sub hk fun h => hne h.1⟩
theorem BlkOk.open {b : Blk} {h : Hd} (hk : BlkOk w Fx β G base b h) : ∃ xs, CellsD w Fx β G h.pv (blockOf h.v) b.sz b.es xs ∧ ∀ (b' : Blk) (h' : Hd) (β' : List Hd) (G' : List (Option Nat)), h'.v = h.v → b'.ty = b.ty → b'.sz = b.sz → b'.box = b.box → b'.es.length = b.es.length → (∀ k, h'.has k → base ≤ k ∧ k < w.heap.size ∧ ¬ Fx k) →
    CellsD w Fx β' G' h'.pv (blockOf h.v) b.sz b'.es xs → BlkOk w Fx β' G' base b' h' := by
  obtain ⟨_, h2⟩ := hk
  cases hb : b.box with
  | true =>
    rw [hb] at h2
    obtain ⟨k, xs, a1, a2, a3, a4⟩ := h2
    refine ⟨_, a4, fun b' h' β' G' hv hty hsz hbx hl h1 hc => ⟨h1, ?_⟩⟩
    rw [hbx, hv, hty, hsz, hl]
    exact ⟨k, xs, a1, a2, a3, hc⟩
  | false =>
    rw [hb] at h2
    obtain ⟨xs, a1, a2⟩ := h2
    refine ⟨_, a2, fun b' h' β' G' hv hty hsz hbx hl h1 hc => ⟨h1, ?_⟩⟩
    rw [hbx, hv, hty, hsz, hl]
    exact ⟨xs, a1, hc⟩
theorem Gh.absorb {q id i j g : Nat} {bo b : Blk} {r : List AV} (ho : M[q]? = some (some bo)) (hM : M[id]? = some (some b)) (hne : Nat.beq q id = false) (hr : bo.es[i]? = some r) (hc : r[j]? = some (.own id g)) (hg : b.gen = g) (hb : b.box = false) (hd : DCl b.es) :
    Gh M ((M.set q (some { bo with es := bo.es.set i (r.set j (.dp (.ro b.sz (undpR b.es)))) })).set id none) := by
  intro base w0 w Fx β hh
  have hne : q ≠ id := fun e => by rw [e] at hne; simp at hne
  obtain ⟨vo, hvo, hoko⟩ := hh.blk q bo ho
  obtain ⟨vi, hvi, hoki⟩ := hh.blk id b hM
  have tree := hoki.tree hb hd
  have hql : q < M.length := (List.getElem?_eq_some_iff.1 ho).1
  have up : ∀ {p : Nat} {b1 : Blk}, ((M.set q (some { bo with es := bo.es.set i (r.set j (.dp (.ro b.sz (undpR b.es)))) })).set id none)[p]? = some (some b1) → p ≠ id ∧ ((p = q ∧ b1 = { bo with es := bo.es.set i (r.set j (.dp (.ro b.sz (undpR b.es)))) }) ∨ (p ≠ q ∧ M[p]? = some (some b1))) := fun {p b1} h => by
    rcases set_get h with ⟨_, e, _⟩ | ⟨n1, h⟩
    · cases e
    · refine ⟨n1, ?_⟩
      rcases set_get h with ⟨e, e2, _⟩ | ⟨n2, h⟩
      · exact .inl ⟨e, Option.some.inj e2⟩
      · exact .inr ⟨n2, h⟩
  have hself : (β.set q ⟨vo.v, fun k => vo.pv k ∨ vi.has k⟩)[q]? = some ⟨vo.v, fun k => vo.pv k ∨ vi.has k⟩ := by simp [hh.len, hql]
  have oth : ∀ {p : Nat}, p ≠ q → (β.set q ⟨vo.v, fun k => vo.pv k ∨ vi.has k⟩)[p]? = β[p]? := fun h => by rw [List.getElem?_set, if_neg (Ne.symm h)]
  have has' : ∀ {k : Nat}, (⟨vo.v, fun k => vo.pv k ∨ vi.has k⟩ : Hd).has k → vo.has k ∨ vi.has k := fun h => h.elim (fun h => .inl (.inl h)) (fun h => h.elim (fun h => .inl (.inr h)) .inr)
  have m : Mv w Fx β (gens M) w Fx (β.set q ⟨vo.v, fun k => vo.pv k ∨ vi.has k⟩) (gens ((M.set q (some { bo with es := bo.es.set i (r.set j (.dp (.ro b.sz (undpR b.es)))) })).set id none)) := ⟨fun _ h => h, fun _ _ => rfl, by simp [gens_length], fun p g' hp hg' => by
    obtain ⟨b1, hb1, rfl⟩ := gens_get hg'
    obtain ⟨n1, ⟨rfl, rfl⟩ | ⟨n2, h2⟩⟩ := up hb1
    · refine ⟨bo.gen, gens_of ho, Nat.le_refl _, fun _ => ?_⟩
      rw [hself, hvo]
      rfl
    · exact ⟨b1.gen, gens_of h2, Nat.le_refl _, fun _ => hd_eq (oth n2)⟩⟩
  refine ⟨β.set q ⟨vo.v, fun k => vo.pv k ∨ vi.has k⟩, ⟨hh.bel, hh.bs, hh.fx, by simp [hh.len], fun p b1 h1 => ?_, fun p1 p2 b1 b2 v1 v2 k hne2 h1 h2 hv1 hv2 hk1 hk2 => ?_⟩, m, fun p b1 v k h1 hv hk => ?_⟩
  · obtain ⟨n1, ⟨rfl, rfl⟩ | ⟨n2, h2⟩⟩ := up h1
    · obtain ⟨xs, hcd, mk⟩ := hoko.open
      refine ⟨_, hself, mk _ ⟨vo.v, fun k => vo.pv k ∨ vi.has k⟩ _ _ rfl rfl rfl rfl (by simp) (fun k hk => ?_) ?_⟩
      · rcases has' hk with hk | hk
        · exact hoko.1 k hk
        · exact hoki.1 k hk
      · have := hcd.absorb (S := vi.has) (d := .ro b.sz (undpR b.es)) hr hc (fun k hk => ⟨fun hp => hh.inj _ _ _ _ _ _ k hne ho hM hvo hvi (.inr hp) hk, fun he => hh.inj _ _ _ _ _ _ k hne ho hM hvo hvi (.inl he) hk⟩) (fun u hu => by
          obtain ⟨u', hu', _, hR⟩ := (hcd.cel i r hr).2 j _ hc
          rw [hu] at hu'
          obtain rfl := Option.some.inj hu'
          cases hR rfl with
          | own _ _ _ h =>
            obtain ⟨hd0, h3, rfl⟩ := h (by rw [← hg]; exact gens_of hM)
            rw [hvi] at h3
            obtain rfl := Option.some.inj h3
            exact tree)
        exact this.mv m fun _ _ _ => rfl
    · obtain ⟨v, hv, hok⟩ := hh.blk p b1 h2
      exact ⟨v, (oth n2).trans hv, hok.mv m (Nat.le_refl _) (fun _ _ => rfl) (fun k hk => (hok.1 k hk).2.2)⟩
  · obtain ⟨n1, c1⟩ := up h1
    obtain ⟨n2, c2⟩ := up h2
    rcases c1 with ⟨rfl, rfl⟩ | ⟨m1, c1⟩ <;> rcases c2 with ⟨rfl, rfl⟩ | ⟨m2, c2⟩
    · exact hne2 rfl
    · rw [hself] at hv1
      obtain rfl := Option.some.inj hv1
      rw [oth m2] at hv2
      rcases has' hk1 with h | h
      · exact hh.inj _ _ _ _ _ _ k (Ne.symm m2) ho c2 hvo hv2 h hk2
      · exact hh.inj _ _ _ _ _ _ k (Ne.symm n2) hM c2 hvi hv2 h hk2
    · rw [hself] at hv2
      obtain rfl := Option.some.inj hv2
      rw [oth m1] at hv1
      rcases has' hk2 with h | h
      · exact hh.inj _ _ _ _ _ _ k (Ne.symm m1) ho c1 hvo hv1 h hk1
      · exact hh.inj _ _ _ _ _ _ k (Ne.symm n1) hM c1 hvi hv1 h hk1
    · rw [oth m1] at hv1
      rw [oth m2] at hv2
      exact hh.inj _ _ _ _ _ _ k hne2 c1 c2 hv1 hv2 hk1 hk2
  · obtain ⟨n1, ⟨rfl, rfl⟩ | ⟨n2, h2⟩⟩ := up h1
    · rw [hself] at hv
      obtain rfl := Option.some.inj hv
      rcases has' hk with h | h
      · exact ⟨_, bo, vo, ho, hvo, h⟩
      · exact ⟨id, b, vi, hM, hvi, h⟩
    · exact ⟨p, b1, v, h2, (oth n2).symm.trans hv, hk⟩
end
end Go.Proofs.YtpffahmmklpifaaGreat.Abs
