/- Part E of the walk over abstract states and of the functions' walks. -/
import Derived.Test.YtacbpfbelcdeiaaGreatWkStep
import Derived.Test.YtacbpfbelcdeiaaGreatBnD
import Derived.Test.YtacbpfbelcdeiaaGreatBnC
import Derived.Test.YtacbpfbelcdeiaaGreatWkMark
/- The walks of StepTake. -/
namespace Go.Proofs.YtacbpfbelcdeiaaGreat.Abs
open Go.Proofs Go.RowKit
set_option linter.unusedVariables false
set_option linter.unusedSimpArgs false
set_option maxRecDepth 100000
set_option maxHeartbeats 2000000
attribute [local irreducible] OpA AL AW DL DLM DLR DLS QOp POp VCalls VCallsI
section
variable {w w0 : World} {Fx : Nat → Prop} {β β' : List Hd} {G G' : List (Option Nat)} {M : Mem} {base : Nat}
theorem CellsD.reset {pv : Nat → Prop} {hb : Option Nat} {sz : Nat} {es : List (List AV)} {xs : List Value} (h : CellsD w Fx β G pv hb sz es xs) {i j : Nat} {r : List AV} {y y' : AV} (hr : es[i]? = some r) (hj : r[j]? = some y) (hyn : nodp y = true) (hn : nodp y' = true)
    (hy : ∀ u, Rep w Fx β G y u → Rep w Fx β' G' y' u) (m : Mv w Fx β G w Fx β' G') : CellsD w Fx β' G' pv hb sz (es.set i (r.set j y')) xs := by
  have hcel := h.cel
  obtain ⟨h1, h2, pc, h3, h4, h5⟩ := h.mv m (fun _ _ _ => rfl)
  refine ⟨by rw [h1, List.length_set], fun i' r' hr' => ?_, pc, h3, h4, fun i' r' j' d' hr' hd => ?_⟩
  · rcases set_get hr' with ⟨rfl, rfl, _⟩ | ⟨hne, hr0⟩
    · refine ⟨by rw [List.length_set]; exact (h2 _ r hr).1, fun j' x hx => ?_⟩
      rcases set_get hx with ⟨rfl, rfl, _⟩ | ⟨hne, hx0⟩
      · obtain ⟨u, hu, ho, hR⟩ := (hcel _ r hr).2 _ y hj
        exact ⟨u, hu, ho, fun _ => hy u (hR hyn)⟩
      · exact (h2 _ r hr).2 _ x hx0
    · exact h2 i' r' hr0
  · rcases set_get hr' with ⟨rfl, rfl, _⟩ | ⟨hne, hr0⟩
    · rcases set_get hd with ⟨rfl, e, _⟩ | ⟨hne, hx0⟩
      · rw [← e] at hn
        cases hn
      · exact h5 _ r _ d' hr hx0
    · exact h5 i' r' j' d' hr0 hd
theorem Gh.reown {q id id2 i j g2 : Nat} {bo b b2 : Blk} {r : List AV} (ho : M[q]? = some (some bo)) (hM : M[id]? = some (some b)) (hM2 : M[id2]? = some (some b2)) (hq : Nat.beq q id = false) (hq2 : Nat.beq q id2 = false) (hne : Nat.beq id id2 = false) (hr : bo.es[i]? = some r) (hc : r[j]? = some (.own id2 g2)) (hg : b2.gen = g2) (hd : DCl b2.es) :
    Gh M (((M.set id2 none).set id (some { b2 with gen := b.gen + 1 })).set q (some { bo with es := bo.es.set i (r.set j (.own id (b.gen + 1))) })) := by
  intro base w0 w Fx β hh
  have hq := Nat.ne_of_beq_eq_false hq
  have hq2 := Nat.ne_of_beq_eq_false hq2
  have hne := Nat.ne_of_beq_eq_false hne
  obtain ⟨vo, hvo, hoko⟩ := hh.blk q bo ho
  obtain ⟨u, hu, hok⟩ := hh.blk id b hM
  obtain ⟨u2, hu2, hok2⟩ := hh.blk id2 b2 hM2
  obtain ⟨M2, hM2e⟩ : ∃ M2, M2 = ((M.set id2 none).set id (some { b2 with gen := b.gen + 1 })).set q (some { bo with es := bo.es.set i (r.set j (.own id (b.gen + 1))) }) := ⟨_, rfl⟩
  rw [← hM2e]
  have hl : M2.length = M.length := by rw [hM2e]; simp
  have hidl : id < M.length := (List.getElem?_eq_some_iff.1 hM).1
  have get : ∀ {p : Nat} {b1 : Blk}, M2[p]? = some (some b1) → (p = q ∧ b1 = { bo with es := bo.es.set i (r.set j (.own id (b.gen + 1))) }) ∨ (p = id ∧ b1 = { b2 with gen := b.gen + 1 }) ∨ (p ≠ q ∧ p ≠ id ∧ p ≠ id2 ∧ M[p]? = some (some b1)) := fun {p b1} h => by
    rw [hM2e] at h
    rcases set_get h with ⟨e, e2, _⟩ | ⟨n1, h⟩
    · exact .inl ⟨e, Option.some.inj e2⟩
    · rcases set_get h with ⟨e, e2, _⟩ | ⟨n2, h⟩
      · exact .inr (.inl ⟨e, Option.some.inj e2⟩)
      · rcases set_get h with ⟨_, e2, _⟩ | ⟨n3, h⟩
        · cases e2
        · exact .inr (.inr ⟨n1, n2, n3, h⟩)
  have bne : ∀ {p : Nat}, p ≠ id → (β.set id u2)[p]? = β[p]? := fun {p} h => by rw [List.getElem?_set, if_neg (Ne.symm h)]
  have bid : (β.set id u2)[id]? = some u2 := by rw [List.getElem?_set, if_pos rfl, if_pos (by rw [hh.len]; exact hidl)]
  have gid : (gens M2)[id]? = some (some (b.gen + 1)) := gens_of (b := { b2 with gen := b.gen + 1 }) (by rw [hM2e, List.getElem?_set, if_neg hq, List.getElem?_set, if_pos rfl, if_pos (by simpa using hidl)])
  have m : Mv w Fx β (gens M) w Fx (β.set id u2) (gens M2) := ⟨fun _ h => h, fun _ _ => rfl, by rw [gens_length, gens_length, hl]; exact Nat.le_refl _, fun p g' _ hg' => by
    obtain ⟨b1, hb1, rfl⟩ := gens_get hg'
    rcases get hb1 with ⟨rfl, rfl⟩ | ⟨rfl, rfl⟩ | ⟨n1, n2, n3, h1⟩
    · exact ⟨bo.gen, gens_of ho, Nat.le_refl _, fun _ => by rw [bne hq]⟩
    · exact ⟨b.gen, gens_of hM, Nat.le_succ _, fun e => absurd e (Nat.ne_of_lt (Nat.lt_succ_self _))⟩
    · exact ⟨b1.gen, gens_of h1, Nat.le_refl _, fun _ => by rw [bne n2]⟩⟩
  have old : ∀ {p : Nat} {b1 : Blk} {v : Hd}, M2[p]? = some (some b1) → (β.set id u2)[p]? = some v → ∃ (p' : Nat) (b' : Blk), M[p']? = some (some b') ∧ β[p']? = some v ∧ ((p = id ∧ p' = id2) ∨ (p ≠ id ∧ p ≠ id2 ∧ p' = p)) := fun {p b1 v} h hv => by
    rcases get h with ⟨rfl, rfl⟩ | ⟨rfl, rfl⟩ | ⟨n1, n2, n3, h1⟩
    · exact ⟨p, bo, ho, by rw [← bne hq]; exact hv, .inr ⟨hq, hq2, rfl⟩⟩
    · rw [bid] at hv
      exact ⟨id2, b2, hM2, hu2.trans hv, .inl ⟨rfl, rfl⟩⟩
    · exact ⟨p, b1, h1, by rw [← bne n2]; exact hv, .inr ⟨n2, n3, rfl⟩⟩
  refine ⟨β.set id u2, ⟨hh.bel, hh.bs, hh.fx, by rw [List.length_set, hl]; exact hh.len, fun p b1 h1 => ?_, fun i1 i2 b1 c2 v1 v2 k hne2 h1 h2 hv1 hv2 hk1 hk2 => ?_⟩, m, fun p b1 v k h1 hv hk => ?_⟩
  · rcases get h1 with ⟨rfl, rfl⟩ | ⟨rfl, rfl⟩ | ⟨n1, n2, n3, h1⟩
    · obtain ⟨xs, hcd, mk⟩ := hoko.open
      refine ⟨vo, by rw [bne hq]; exact hvo, mk _ vo _ _ rfl rfl rfl rfl (by simp) hoko.1 (hcd.reset hr hc rfl rfl (fun x hx => ?_) m)⟩
      cases hx with
      | own ho1 hi hg1 h =>
        obtain ⟨hd1, e1, e2⟩ := h (by rw [← hg]; exact gens_of hM2)
        rw [hu2] at e1
        obtain rfl := Option.some.inj e1
        exact .own ho1 (by rw [gens_length, hl]; exact hidl) (fun g' hg' => by rw [gid] at hg'; simp at hg'; omega) (fun _ => ⟨_, bid, e2⟩)
    · exact ⟨u2, bid, hok2.clo hd rfl fun k hk => ⟨(hok2.1 k hk).1, (hok2.1 k hk).2.2⟩⟩
    · obtain ⟨v, hv, hk⟩ := hh.blk p b1 h1
      exact ⟨v, by rw [bne n2]; exact hv, hk.mv m (Nat.le_refl _) (fun _ _ => rfl) (fun k hk' => (hk.1 k hk').2.2)⟩
  · obtain ⟨p1, c1, a1, a2, a3⟩ := old h1 hv1
    obtain ⟨p2, d1, b1', b2', b3⟩ := old h2 hv2
    refine hh.inj p1 p2 _ _ _ _ k (fun e => ?_) a1 b1' a2 b2' hk1 hk2
    rcases a3 with ⟨x1, x2⟩ | ⟨x1, x2, x3⟩ <;> rcases b3 with ⟨y1, y2⟩ | ⟨y1, y2, y3⟩
    · exact hne2 (x1.trans y1.symm)
    · exact y2 (by rw [← y3, ← e, x2])
    · exact x2 (by rw [← x3, e, y2])
    · exact hne2 (by rw [← x3, ← y3, e])
  · obtain ⟨p', b', a1, a2, _⟩ := old h1 hv
    exact ⟨p', b', v, a1, a2, hk⟩
end

theorem fitsM_b {n : Nat} {b : Blk} {M : Mem} (h : ∀ r ∈ b.es, ∀ x ∈ r, Fits n x) (hm : FitsM n M) : FitsM n (some b :: M) := fun b' hb r hr x hx => by
  rcases List.mem_cons.1 hb with e | e
  · obtain rfl := Option.some.inj e
    exact h r hr x hx
  · exact hm b' e r hr x hx
theorem one_row {p : AV → Prop} {r0 : List AV} (h : ∀ x ∈ r0, p x) : ∀ r ∈ [r0], ∀ x ∈ r, p x := fun r hr => by rw [List.mem_singleton.1 hr]; exact h
theorem takeF_i (e : TEntry) (k : Int) : VCalls Tryz.prog 100 [.agg e.en, .rop 1 [[I k]] 0 0] (fun r M => r = B (e.feature.id == k) ∧ M = []) := by
  refine VB Tryz.func100 7 (fun E hE => ?_)
  dsimp only [TEntry.en]
  repeat' ((first
    | (refine iAL ?_; first | refine AL.any ?_ | refine AL.nil ?_)
    | (refine iAW ?_; first | (refine AW.c0 ?_; constructor))) <;> (try dsimp only))
  all_goals exact Fin.one rfl (RV.tmp (by rfl)) (clo_c _) ⟨by rfl, rfl⟩

theorem indexE_i (l : List TEntry) (k : Int) (hl : l.length ≤ 1048576) : VCalls Tryz.prog 99 [.ro 8 (l.map TEntry.en), .fn 100 [.rop 1 [[I k]] 0 0]] (fun r M => r = I (fnd (l.map TEntry.feature) k) ∧ M = []) := by
  refine VB Tryz.func99 17 (fun E hE => ?_)
  have hclo : Clo (.ro 8 (l.map TEntry.en)) := clo_list TEntry.clo_en
  have hcr : Clo (.rop 1 [[I k]] 0 0) := Clo.rop (clo_rows_b rfl)
  have hcf : Clo (.fn 100 [.rop 1 [[I k]] 0 0]) := Clo.fn (fun y hy => by rw [List.mem_singleton.1 hy]; exact Clo.rop (clo_rows_b rfl))
  repeat' ((first
    | (refine iAL ?_; first | refine AL.any ?_ | refine AL.nil ?_)
    | (refine iAW ?_; first | (refine AW.c0 ?_; constructor) | refine AW.cT ?_ | refine AW.cF ?_ | (refine AW.c2 ?_ ?_ <;> (intro h; try simp only [bT, bF] at h)))
    | refine AL.any (h := POp.kc Tryz.func100 (hc := takeF_i x k)) ?_
    | (refine AW.loopD hE (fun i : Nat => [.ro 8 (l.map TEntry.en), .fn 100 [.rop 1 [[I k]] 0 0], .any, .any, .any, .any, .any, I ((l.map TEntry.en).length : Int), I (i : Int), .any, .any, .any, .any, .any, .any, .any, .any, .any, .any]) (fun i => []) (fun i => l.length - i) (fun i => i ≤ l.length ∧ fndTo (l.map TEntry.feature) k i = true) 0 (by simp [fndTo]) ?_ (by first | rfl | (simp [fil_zero]; done)) ?_
       (focus (exact wkI))
       intro i hi
       by_cases hlt : i < l.length
       case' pos =>
         have hP := True.intro
         obtain ⟨x, hx⟩ : ∃ x, l[i]? = some x := ⟨_, List.getElem?_eq_getElem hlt⟩
         have hg := map_get (f := TEntry.en) hx
         have ht := lt_true (f := TEntry.en) hlt
         have hn := next_ix hlt (by omega)
         have hxf : (l.map TEntry.feature)[i]? = some x.feature := by rw [List.getElem?_map, hx]; rfl
         have hsu := fndTo_succ (k := k) hxf
         have hfs := fnd_some (k := k) hxf
         have hcle : Clo (.agg x.en) := Clo.agg x.clo_en
         have hclP : Clo (.ro 2 (x.feature.points.map TPoint.en)) := clo_list TPoint.clo_en
       case' neg =>
         have hQ := True.intro
         have ht := lt_false (f := TEntry.en) hlt
         have e : i = l.length := by omega
         subst e
         try rw [List.take_length])
    | with_reducible refine ifP ?_
    | with_reducible refine ifN ?_) <;> (try dsimp only))
  all_goals first
    | (have _ := hP; (refine ⟨i + 1, _, ⟨hlt, by simp_all⟩, by omega, ?_, rfl, ?_, ?_⟩; (focus (exact wkN)); (focus (exact fitsA)); (focus (exact FitsM.nil _))))
    | (have _ := hP; exact Fin.one rfl (RV.tmp (by rfl)) (clo_c _) ⟨by rw [hfs (by assumption) hi.2], rfl⟩)
    | (have _ := hQ; exact Fin.one rfl (RV.tmp (by rfl)) (clo_c _) ⟨by rw [fnd_none (by simpa using hi.2)], rfl⟩)

theorem indexE_iR {v : Int} (l : List TEntry) (k : Int) (hl : l.length ≤ 1048576) (hv : fnd (l.map TEntry.feature) k = v) : VCalls Tryz.prog 99 [.ro 8 (l.map TEntry.en), .fn 100 [.rop 1 [[I k]] 0 0]] (fun r M => r = I v ∧ M = []) := hv ▸ indexE_i l k hl
theorem tk_i (a : TAtlas) (hgd : a.gd) (id who : Int) : VCalls Tryz.prog 47 [.agg a.en, I id, I who] (fun r M => r = .tup [.agg (stp a (tkO a id who) (tkK a id who)).eo, B (stpB a (tkO a id who) (tkK a id who))] ∧ M = (stp a (tkO a id who) (tkK a id who)).rw) := by
  refine VB Tryz.func47 36 (fun E hE => ?_)
  have hgs := hgd.gs
  have hclA : Clo (.agg a.en) := Clo.agg a.clo_en
  have hclL : Clo (.ro 8 (a.log.map TEntry.en)) := clo_list TEntry.clo_en
  have hclV : Clo (.ro 3 (a.levels.map TLevel.en)) := clo_list TLevel.clo_en
  have hclE : Clo (.ro 3 (a.editions.map TEdition.en)) := clo_list TEdition.clo_en
  have hclR : Clo (.rop 1 [[I id]] 0 0) := Clo.rop (clo_rows_b rfl)
  have hclG : Clo (.fn 100 [.rop 1 [[I id]] 0 0]) := Clo.fn (fun y hy => by rw [List.mem_singleton.1 hy]; exact Clo.rop (clo_rows_b rfl))
  rcases tk_cases a id who with ⟨hfd, hst⟩ | ⟨k, x, hfd, hx, hc⟩
  rotate_left 1
  have hN := (List.getElem?_eq_some_iff.1 hx).1
  have hg := map_get (f := TEntry.en) hx
  have hk0 : (0 : Int) ≤ ((k : Nat) : Int) := by omega
  have hgx : x.feature.gd := hgd.1.2 x (List.mem_of_getElem? hx)
  have hclx : Clo (.agg x.en) := Clo.agg x.clo_en
  have hclF : Clo (.agg x.feature.en) := Clo.agg x.feature.clo_en
  have hclP : Clo (.ro 2 (x.feature.points.map TPoint.en)) := clo_list TPoint.clo_en
  rcases hc with ⟨hgo, hst⟩ | ⟨hgo, hss, hsb⟩
  have hcd : (decide (((k : Nat) : Int) < 0) || x.gone) = true := by rw [hgo]; simp
  rotate_left 1
  have hcd : (decide (((k : Nat) : Int) < 0) || x.gone) = false := by rw [hgo]; simp
  rotate_left 1
  all_goals try have hkn : decide (((k : Nat) : Int) < 0) = false := by simp
  dsimp only [TAtlas.en]
  repeat' ((first
    | (refine iAL ?_; first | refine AL.any (h := POp.bxf) ?_ | refine AL.any ?_ | refine AL.any (h := POp.O Tryz.func75 (hc := cpA_iX a (by assumption))) ?_ | refine AL.any (h := POp.k Tryz.func99 (hc := indexE_iR a.log id hgd.1.1 hfd)) ?_ | refine AL.U ?_ | refine AL.F ?_ | refine AL.T ?_ | refine AL.W ?_ | refine AL.nil ?_)
    | ((with_reducible show DL ..); first | refine DL.any ?_ | refine DL.any (h := POp.O Tryz.func97 (hc := (show VCalls Tryz.prog 97 [.agg [.ro 8 (a.log.map TEntry.en), .ro 3 (a.levels.map TLevel.en), .ro 3 (a.editions.map TEdition.en), I a.cover.w, I a.cover.h, S a.cover.cells, I a.now], .agg (tkE a x who).en] (fun r M => r = .tup [.agg [.own 0 0, .own 1 0, .own 2 0, I (stp a (logO a (tkE a x who)) (logK a (tkE a x who))).cover.w, I (stp a (logO a (tkE a x who)) (logK a (tkE a x who))).cover.h, S (stp a (logO a (tkE a x who)) (logK a (tkE a x who))).cover.cells, I (stp a (logO a (tkE a x who)) (logK a (tkE a x who))).now], B (stpB a (logO a (tkE a x who)) (logK a (tkE a x who)))] ∧ M = [some ⟨121, 8, 0, false, (stp a (logO a (tkE a x who)) (logK a (tkE a x who))).log.map TEntry.ed⟩, some ⟨97, 3, 0, false, (stp a (logO a (tkE a x who)) (logK a (tkE a x who))).levels.map TLevel.en⟩, some ⟨136, 3, 0, false, (stp a (logO a (tkE a x who)) (logK a (tkE a x who))).editions.map TEdition.ed⟩]) from logged_i a hgd (tkE a x who) hgx))) ?_ | refine DL.nil ?_)
    | ((with_reducible show DLS ..); first | refine DLS.bef ?_ | refine DLS.any ?_ | refine DLS.st ?_ | refine DLS.bef (h := POp.O Tryz.func97 (hc := (show VCalls Tryz.prog 97 [.agg [.ro 8 (a.log.map TEntry.en), .ro 3 (a.levels.map TLevel.en), .ro 3 (a.editions.map TEdition.en), I a.cover.w, I a.cover.h, S a.cover.cells, I a.now], .agg (tkE a x who).en] (fun r M => r = .tup [.agg [.own 0 0, .own 1 0, .own 2 0, I (stp a (logO a (tkE a x who)) (logK a (tkE a x who))).cover.w, I (stp a (logO a (tkE a x who)) (logK a (tkE a x who))).cover.h, S (stp a (logO a (tkE a x who)) (logK a (tkE a x who))).cover.cells, I (stp a (logO a (tkE a x who)) (logK a (tkE a x who))).now], B (stpB a (logO a (tkE a x who)) (logK a (tkE a x who)))] ∧ M = [some ⟨121, 8, 0, false, (stp a (logO a (tkE a x who)) (logK a (tkE a x who))).log.map TEntry.ed⟩, some ⟨97, 3, 0, false, (stp a (logO a (tkE a x who)) (logK a (tkE a x who))).levels.map TLevel.en⟩, some ⟨136, 3, 0, false, (stp a (logO a (tkE a x who)) (logK a (tkE a x who))).editions.map TEdition.ed⟩]) from logged_i a hgd (tkE a x who) hgx))) ?_ | refine DLS.any (h := POp.O Tryz.func97 (hc := (show VCalls Tryz.prog 97 [.agg [.ro 8 (a.log.map TEntry.en), .ro 3 (a.levels.map TLevel.en), .ro 3 (a.editions.map TEdition.en), I a.cover.w, I a.cover.h, S a.cover.cells, I a.now], .agg (tkE a x who).en] (fun r M => r = .tup [.agg [.own 0 0, .own 1 0, .own 2 0, I (stp a (logO a (tkE a x who)) (logK a (tkE a x who))).cover.w, I (stp a (logO a (tkE a x who)) (logK a (tkE a x who))).cover.h, S (stp a (logO a (tkE a x who)) (logK a (tkE a x who))).cover.cells, I (stp a (logO a (tkE a x who)) (logK a (tkE a x who))).now], B (stpB a (logO a (tkE a x who)) (logK a (tkE a x who)))] ∧ M = [some ⟨121, 8, 0, false, (stp a (logO a (tkE a x who)) (logK a (tkE a x who))).log.map TEntry.ed⟩, some ⟨97, 3, 0, false, (stp a (logO a (tkE a x who)) (logK a (tkE a x who))).levels.map TLevel.en⟩, some ⟨136, 3, 0, false, (stp a (logO a (tkE a x who)) (logK a (tkE a x who))).editions.map TEdition.ed⟩]) from logged_i a hgd (tkE a x who) hgx))) (h2 := POp.O Tryz.func97 (hc := (show VCalls Tryz.prog 97 [.agg [.ro 8 (a.log.map TEntry.en), .ro 3 (a.levels.map TLevel.en), .ro 3 (a.editions.map TEdition.en), I a.cover.w, I a.cover.h, S a.cover.cells, I a.now], .agg (tkE a x who).en] (fun r M => r = .tup [.agg [.own 0 0, .own 1 0, .own 2 0, I (stp a (logO a (tkE a x who)) (logK a (tkE a x who))).cover.w, I (stp a (logO a (tkE a x who)) (logK a (tkE a x who))).cover.h, S (stp a (logO a (tkE a x who)) (logK a (tkE a x who))).cover.cells, I (stp a (logO a (tkE a x who)) (logK a (tkE a x who))).now], B (stpB a (logO a (tkE a x who)) (logK a (tkE a x who)))] ∧ M = [some ⟨121, 8, 0, false, (stp a (logO a (tkE a x who)) (logK a (tkE a x who))).log.map TEntry.ed⟩, some ⟨97, 3, 0, false, (stp a (logO a (tkE a x who)) (logK a (tkE a x who))).levels.map TLevel.en⟩, some ⟨136, 3, 0, false, (stp a (logO a (tkE a x who)) (logK a (tkE a x who))).editions.map TEdition.ed⟩]) from logged_i a hgd (tkE a x who) hgx))) ?_ | refine DLS.st (h := POp.O Tryz.func97 (hc := (show VCalls Tryz.prog 97 [.agg [.ro 8 (a.log.map TEntry.en), .ro 3 (a.levels.map TLevel.en), .ro 3 (a.editions.map TEdition.en), I a.cover.w, I a.cover.h, S a.cover.cells, I a.now], .agg (tkE a x who).en] (fun r M => r = .tup [.agg [.own 0 0, .own 1 0, .own 2 0, I (stp a (logO a (tkE a x who)) (logK a (tkE a x who))).cover.w, I (stp a (logO a (tkE a x who)) (logK a (tkE a x who))).cover.h, S (stp a (logO a (tkE a x who)) (logK a (tkE a x who))).cover.cells, I (stp a (logO a (tkE a x who)) (logK a (tkE a x who))).now], B (stpB a (logO a (tkE a x who)) (logK a (tkE a x who)))] ∧ M = [some ⟨121, 8, 0, false, (stp a (logO a (tkE a x who)) (logK a (tkE a x who))).log.map TEntry.ed⟩, some ⟨97, 3, 0, false, (stp a (logO a (tkE a x who)) (logK a (tkE a x who))).levels.map TLevel.en⟩, some ⟨136, 3, 0, false, (stp a (logO a (tkE a x who)) (logK a (tkE a x who))).editions.map TEdition.ed⟩]) from logged_i a hgd (tkE a x who) hgx))) ?_ | refine DLS.nil ?_)
    | (refine iAW ?_; first | (refine AW.c0 ?_; constructor) | (refine' AW.drS (id := 4) 14 11 2047 _ ?_) | refine AW.dr (id := 4) 14 ?_ | refine AW.cT ?_ | refine AW.cF ?_ | (refine AW.c2 ?_ ?_ <;> (intro h; try simp only [bT, bF] at h)))) <;> (try dsimp only))
  all_goals first
    | (rw [hss, hsb]; exact Fin.r2 [3, 4, 5] rfl (RV.cell (QOp.quietA TT_ok (by rfl))) (RV.tmp (by rfl)) ⟨rfl, rfl⟩)
    | (rw [stp_f hst, hst]; exact Fin.r2 [3, 4, 5] rfl (RV.cell (QOp.quietA TT_ok (by rfl))) (RV.tmp (by rfl)) ⟨rfl, rfl⟩)

theorem tk_s (a : TAtlas) (hgd : a.gd) (id who : Int) : VCalls Tryz.prog 46 [.agg a.en, I id, I who] (fun r M => r = .tup [.agg (stp a (tkO a id who) (tkK a id who)).eo, B (stpB a (tkO a id who) (tkK a id who))] ∧ M = (stp a (tkO a id who) (tkK a id who)).rw) := by
  refine VB Tryz.func46 61 (fun E hE => ?_)
  have hl := hgd.1.1
  have hgs := hgd.gs
  have hclA : Clo (.agg a.en) := Clo.agg a.clo_en
  have hclL : Clo (.ro 8 (a.log.map TEntry.en)) := clo_list TEntry.clo_en
  have hclV : Clo (.ro 3 (a.levels.map TLevel.en)) := clo_list TLevel.clo_en
  have hclE : Clo (.ro 3 (a.editions.map TEdition.en)) := clo_list TEdition.clo_en
  dsimp only [TAtlas.en]
  repeat' ((first
    | (refine iAL ?_; first | refine AL.any (h := POp.gh POp.mk (Gh.reown (q := 5) (id := 2) (id2 := 6) (i := 0) (j := 0) rfl rfl rfl rfl rfl rfl rfl rfl rfl (DCl.map (fun _ => rfl)))) ?_ | refine AL.any ?_ | refine AL.any (h := POp.O Tryz.func60 (hc := cpA_sX a (by assumption))) ?_ | refine AL.any (h := POp.G [2, 3, 4] Tryz.func73 (hc := stepped_sX a (tkO a id who) (tkK a id who) hgd (tkO_gd hgd))) ?_ | refine AL.any (h := POp.O Tryz.func94 (hc := take_s a.log (tkE a x who) hgd.1.1 hgd.1.2 hgx)) ?_ | refine AL.any (h := POp.D Tryz.func95 (hc := eqLogs_s a.log (takeE a.log (tkE a x who)) hgd.1.1 (takeE_len hgd.1.1) (fun y hy => (hgd.1.2 y hy).1) (fun y hy => (takeE_all (p := fun z => z.feature.gd) (e := tkE a x who) hgd.1.2 hgx y hy).1))) ?_ | refine AL.U ?_ | refine AL.F ?_ | refine AL.T ?_ | refine AL.W ?_ | refine AL.nil ?_)
    | ((with_reducible show DL ..); first | refine DL.any ?_ | refine DL.nil ?_)
    | (refine iAW ?_; first | (refine AW.c0 ?_; constructor) | refine AW.dr (id := 7) 12 ?_ | refine AW.cT ?_ | refine AW.cF ?_ | (refine AW.c2 ?_ ?_ <;> (intro h; try simp only [bT, bF] at h)))
    | (refine AW.loopD hE (fun i : Nat => [.any, I id, I who, .ref 0 0 7 0 0, .any, .any, .ref 1 0 7 0 0, .any, .ref 5 0 7 0 0, B (spT a id who i).2, I (i : Int), .any, .any, .any, .any, .any, .any, .any, .any, .any, .any, .any, .any, .any, .any, .any, .any, .any, .any, .any, .any, .any, .any, .any, .any, .any, .any, .any, .any, .any, .any, .any, .any, .any, .any, .any, .any, .any, .any, .any, .any, .any, .any, .any, .any, .any, .any, .any, .any, .any, .any, .any, .any, .any]) (fun i => [some ⟨32, 7, 0, true, [[.ro 8 (a.log.map TEntry.en), .ro 3 (a.levels.map TLevel.en), .ro 3 (a.editions.map TEdition.en), I a.cover.w, I a.cover.h, S a.cover.cells, I a.now]]⟩, some ⟨32, 7, 0, true, [[.c (.slice none 0 0), .c (.slice none 0 0), .c (.slice none 0 0), .c (.int .i64 0), .c (.int .i64 0), .c (.string ⟨#[]⟩), .c (.int .i64 0)]]⟩, some ⟨121, 8, gnT a id i, false, (spT a id who i).1.map TEntry.ed⟩, some ⟨97, 3, 0, false, a.levels.map TLevel.en⟩, some ⟨136, 3, 0, false, a.editions.map TEdition.ed⟩, some ⟨32, 7, 0, true, [[.own 2 (gnT a id i), .own 3 0, .own 4 0, I a.cover.w, I a.cover.h, S a.cover.cells, I a.now]]⟩]) (fun i => a.log.length - i) (fun i => i ≤ a.log.length) 0 (by simp) ?_ (by first | rfl | (simp [fil_zero]; done)) ?_
       (focus ((repeat' (first | exact Wk.nil | refine Wk.any ?_ | (with_reducible refine Wk.same ?_) | refine Wk.of ?_ ?_)) <;> first | rfl | (rfl)))
       intro i hi
       by_cases hlt : i < a.log.length
       case' pos =>
         have hP := True.intro
         obtain ⟨x, hx⟩ : ∃ x, a.log[i]? = some x := ⟨_, List.getElem?_eq_getElem hlt⟩
         have hg := map_get (f := TEntry.en) hx
         have ht := lt_true (f := TEntry.en) hlt
         have hn := next_ix hlt (by omega)
         have hgx : x.feature.gd := hgd.1.2 x (List.mem_of_getElem? hx)
         have hclx : Clo (.agg x.en) := Clo.agg x.clo_en
         have hclF : Clo (.agg x.feature.en) := Clo.agg x.feature.clo_en
         have hclP : Clo (.ro 2 (x.feature.points.map TPoint.en)) := clo_list TPoint.clo_en
         rcases Bool.eq_false_or_eq_true ((x.feature.id == id) && !x.gone) with hh | hh
         have hsp := spT_y (who := who) hx hh
         have hgn := gnT_y hx hh
         rotate_left 1
         have hsp := spT_n (who := who) hx hh
         have hgn := gnT_n hx hh
         rotate_left 1
       case' neg =>
         have hQ := True.intro
         have ht := lt_false (f := TEntry.en) hlt
         have e : i = a.log.length := by omega
         subst e
         try rw [List.take_length])
    | with_reducible refine ifP ?_
    | with_reducible refine ifN ?_) <;> (try dsimp only))
  all_goals first
    | (have _ := hP; (refine ⟨i + 1, _, hlt, by omega, ?_, by rw [hsp, hgn] <;> rfl, ?_, ?_⟩; (focus ((repeat' (first | exact Wk.nil | refine Wk.any ?_ | (with_reducible refine Wk.same ?_) | refine Wk.of ?_ ?_)) <;> (first | rfl | (rw [hn]; done) | (rw [hsp] <;> rfl)))); (focus (exact fitsA)); (focus (exact fitsM_cons (clo_one a.clo_en) (fitsM_cons (clo_rows_b rfl) (fitsM_dcl (DCl.map (fun _ => rfl)) (fitsM_cons (clo_rows TLevel.clo_en) (fitsM_dcl (DCl.map (fun _ => rfl)) (fitsM_b (one_row (by (repeat' (first | exact Fits.nil _ | refine Fits.cons ?_ ?_ | exact Fits.any _ | exact Fits.c _ _ | exact Fits.own (by rfl) | exact Fits.ref (by rfl) | exact Fits.clo (by assumption) | exact Fits.clo (clo_of (by rfl)) | exact Fits.clo (clo_fn _))))) (FitsM.nil _))))))))))
    | (have _ := hQ; exact Fin.r2 [6, 7, 8] rfl (RV.cell (QOp.quietA TT_ok (by rfl))) (RV.tmp (by rfl)) ⟨rfl, rfl⟩)

theorem tk_i' (a : TAtlas) (hgd : a.gd) (id who : Int) : VCalls Tryz.prog 47 [.agg a.en, I id, I who] (fun r M => r = .tup [.agg (stp a (tkO a id who) (tkK a id who)).en, B (stpB a (tkO a id who) (tkK a id who))] ∧ M = []) := VCalls.frz (tk_i a hgd id who) (by exact VwL.cons (View.tup' vwlT) VwL.nil)
theorem tk_s' (a : TAtlas) (hgd : a.gd) (id who : Int) : VCalls Tryz.prog 46 [.agg a.en, I id, I who] (fun r M => r = .tup [.agg (stp a (tkO a id who) (tkK a id who)).en, B (stpB a (tkO a id who) (tkK a id who))] ∧ M = []) := VCalls.frz (tk_s a hgd id who) (by exact VwL.cons (View.tup' vwlT) VwL.nil)
end Go.Proofs.YtacbpfbelcdeiaaGreat.Abs

/- Loops that keep some rows alone, numbered anew. -/
namespace Go.Proofs.YtacbpfbelcdeiaaGreat.Abs
open Go.Proofs Go.RowKit
set_option linter.unusedVariables false
set_option linter.unusedSimpArgs false
set_option maxRecDepth 100000
set_option maxHeartbeats 2000000
section
variable {P : Program} {E : Env} {tm tm' : List AV} {M : Mem} {w : World} {a : Act} {ids : List Nat} {x x' : AV}
def RenL (M : Mem) (ids : List Nat) (tm tm' : List AV) : Prop := tm'.length = tm.length ∧ ∀ (i : Nat) x x', tm[i]? = some x → tm'[i]? = some x' → Ren M ids x x'
theorem RenL.nil : RenL M ids [] [] := ⟨rfl, fun i x x' h => by simp at h⟩
theorem RenL.cons (hx : Ren M ids x x') (h : RenL M ids tm tm') : RenL M ids (x :: tm) (x' :: tm') := ⟨by simp [h.1], fun i y y' h1 h2 => by
  cases i with
  | zero =>
    simp at h1 h2
    subst h1 h2
    exact hx
  | succ i => exact h.2 i y y' (by simpa using h1) (by simpa using h2)⟩
theorem RenL.any (h : RenL M ids tm tm') : RenL M ids (x :: tm) (.any :: tm') := h.cons fun w Fx β u hr => .any u
theorem RenL.own {id g pos : Nat} {b : Blk} (h : RenL M ids tm tm') (hM : M[id]? = some (some b) := by rfl) (hg : b.gen = g := by rfl) (hp : ids[pos]? = some id := by rfl) : RenL M ids (.own id g :: tm) (.own pos 0 :: tm') := h.cons (Ren.own hM hg hp)
theorem RenL.clo (h : RenL M ids tm tm') (he : x = x' := by first | rfl | simp_all) (hc : Clo x' := by first | exact clo_of (by rfl) | assumption) : RenL M ids (x :: tm) (x' :: tm') := h.cons (by subst he; exact Ren.clo hc)
theorem RenL.agg (h : RenL M ids tm tm') (hr : rokA M ids x) (he : renA ids x = x' := by rfl) : RenL M ids (x :: tm) (x' :: tm') := h.cons (he ▸ Ren.a hr)
theorem Sim.ren (hE : E.M = []) (hn : ids.Nodup) (hok : pkOk M ids) (hr : RenL M ids tm tm') (h : Sim E tm M a w) : Sim E tm' (packB M ids) a w := by
  obtain ⟨hd, Fx, β, hh, ho, hsl⟩ := h
  refine ⟨hd, Fx, ids.map fun id => (β[id]?).getD (Hd.flat undef), hh.pack hn hok hh.fx (fun pos id v k h1 h2 h3 => ?_), ⟨⟨ho.mv.fx, ho.mv.heap, by rw [gens_length, hE]; exact Nat.zero_le _, fun id g' hid => absurd hid (by simp [gens_length, hE])⟩, ho.size, ho.lim, fun pos b v k h1 h2 h3 => ?_⟩, hsl.1.trans hr.1.symm, fun t y u hy hu => ?_⟩
  · obtain ⟨b, g1, _, _⟩ := hok.get pos id h1
    obtain ⟨v', g2, g3⟩ := hh.blk id b g1
    rw [h2] at g2
    obtain rfl := Option.some.inj g2
    exact (g3.1 k h3).2.2
  · obtain ⟨id, b0, a1, a2, _, _⟩ := packB_get hok h1
    obtain ⟨v0, a3, _⟩ := hh.blk id b0 a2
    rw [List.getElem?_map, a1] at h2
    simp [a3] at h2
    subst h2
    exact ho.own id b0 v0 k a2 a3 h3
  · have hlt : t < tm.length := by rw [← hr.1]; exact (List.getElem?_eq_some_iff.1 hy).1
    rw [gens_packB hok]
    exact hr.2 t _ y (List.getElem?_eq_getElem hlt) hy _ _ _ _ (hsl.2 t _ u (List.getElem?_eq_getElem hlt) hu)
theorem AW.loopR {σ : Type} {c : Code} {Qx : XPost} (hE : E.M = []) (T : σ → List AV) (Mm : σ → Mem) (m : σ → Nat) (J : σ → Prop) (s0 : σ) (ids0 : List Nat) (h0 : J s0) (hn0 : ids0.Nodup) (hok0 : pkOk M ids0) (hr0 : RenL M ids0 tm (T s0)) (hM : packB M ids0 = Mm s0)
    (round : ∀ s, J s → AW P c E (T s) (Mm s) (fun e tm' M' => match e with | .normal => ∃ s' ids, J s' ∧ m s' < m s ∧ ids.Nodup ∧ pkOk M' ids ∧ RenL M' ids tm' (T s') ∧ packB M' ids = Mm s' | e => Qx e tm' M')) : AW P (.loop c) E tm M Qx := by
  intro a w Q hs k
  have hs0 := hs.ren hE hn0 hok0 hr0
  rw [hM] at hs0
  refine AW.loop (tm := T s0) (M := Mm s0) (fun n tm M => ∃ s, J s ∧ m s = n ∧ tm = T s ∧ M = Mm s) (m s0) ⟨s0, h0, rfl, rfl, rfl⟩ ?_ a w Q hs0 k
  rintro n tm M ⟨s, hs, rfl, rfl, rfl⟩
  intro a w Q hsim hq
  refine round s hs a w _ hsim fun e tm' M' a' w' hx hs' => ?_
  cases e with
  | normal =>
    obtain ⟨s', ids, g1, g2, g3, g4, g5, g6⟩ := hx
    exact hq .normal (T s') _ _ _ ⟨m s', g2, s', g1, rfl, rfl, rfl⟩ (g6 ▸ hs'.ren hE g3 g4 g5)
  | _ => exact hq _ _ _ _ _ hx hs'
end
section
variable {o : Oper} {E : Env} {tm tm' : List AV} {M X : Mem} {ops : Array Oper} {rest : List Oper} {ND : List AV → Prop} {r : AV} {m bm jj : Nat}
theorem DLS.W {j d : Nat} {oj : Oper} {b t : Bool} (hN : DLS Tryz.prog ops E M X m bm (jj + 1) rest tm' ND) (hjj : Nat.beq jj m = false := by rfl) (hm : bm.testBit jj = true := by rfl) (hg : o.guard = some (j, b) := by rfl) (hj : ops[j]? = some oj := by rfl) (hd : oj.dst = some d := by rfl) (hb : evA (msk (o.looksAt ops) tm) (.tmp d) = some (.c (.bool t)) := by rfl)
    (h : t = b → POp Tryz.prog o E (msk (o.looksAt ops) tm) M r M := by intro h; (try rw [h]); exact POp.qt) (e : dput tm o.dst (.when (bif b then t else !t) r) = tm' := by exact nrm) : DLS Tryz.prog ops E M X m bm jj (o :: rest) tm ND := by
  subst e
  exact .inr ⟨Nat.ne_of_beq_eq_false hjj, _, (by unfold GOp; rw [hg]; exact ⟨oj, d, hj, hd, .inl ⟨t, r, hb, h, rfl⟩⟩), .inl hm, hN⟩
end

end Go.Proofs.YtacbpfbelcdeiaaGreat.Abs

/- The walks of MergeLogs. -/
namespace Go.Proofs.YtacbpfbelcdeiaaGreat.Abs
open Go.Proofs Go.RowKit
set_option linter.unusedVariables false
set_option linter.unusedSimpArgs false
set_option maxRecDepth 100000
set_option maxHeartbeats 2000000
attribute [local irreducible] OpA AL AW DL DLM DLR DLS QOp POp VCalls VCallsI
def mergeTo (a b : List TEntry) (i : Nat) : List TEntry := (b.take i).foldl takeE a
def mergeL (a b : List TEntry) : List TEntry := if (!isLog a || !isLog b) = true then [] else mergeTo a b b.length
theorem mergeL_f {a b : List TEntry} (h : (!isLog a || !isLog b) = true) : mergeL a b = [] := if_pos h
theorem mergeL_t {a b : List TEntry} (h : (!isLog a || !isLog b) = false) : mergeL a b = mergeTo a b b.length := if_neg (by rw [h]; decide)
theorem mergeTo_succ {a b : List TEntry} {i : Nat} {x : TEntry} (h : b[i]? = some x) : mergeTo a b (i + 1) = takeE (mergeTo a b i) x := by
  unfold mergeTo
  rw [take_succ_of h, List.foldl_append]
  rfl
theorem foldE_all {p : TEntry → Prop} : ∀ (b a : List TEntry), (∀ x ∈ a, p x) → (∀ x ∈ b, p x) → ∀ x ∈ b.foldl takeE a, p x
  | [], a, ha, _ => ha
  | y :: b, a, ha, hb => foldE_all b (takeE a y) (takeE_all ha (hb y (List.mem_cons_self ..))) fun x hx => hb x (List.mem_cons_of_mem _ hx)
theorem foldE_len : ∀ (b a : List TEntry), a.length ≤ 1048576 → (b.foldl takeE a).length ≤ 1048576
  | [], a, ha => ha
  | y :: b, a, ha => foldE_len b (takeE a y) (takeE_len ha)
theorem mergeTo_len {a b : List TEntry} {i : Nat} (ha : a.length ≤ 1048576) : (mergeTo a b i).length ≤ 1048576 := foldE_len _ _ ha
theorem mergeTo_all {a b : List TEntry} {i : Nat} {p : TEntry → Prop} (ha : ∀ x ∈ a, p x) (hb : ∀ x ∈ b, p x) : ∀ x ∈ mergeTo a b i, p x := foldE_all _ _ ha fun x hx => hb x (List.mem_of_mem_take hx)
theorem mergeL_len {a b : List TEntry} (ha : a.length ≤ 1048576) : (mergeL a b).length ≤ 1048576 := by
  unfold mergeL
  split
  · exact Nat.zero_le _
  · exact mergeTo_len ha
theorem mergeL_all {a b : List TEntry} {p : TEntry → Prop} (ha : ∀ x ∈ a, p x) (hb : ∀ x ∈ b, p x) : ∀ x ∈ mergeL a b, p x := by
  unfold mergeL
  split
  · intro x hx; simp at hx
  · exact mergeTo_all ha hb
theorem merge_s (a b : List TEntry) (hl : a.length ≤ 1048576) (hm : b.length ≤ 1048576) (hp : ∀ x ∈ a, x.feature.gd) (hq : ∀ x ∈ b, x.feature.gd) : VCalls Tryz.prog 85 [.ro 8 (a.map TEntry.en), .ro 8 (b.map TEntry.en)] (fun r M => r = .own 0 0 ∧ M = [some ⟨121, 8, 0, false, (mergeL a b).map TEntry.ed⟩]) := by
  refine VB Tryz.func85 29 (fun E hE => ?_)
  have hcla : Clo (.ro 8 (a.map TEntry.en)) := clo_list TEntry.clo_en
  have hclb : Clo (.ro 8 (b.map TEntry.en)) := clo_list TEntry.clo_en
  repeat' ((first
    | (refine iAL ?_; first | refine AL.any ?_ | refine AL.any (h := POp.k Tryz.func86 (hc := by first | exact isLog_s a hl hp | exact isLog_s b hm hq)) ?_ | refine AL.any (h := POp.O Tryz.func94 (hc := take_s (mergeTo a b i) x (mergeTo_len hl) (mergeTo_all hp hq) (hq x (List.mem_of_getElem? hx)))) ?_ | refine AL.any (h := POp.O Tryz.func101 (hc := cpL_s a hl (fun x hx => (hp x hx).1))) ?_ | refine AL.U ?_ | refine AL.F ?_ | refine AL.T ?_ | refine AL.T (h := POp.k Tryz.func86 (hc := by first | exact isLog_s a hl hp | exact isLog_s b hm hq)) ?_ | refine AL.W ?_ | refine AL.W (h := fun h => by (try rw [h]); exact POp.k Tryz.func86 (hc := by first | exact isLog_s a hl hp | exact isLog_s b hm hq)) ?_ | refine AL.nil ?_)
    | (refine iAW ?_; first | (refine AW.c0 ?_; constructor) | refine AW.cT ?_ | refine AW.cF ?_ | (refine AW.c2 ?_ ?_ <;> (intro h; try simp only [bT, bF] at h)))
    | (refine AW.loopR hE (fun i : Nat => [.any, .ro 8 (b.map TEntry.en), .any, .any, .any, .own 0 0, I (i : Int), .any, .any, .any, .any, .any, .any, .any, .any, .any, .any, .any, .any, .any, .any, .any, .any, .any, .any, .any, .any, .any, .any, .any, .any]) (fun i => [some ⟨121, 8, 0, false, (mergeTo a b i).map TEntry.ed⟩]) (fun i => b.length - i) (fun i => i ≤ b.length) 0 [0] (by simp) (by decide) (by repeat' (first | exact trivial | refine ⟨⟨_, rfl, ?_⟩, ?_⟩ | exact DCl.b rfl | exact DCl.map (fun _ => rfl))) ?_ (by first | rfl | (rfl)) ?_
       (focus (repeat' (first | exact RenL.nil | refine RenL.any ?_ | refine RenL.own ?_ | refine RenL.clo ?_ (by first | rfl | (simp_all)))))
       intro i hi
       by_cases hlt : i < b.length
       case' pos =>
         have hP := True.intro
         obtain ⟨x, hx⟩ : ∃ x, b[i]? = some x := ⟨_, List.getElem?_eq_getElem hlt⟩
         have hg := map_get (f := TEntry.en) hx
         have ht := lt_true (f := TEntry.en) hlt
         have hn := next_ix hlt (by omega)
         have hms := mergeTo_succ (a := a) hx
         have hcle : Clo (.agg x.en) := Clo.agg x.clo_en
         have hclP : Clo (.ro 2 (x.feature.points.map TPoint.en)) := clo_list TPoint.clo_en
       case' neg =>
         have hQ := True.intro
         have ht := lt_false (f := TEntry.en) hlt
         have e : i = b.length := by omega
         subst e
         try rw [List.take_length])
    | with_reducible refine ifP ?_
    | with_reducible refine ifN ?_) <;> (try dsimp only))
  all_goals first
    | (have _ := hP; (refine ⟨i + 1, [1], hlt, by omega, by decide, (by repeat' (first | exact trivial | refine ⟨⟨_, rfl, ?_⟩, ?_⟩ | exact DCl.b rfl | exact DCl.map (fun _ => rfl))), ?_, by rw [hms] <;> rfl⟩; (focus (repeat' (first | exact RenL.nil | refine RenL.any ?_ | refine RenL.own ?_ | refine RenL.clo ?_ (by first | rfl | (first | (rw [hn]; done) | simp_all)))))))
    | (have _ := hQ; (rw [mergeL_t (by assumption)]); exact Fin.r1 [0] rfl (RV.tmp (by rfl)) ⟨rfl, rfl⟩)
    | (rw [mergeL_f (by assumption)]); exact Fin.r1 [0] rfl (RV.tmp (by rfl)) ⟨rfl, rfl⟩

theorem merge_i (a b : List TEntry) (hl : a.length ≤ 1048576) (hm : b.length ≤ 1048576) (hp : ∀ x ∈ a, x.feature.gd) (hq : ∀ x ∈ b, x.feature.gd) : VCalls Tryz.prog 88 [.ro 8 (a.map TEntry.en), .ro 8 (b.map TEntry.en)] (fun r M => r = .own 0 0 ∧ M = [some ⟨121, 8, 0, false, (mergeL a b).map TEntry.ed⟩]) := by
  refine VB Tryz.func88 28 (fun E hE => ?_)
  have hcla : Clo (.ro 8 (a.map TEntry.en)) := clo_list TEntry.clo_en
  have hclb : Clo (.ro 8 (b.map TEntry.en)) := clo_list TEntry.clo_en
  repeat' ((first
    | (refine iAL ?_; first | refine AL.any ?_ | refine AL.any (h := POp.k Tryz.func89 (hc := by first | exact isLog_i a hl hp | exact isLog_i b hm hq)) ?_ | refine AL.any (h := POp.O Tryz.func115 (hc := cpL_i a hl (fun x hx => (hp x hx).1))) ?_ | refine AL.any (h := POp.O Tryz.func124 (hc := take_i (mergeTo a b i) x (mergeTo_len hl) (mergeTo_all hp hq) (hq x (List.mem_of_getElem? hx)))) ?_ | refine AL.U ?_ | refine AL.F ?_ | refine AL.T ?_ | refine AL.T (h := POp.k Tryz.func89 (hc := by first | exact isLog_i a hl hp | exact isLog_i b hm hq)) ?_ | refine AL.W ?_ | refine AL.W (h := fun h => by (try rw [h]); exact POp.k Tryz.func89 (hc := by first | exact isLog_i a hl hp | exact isLog_i b hm hq)) ?_ | refine AL.nil ?_)
    | (refine iAW ?_; first | (refine AW.c0 ?_; constructor) | refine AW.cT ?_ | refine AW.cF ?_ | (refine AW.c2 ?_ ?_ <;> (intro h; try simp only [bT, bF] at h)))
    | (refine AW.loopR hE (fun i : Nat => [.any, .any, .any, .any, .any, .own 0 0, .any, .any, .any, .any, .any, .any, .any, .any, .any, .any, .any, .any, .any, .ro 8 (b.map TEntry.en), I ((b.map TEntry.en).length : Int), I (i : Int), .any, .any, .any, .any, .any, .any, .any, .any]) (fun i => [some ⟨121, 8, 0, false, (mergeTo a b i).map TEntry.ed⟩]) (fun i => b.length - i) (fun i => i ≤ b.length) 0 [0] (by simp) (by decide) (by repeat' (first | exact trivial | refine ⟨⟨_, rfl, ?_⟩, ?_⟩ | exact DCl.b rfl | exact DCl.map (fun _ => rfl))) ?_ (by first | rfl | (rfl)) ?_
       (focus (repeat' (first | exact RenL.nil | refine RenL.any ?_ | refine RenL.own ?_ | refine RenL.clo ?_ (by first | rfl | (simp_all)))))
       intro i hi
       by_cases hlt : i < b.length
       case' pos =>
         have hP := True.intro
         obtain ⟨x, hx⟩ : ∃ x, b[i]? = some x := ⟨_, List.getElem?_eq_getElem hlt⟩
         have hg := map_get (f := TEntry.en) hx
         have ht := lt_true (f := TEntry.en) hlt
         have hn := next_ix hlt (by omega)
         have hms := mergeTo_succ (a := a) hx
         have hcle : Clo (.agg x.en) := Clo.agg x.clo_en
         have hclP : Clo (.ro 2 (x.feature.points.map TPoint.en)) := clo_list TPoint.clo_en
       case' neg =>
         have hQ := True.intro
         have ht := lt_false (f := TEntry.en) hlt
         have e : i = b.length := by omega
         subst e
         try rw [List.take_length])
    | with_reducible refine ifP ?_
    | with_reducible refine ifN ?_) <;> (try dsimp only))
  all_goals first
    | (have _ := hP; (refine ⟨i + 1, [2], hlt, by omega, by decide, (by repeat' (first | exact trivial | refine ⟨⟨_, rfl, ?_⟩, ?_⟩ | exact DCl.b rfl | exact DCl.map (fun _ => rfl))), ?_, by rw [hms] <;> rfl⟩; (focus (repeat' (first | exact RenL.nil | refine RenL.any ?_ | refine RenL.own ?_ | refine RenL.clo ?_ (by first | rfl | (first | (rw [hn]; done) | simp_all)))))))
    | (have _ := hQ; (rw [mergeL_t (by assumption)]); exact Fin.r1 [0] rfl (RV.tmp (by rfl)) ⟨rfl, rfl⟩)
    | (rw [mergeL_f (by assumption)]); exact Fin.r1 [0] rfl (RV.tmp (by rfl)) ⟨rfl, rfl⟩

def mrgO (a : TAtlas) (l : List TEntry) : TAtlas := { a with log := mergeL a.log l }
theorem mrgO_gd {a : TAtlas} {l : List TEntry} (h : a.gd) (hl : ∀ x ∈ l, x.feature.gd) : (mrgO a l).gd := ⟨⟨mergeL_len h.1.1, mergeL_all h.1.2 hl⟩, h.2⟩
theorem mrgO_sm {a : TAtlas} {l : List TEntry} (h : a.sm) (hl : ∀ x ∈ l, x.feature.sm) : (mrgO a l).sm := ⟨⟨mergeL_len h.1.1, mergeL_all (p := fun x => x.feature.sm) h.1.2 hl⟩, h.2⟩
theorem mrgB_eq {a o : TAtlas} {k : Bool} : stpB a o k = stpB a o (k && isLog a.log) := by
  unfold stpB isAtl atlIn
  cases isLog a.log <;> cases k <;> simp
theorem mrgS_eq {a o : TAtlas} {k : Bool} : stp a o k = stp a o (k && isLog a.log) := by
  have := mrgB_eq (a := a) (o := o) (k := k)
  unfold stpB at this
  unfold stp
  rw [this]
theorem gdL_of {l : List TEntry} (h1 : ∀ x ∈ l, x.feature.sm) (h2 : ∀ x ∈ l, x.ok) : ∀ x ∈ l, x.feature.gd := fun x hx => ⟨h1 x hx, (h2 x hx).1.2.2.2.1⟩
theorem mrg_i (a : TAtlas) (hgd : a.gd) (l : List TEntry) (hl : l.length ≤ 1048576) (hp : ∀ x ∈ l, x.feature.gd) : VCalls Tryz.prog 37 [.agg a.en, .ro 8 (l.map TEntry.en)] (fun r M => r = .tup [.agg (stp a (mrgO a l) (isLog l)).eo, B (stpB a (mrgO a l) (isLog l))] ∧ M = (stp a (mrgO a l) (isLog l)).rw) := by
  refine VB Tryz.func37 19 (fun E hE => ?_)
  have hgs := hgd.gs
  have hclA : Clo (.agg a.en) := Clo.agg a.clo_en
  have hclL : Clo (.ro 8 (a.log.map TEntry.en)) := clo_list TEntry.clo_en
  have hclV : Clo (.ro 3 (a.levels.map TLevel.en)) := clo_list TLevel.clo_en
  have hclE : Clo (.ro 3 (a.editions.map TEdition.en)) := clo_list TEdition.clo_en
  have hclo : Clo (.ro 8 (l.map TEntry.en)) := clo_list TEntry.clo_en
  dsimp only [TAtlas.en]
  repeat' ((first
    | (refine iAL ?_; first | refine AL.any ?_ | refine AL.any (h := POp.O Tryz.func75 (hc := cpA_iX a (by assumption))) ?_ | refine AL.any (h := POp.O Tryz.func88 (hc := merge_i a.log l hgd.1.1 hl hgd.1.2 hp)) ?_ | refine AL.nil ?_)
    | ((with_reducible show DL ..); first | refine DL.any ?_ | refine DL.any (h := POp.G [6, 3, 4] Tryz.func76 (hc := stepped_iX a (mrgO a l) (isLog l) hgd (mrgO_gd hgd hp))) ?_ | refine DL.any (h := POp.k Tryz.func89 (hc := by first | exact isLog_i l hl hp | exact isLog_i a.log hgd.1.1 hgd.1.2)) ?_ | refine DL.nil ?_)
    | ((with_reducible show DLS ..); first | refine DLS.bef ?_ | refine DLS.any ?_ | refine DLS.st ?_ | refine DLS.bef (h := POp.G [6, 3, 4] Tryz.func76 (hc := stepped_iX a (mrgO a l) (isLog l) hgd (mrgO_gd hgd hp))) ?_ | refine DLS.bef (h := POp.k Tryz.func89 (hc := by first | exact isLog_i l hl hp | exact isLog_i a.log hgd.1.1 hgd.1.2)) ?_ | refine DLS.any (h := POp.G [6, 3, 4] Tryz.func76 (hc := stepped_iX a (mrgO a l) (isLog l) hgd (mrgO_gd hgd hp))) (h2 := POp.G [6, 3, 4] Tryz.func76 (hc := stepped_iX a (mrgO a l) (isLog l) hgd (mrgO_gd hgd hp))) ?_ | refine DLS.any (h := POp.k Tryz.func89 (hc := by first | exact isLog_i l hl hp | exact isLog_i a.log hgd.1.1 hgd.1.2)) (h2 := POp.k Tryz.func89 (hc := by first | exact isLog_i l hl hp | exact isLog_i a.log hgd.1.1 hgd.1.2)) ?_ | refine DLS.st (h := POp.G [6, 3, 4] Tryz.func76 (hc := stepped_iX a (mrgO a l) (isLog l) hgd (mrgO_gd hgd hp))) ?_ | refine DLS.nil ?_)
    | (refine iAW ?_; first | (refine AW.c0 ?_; constructor) | (refine' AW.drS (id := 3) 7 4 15 _ ?_) | refine AW.dr (id := 3) 7 ?_)) <;> (try dsimp only))
  all_goals first
    | (exact Fin.r2 [7, 8, 9] rfl (RV.cell (QOp.quietA TT_ok (by rfl))) (RV.tmp (by rfl)) ⟨rfl, rfl⟩)

theorem mrg_s (a : TAtlas) (hgd : a.gd) (l : List TEntry) (hl : l.length ≤ 1048576) (hp : ∀ x ∈ l, x.feature.gd) : VCalls Tryz.prog 35 [.agg a.en, .ro 8 (l.map TEntry.en)] (fun r M => r = .tup [.agg (stp a (mrgO a l) (isLog l)).eo, B (stpB a (mrgO a l) (isLog l))] ∧ M = (stp a (mrgO a l) (isLog l)).rw) := by
  refine VB Tryz.func35 24 (fun E hE => ?_)
  have hgs := hgd.gs
  have hclA : Clo (.agg a.en) := Clo.agg a.clo_en
  have hclL : Clo (.ro 8 (a.log.map TEntry.en)) := clo_list TEntry.clo_en
  have hclV : Clo (.ro 3 (a.levels.map TLevel.en)) := clo_list TLevel.clo_en
  have hclE : Clo (.ro 3 (a.editions.map TEdition.en)) := clo_list TEdition.clo_en
  have hclo : Clo (.ro 8 (l.map TEntry.en)) := clo_list TEntry.clo_en
  dsimp only [TAtlas.en]
  repeat' ((first
    | (refine iAL ?_; first | refine AL.any ?_ | refine AL.any (h := POp.O Tryz.func60 (hc := cpA_sX a (by assumption))) ?_ | refine AL.any (h := POp.O Tryz.func85 (hc := merge_s a.log l hgd.1.1 hl hgd.1.2 hp)) ?_ | refine AL.U ?_ | refine AL.F ?_ | refine AL.T ?_ | refine AL.W ?_ | refine AL.nil ?_)
    | ((with_reducible show DL ..); first | refine DL.any ?_ | refine DL.any (h := POp.G [6, 3, 4] Tryz.func73 (hc := stepped_sX a (mrgO a l) (isLog l && isLog a.log) hgd (mrgO_gd hgd hp))) ?_ | refine DL.any (h := POp.k Tryz.func86 (hc := by first | exact isLog_s l hl hp | exact isLog_s a.log hgd.1.1 hgd.1.2)) ?_ | refine DL.U ?_ | refine DL.F ?_ | refine DL.T ?_ | refine DL.T (h := POp.k Tryz.func86 (hc := by first | exact isLog_s l hl hp | exact isLog_s a.log hgd.1.1 hgd.1.2)) ?_ | refine DL.W ?_ | refine DL.W (h := fun h => by (try rw [h]); exact POp.k Tryz.func86 (hc := by first | exact isLog_s l hl hp | exact isLog_s a.log hgd.1.1 hgd.1.2)) ?_ | refine DL.nil ?_)
    | ((with_reducible show DLS ..); first | refine DLS.bef ?_ | refine DLS.any ?_ | refine DLS.st ?_ | refine DLS.bef (h := POp.G [6, 3, 4] Tryz.func73 (hc := stepped_sX a (mrgO a l) (isLog l && isLog a.log) hgd (mrgO_gd hgd hp))) ?_ | refine DLS.bef (h := POp.k Tryz.func86 (hc := by first | exact isLog_s l hl hp | exact isLog_s a.log hgd.1.1 hgd.1.2)) ?_ | refine DLS.any (h := POp.G [6, 3, 4] Tryz.func73 (hc := stepped_sX a (mrgO a l) (isLog l && isLog a.log) hgd (mrgO_gd hgd hp))) (h2 := POp.G [6, 3, 4] Tryz.func73 (hc := stepped_sX a (mrgO a l) (isLog l && isLog a.log) hgd (mrgO_gd hgd hp))) ?_ | refine DLS.any (h := POp.k Tryz.func86 (hc := by first | exact isLog_s l hl hp | exact isLog_s a.log hgd.1.1 hgd.1.2)) (h2 := POp.k Tryz.func86 (hc := by first | exact isLog_s l hl hp | exact isLog_s a.log hgd.1.1 hgd.1.2)) ?_ | refine DLS.st (h := POp.G [6, 3, 4] Tryz.func73 (hc := stepped_sX a (mrgO a l) (isLog l && isLog a.log) hgd (mrgO_gd hgd hp))) ?_ | refine DLS.nil ?_)
    | (refine iAW ?_; first | (refine AW.c0 ?_; constructor) | (refine' AW.drS (id := 3) 12 9 511 _ ?_) | refine AW.dr (id := 3) 12 ?_)
    | ((with_reducible show DLS ..); first | refine DLS.W ?_ | refine DLS.W (h := fun h => by (try rw [h]); exact POp.k Tryz.func86 (hc := isLog_s a.log hgd.1.1 hgd.1.2)) ?_)) <;> (try dsimp only))
  all_goals first
    | (rw [mrgS_eq, mrgB_eq]; exact Fin.r2 [7, 8, 9] rfl (RV.cell (QOp.quietA TT_ok (by rfl))) (RV.tmp (by rfl)) ⟨rfl, rfl⟩)

theorem mrg_i' (a : TAtlas) (hgd : a.gd) (l : List TEntry) (hl : l.length ≤ 1048576) (hp : ∀ x ∈ l, x.feature.gd) : VCalls Tryz.prog 37 [.agg a.en, .ro 8 (l.map TEntry.en)] (fun r M => r = .tup [.agg (stp a (mrgO a l) (isLog l)).en, B (stpB a (mrgO a l) (isLog l))] ∧ M = []) := VCalls.frz (mrg_i a hgd l hl hp) (by exact VwL.cons (View.tup' vwlT) VwL.nil)
theorem mrg_s' (a : TAtlas) (hgd : a.gd) (l : List TEntry) (hl : l.length ≤ 1048576) (hp : ∀ x ∈ l, x.feature.gd) : VCalls Tryz.prog 35 [.agg a.en, .ro 8 (l.map TEntry.en)] (fun r M => r = .tup [.agg (stp a (mrgO a l) (isLog l)).en, B (stpB a (mrgO a l) (isLog l))] ∧ M = []) := VCalls.frz (mrg_s a hgd l hl hp) (by exact VwL.cons (View.tup' vwlT) VwL.nil)
def TFeature.cs (x : TFeature) : Nat := ctL TPoint.ct x.points
def TFeature.ms (k : Int) (x : TFeature) : TFeature := ⟨x.id, x.kind, x.rank, x.name, mkL TPoint.mrk TPoint.ct (k) x.points⟩
theorem markFeature (x : TFeature) (k : Int) (h0 : 0 ≤ k) (hb : k + ((x.cs : Nat) : Int) ≤ 4611686018427387904) : ACalls Tryz.prog 45 [.agg x.eo, I k] x.rw (fun r M => r = I (k + ((x.cs : Nat) : Int)) ∧ ∃ Mx, M = [(⟨152, 2, 0, false, (x.ms k).points.map TPoint.en⟩ : Blk)].map some ++ Mx) := by
  have hcs : x.cs = ctL TPoint.ct x.points := rfl
  have hend : k + ((ctL TPoint.ct x.points : Nat) : Int) = k + ((x.cs : Nat) : Int) := by omega
  refine ACalls.body Tryz.func45 rfl 8 rfl (fun E hE => ?_)
  dsimp only [TFeature.eo, TFeature.rw]
  simp only [List.reduceReplicate, List.cons_append, List.nil_append]
  repeat' ((first
    | (refine iAL ?_; first | refine AL.any ?_ | refine AL.any (h := POp.H [0] Tryz.func92 (hc := markPointS 152 x.points (k) (by omega) (by omega))) ?_ | refine AL.nil ?_)
    | (refine iAW ?_; first | (refine AW.c0 ?_; constructor))) <;> (try dsimp only))
  all_goals exact FinA.one rfl (RV.tmp (by rfl)) ⟨by rw [← hend], [_], rfl⟩

def TAtlas.cs (x : TAtlas) : Nat := ctL TEntry.ct x.log + ctL TLevel.ct x.levels + ctL TEdition.ct x.editions
def TAtlas.ms (k : Int) (x : TAtlas) : TAtlas := ⟨mkL TEntry.mrk TEntry.ct (k) x.log, mkL TLevel.mrk TLevel.ct (k + ((ctL TEntry.ct x.log : Nat) : Int)) x.levels, mkL TEdition.mrk TEdition.ct (k + ((ctL TEntry.ct x.log : Nat) : Int) + ((ctL TLevel.ct x.levels : Nat) : Int)) x.editions, x.cover, x.now⟩
theorem markAtlas (x : TAtlas) (k : Int) (h0 : 0 ≤ k) (hb : k + ((x.cs : Nat) : Int) ≤ 4611686018427387904) : ACalls Tryz.prog 22 [.agg x.eo, I k] x.rw (fun r M => r = I (k + ((x.cs : Nat) : Int)) ∧ ∃ Mx, M = [(⟨121, 8, 0, false, (x.ms k).log.map TEntry.ed⟩ : Blk), (⟨97, 3, 0, false, (x.ms k).levels.map TLevel.en⟩ : Blk), (⟨136, 3, 0, false, (x.ms k).editions.map TEdition.ed⟩ : Blk)].map some ++ Mx) := by
  have hcs : x.cs = ctL TEntry.ct x.log + ctL TLevel.ct x.levels + ctL TEdition.ct x.editions := rfl
  have hend : k + ((ctL TEntry.ct x.log : Nat) : Int) + ((ctL TLevel.ct x.levels : Nat) : Int) + ((ctL TEdition.ct x.editions : Nat) : Int) = k + ((x.cs : Nat) : Int) := by omega
  refine ACalls.body Tryz.func22 rfl 16 rfl (fun E hE => ?_)
  dsimp only [TAtlas.eo, TAtlas.rw]
  simp only [List.reduceReplicate, List.cons_append, List.nil_append]
  repeat' ((first
    | (refine iAL ?_; first | refine AL.any ?_ | refine AL.any (h := POp.H [1] Tryz.func21 (hc := markLevelS 97 x.levels (k + ((ctL TEntry.ct x.log : Nat) : Int)) (by omega) (by omega))) ?_ | refine AL.any (h := POp.H [0] Tryz.func39 (hc := markEntryS 121 x.log (k) (by omega) (by omega))) ?_ | refine AL.any (h := POp.H [2] Tryz.func68 (hc := markEditionS 136 x.editions (k + ((ctL TEntry.ct x.log : Nat) : Int) + ((ctL TLevel.ct x.levels : Nat) : Int)) (by omega) (by omega))) ?_ | refine AL.nil ?_)
    | (refine iAW ?_; first | (refine AW.c0 ?_; constructor))) <;> (try dsimp only))
  all_goals exact FinA.one rfl (RV.tmp (by rfl)) ⟨by rw [← hend], [_], rfl⟩

theorem heldAtlas (x : TAtlas) (k : Int) (h0 : 0 ≤ k) (hb : k + ((x.cs : Nat) : Int) ≤ 4611686018427387904) : VCalls Tryz.prog 23 [.agg (x.ms k).en, I k] (fun r M => r = I (k + ((x.cs : Nat) : Int)) ∧ M = []) := by
  have hcs : x.cs = ctL TEntry.ct x.log + ctL TLevel.ct x.levels + ctL TEdition.ct x.editions := rfl
  have hend : k + ((ctL TEntry.ct x.log : Nat) : Int) + ((ctL TLevel.ct x.levels : Nat) : Int) + ((ctL TEdition.ct x.editions : Nat) : Int) = k + ((x.cs : Nat) : Int) := by omega
  have hnn0 : decide (k + ((ctL TEntry.ct x.log : Nat) : Int) < 0) = false := by simp; omega
  have hcr0 : Clo (.ro 8 ((mkL TEntry.mrk TEntry.ct (k) x.log).map TEntry.en)) := clo_list TEntry.clo_en
  have hnn1 : decide (k + ((ctL TEntry.ct x.log : Nat) : Int) + ((ctL TLevel.ct x.levels : Nat) : Int) < 0) = false := by simp; omega
  have hcr1 : Clo (.ro 3 ((mkL TLevel.mrk TLevel.ct (k + ((ctL TEntry.ct x.log : Nat) : Int)) x.levels).map TLevel.en)) := clo_list TLevel.clo_en
  have hnn2 : decide (k + ((ctL TEntry.ct x.log : Nat) : Int) + ((ctL TLevel.ct x.levels : Nat) : Int) + ((ctL TEdition.ct x.editions : Nat) : Int) < 0) = false := by simp; omega
  have hcr2 : Clo (.ro 3 ((mkL TEdition.mrk TEdition.ct (k + ((ctL TEntry.ct x.log : Nat) : Int) + ((ctL TLevel.ct x.levels : Nat) : Int)) x.editions).map TEdition.en)) := clo_list TEdition.clo_en
  refine VCalls.body Tryz.func23 rfl 22 rfl (fun E => ?_)
  dsimp only [TAtlas.en, TAtlas.ms]
  simp only [List.reduceReplicate, List.cons_append, List.nil_append]
  repeat' ((first
    | (refine iAL ?_; first | refine AL.any ?_ | refine AL.any (h := POp.k Tryz.func69 (hc := heldEntryS x.log (k) (by omega) (by omega))) ?_ | refine AL.any (h := POp.k Tryz.func70 (hc := heldLevelS x.levels (k + ((ctL TEntry.ct x.log : Nat) : Int)) (by omega) (by omega))) ?_ | refine AL.any (h := POp.k Tryz.func71 (hc := heldEditionS x.editions (k + ((ctL TEntry.ct x.log : Nat) : Int) + ((ctL TLevel.ct x.levels : Nat) : Int)) (by omega) (by omega))) ?_ | refine AL.nil ?_)
    | (refine iAW ?_; first | (refine AW.c0 ?_; constructor) | refine AW.cT ?_ | refine AW.cF ?_ | (refine AW.c2 ?_ ?_ <;> (intro h; try simp only [bT, bF] at h)))) <;> (try dsimp only))
  all_goals exact Fin.one rfl (RV.tmp (by rfl)) (clo_c _) ⟨by rw [← hend], rfl⟩

theorem stp_ind {a o : TAtlas} {ok : Bool} {p : TAtlas → Prop} (ha : p a) (ho : p o) : p (stp a o ok) := by unfold stp; split <;> assumption
theorem ctL_en {l : List TEntry} (hl : l.length ≤ 1048576) (hp : ∀ x ∈ l, x.feature.points.length ≤ 1048576) : ctL TEntry.ct l ≤ 2199030595584 := by
  have h := ctL_bd (ct := TEntry.ct) (c := 2097159) (l := l) fun x hx => by
    have h1 := ctL_pt x.feature.points
    have h2 := hp x hx
    unfold TEntry.ct
    omega
  omega
theorem ctL_lv (l : List TLevel) : ctL TLevel.ct l ≤ l.length * 3 := ctL_bd fun _ _ => Nat.le_refl 3
theorem ctL_ed {l : List TEdition} (hl : l.length ≤ 1048576) (hp : ∀ e ∈ l, e.source.length ≤ 1048576 ∧ ∀ x ∈ e.source, x.points.length ≤ 1048576) : ctL TEdition.ct l ≤ 2305847407260205056 + 2097152 := by
  have h := ctL_bd (ct := TEdition.ct) (c := 2199027449858) (l := l) fun x hx => by
    have h2 := hp x hx
    have h1 := ctL_ft h2.1 h2.2
    unfold TEdition.ct
    omega
  omega
theorem TAtlas.cs_le {a : TAtlas} (h : a.sm) : a.cs ≤ 3000000000000000000 := by
  obtain ⟨⟨h1, h2⟩, h3, h4, h5⟩ := h
  have e1 := ctL_en h1 (fun x hx => h2 x hx)
  have e2 := ctL_lv a.levels
  have e3 := ctL_ed h4 (fun x hx => ⟨(h5 x hx).1, fun y hy => (h5 x hx).2 y hy⟩)
  unfold TAtlas.cs
  omega

theorem toAtlas_oX (a : TAtlas) (hs : a.sm) : VCalls Tryz.prog 26 [.agg [.ro 8 (a.log.map TEntry.en), .ro 3 (a.levels.map TLevel.en), .ro 3 (a.editions.map TEdition.en), I a.cover.w, I a.cover.h, S a.cover.cells, I a.now]] (fun r M => r = .agg [.own 0 0, .own 1 0, .own 2 0, I a.cover.w, I a.cover.h, S a.cover.cells, I a.now] ∧ M = [some ⟨121, 8, 0, false, a.log.map TEntry.ed⟩, some ⟨97, 3, 0, false, a.levels.map TLevel.en⟩, some ⟨136, 3, 0, false, a.editions.map TEdition.ed⟩]) := toAtlas_o a hs
end Go.Proofs.YtacbpfbelcdeiaaGreat.Abs
