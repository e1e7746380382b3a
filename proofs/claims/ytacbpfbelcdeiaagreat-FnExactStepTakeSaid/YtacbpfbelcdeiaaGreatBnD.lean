/- Part D of the walk over abstract states and of the functions' walks. -/
import Derived.Test.YtacbpfbelcdeiaaGreatWkStep
import Derived.Test.YtacbpfbelcdeiaaGreatBnC
import Derived.WalkKit
import Derived.Lib.Overlaps
import Derived.Lib.AppendZerosOnto
import Derived.Laws.Externs
import Derived.Laws.IdiomCopy
import Derived.Shelf.RegionOpenPlain
import Derived.Test.YtacbpfbelcdeiaaGreatWkTo
import Derived.Test.YtacbpfbelcdeiaaGreatWkEq
import Derived.Test.YtacbpfbelcdeiaaGreatBnA
import Derived.Test.YtacbpfbelcdeiaaGreatBnB
/- slices.Insert of one entry into a log. -/
namespace Go.Proofs.YtacbpfbelcdeiaaGreat.Abs
open Go.Proofs Go.RowKit
set_option linter.unusedVariables false
set_option linter.unusedSimpArgs false
set_option maxRecDepth 100000
set_option maxHeartbeats 2000000
open Go.Lib in
theorem run_copyR {P : Program} (w : World) (dT sT ty elem : TypeId) (i : TypeInfo) (hu : P.underlying dT = some (.slice elem)) (hi : P.info? elem = some i) (g o dLen dCap : Nat) (cur : Array Value) (hg : w.heap[g]? = some (.cells cur elem (0, 0))) (a : Addr) (sLen sCap : Nat) (cs : List Value)
    (hn : cs.length = Nat.min sLen dLen * i.size) (hsrc : ∀ j v, cs[j]? = some v → w.cell? (a.add j) = some v) (hfit : o + cs.length ≤ cur.size) (h1 : ∀ v ∈ cs, v.oneCell' = true) :
    (Builtin.copy_ #[dT, sT] ty #[.slice (some ⟨g, o, none⟩) dLen dCap, .slice (some a) sLen sCap]).run P w = .ok (goInt (Nat.min sLen dLen)) (w.setRow g (cur.toList.take o ++ cs ++ cur.toList.drop (o + cs.length)).toArray) := by
  have hl := run_loadCells_list (P := P) w a cs hsrc
  have hst := run_storeCells_at P g o elem cs 0 cur w hg (by simpa using hfit) h1
  simp only [Nat.add_zero] at hst
  simp [Builtin.copy_, run_underlying hu, Builtin.lenOf, Builtin.firstCells, sizeOf, typeInfo, hi, ← hn, hl, hst]
theorem step_copyR {P : Program} {ops : Array Oper} {o : Oper} {a : Act} {w : World} {K : Act → World → Prop} {Q : Exit → Act → World → Prop} {E : Prop} (hg : o.guard = none) (d x : Operand) (dT sT : TypeId) (hop : o.op = Op.call { callee := Callee.builtin Builtin.copy, args := #[d, x], argTypes := #[dT, sT] })
    (v u : Value) (hd : a.eval d = v) (hx : a.eval x = u) {v' : Value} {w' : World} (hr : (Builtin.copy_ #[dT, sT] o.type #[v, u]).run P w = .ok v' w') (hK : K (a.put o.dst v') w') :
    if Region.wanted o (yielded ops a.tmps) = true then Oper.wp P o a w K Q else E := by
  have hw : Region.wanted o (yielded ops a.tmps) = true := by simp [Region.wanted, hg]
  rw [if_pos hw]
  unfold Oper.wp
  simp [execOp, hop, resolve, invoke, builtin, hd, hx, hr, Result.andThen]
  exact hK
theorem ins_list {cur xd ys : List Value} {a : Nat} (ha : a + ys.length ≤ cur.length) : ((cur.take (a + ys.length) ++ xd ++ cur.drop (a + ys.length + xd.length)).take a ++ ys ++ (cur.take (a + ys.length) ++ xd ++ cur.drop (a + ys.length + xd.length)).drop (a + ys.length)) = cur.take a ++ ys ++ xd ++ cur.drop (a + ys.length + xd.length) := by
  have hl : (cur.take (a + ys.length)).length = a + ys.length := by rw [List.length_take]; omega
  rw [List.append_assoc (cur.take _), List.take_append_of_le_length (by omega), List.drop_left' hl, List.take_take, Nat.min_eq_left (Nat.le_add_right _ _)]
  simp only [List.append_assoc]
section
variable {w : World} {base : Nat} {n : Nat} {xs ys : List Value}
def InsPost (w : World) (base : Nat) (v : Value) (n i : Nat) (xs ys : List Value) (e : Ending) (w' : World) : Prop :=
  ∃ v', e = .returned v' ∧ w'.ownsRow base 121 8 v' (n + 1) (xs.take (i * 8) ++ ys ++ xs.drop (i * 8)) ∧ w.grownBy w' v.ownBlock ∧ ∀ k, blockOf v' = some k → blockOf v = some k ∨ w.heap.size ≤ k
set_option maxHeartbeats 4000000 in
set_option maxRecDepth 100000 in
theorem ins_end (v : Value) (hown : w.ownsRow base 121 8 v n xs) (vb vc : Nat) (hyl : ys.length = 8) (hys : ∀ j u, ys[j]? = some u → w.cell? ⟨vb, j, none⟩ = some u) (h1 : ∀ u ∈ ys, u.oneCell' = true) (hn : n ≤ 1048576) (hbase : base ≤ w.heap.size) :
    Calls Tryz.prog 151 #[v, .int .i64 n, .slice (some ⟨vb, 0, none⟩) 1 vc] w (InsPost w base v n n xs ys) := by
  obtain ⟨i0, z, q1, q2, q3, q4, q5, q6, q7, q8, q9⟩ := rwk_inv rwk27
  have hxl := hown.1
  have hz : (Go.sizeOf 121).run Tryz.prog = fun w => .ok 8 w := by
    funext w
    simp [sizeOf, typeInfo, q2, q4]
  have hz1 : ∀ w, (Go.sizeOf 121).run Tryz.prog w = .ok 8 w := fun w => by rw [hz]
  have t27 := run_underlying q1
  have hadd : ∀ j, (⟨vb, 0, none⟩ : Addr).add j = ⟨vb, j, none⟩ := fun j => by simp [Addr.add]; omega
  obtain ⟨v2, w2, hr2, ho2, hg2, hb2⟩ := run_append_fresh (P := Tryz.prog) (ty := 27) q1 q2 q3 q4 q5 q6 q9 hown (a := ⟨vb, 0, none⟩) (m := 1) (c := vc) hyl (fun j u hj => by rw [hadd]; exact hys j u hj) h1 (by simp [maxLen]; omega) (by omega) hbase
  have fin : InsPost w base v n n xs ys (.returned v2) w2 := ⟨v2, rfl, by
    have e1 : xs.take (n * 8) = xs := List.take_of_length_le (by omega)
    have e2 : xs.drop (n * 8) = [] := List.drop_eq_nil_of_le (by omega)
    rw [e1, e2, List.append_nil]; exact ho2, hg2, hb2⟩
  have hcap : ∃ b c, v = .slice b n c := by
    rcases hown.2 with ⟨rfl, rfl⟩ | ⟨g, cap, cur, rfl, _⟩
    · exact ⟨_, _, rfl⟩
    · exact ⟨_, _, rfl⟩
  obtain ⟨b, c, rfl⟩ := hcap
  have hbc : n ≤ c := by
    rcases hown.2 with ⟨e, rfl⟩ | ⟨g, cap, cur, e, _, _, h, _⟩
    · omega
    · cases e; exact h
  go_enter Tryz.func151, Tryz.ntmps151
  cases b with
  | none =>
    have h0 : n = 0 ∧ c = 0 := by
      rcases hown.2 with ⟨e, rfl⟩ | ⟨g, cap, cur, e, _⟩
      · cases e; exact ⟨rfl, rfl⟩
      · cases e
    obtain ⟨rfl, rfl⟩ := h0
    go_wp2_with (at_builtin; refine Lib.wpList_append_run _ rfl _ _ _ _ rfl _ _ rfl rfl _ _ hr2 ?_)
    all_goals (go_ret; exact fin)
  | some ad =>
    obtain ⟨g, o, s⟩ := ad
    go_wp2_with (at_builtin; refine Lib.wpList_append_run _ rfl _ _ _ _ rfl _ _ rfl rfl _ _ hr2 ?_)
    all_goals (go_ret; exact fin)
set_option maxHeartbeats 4000000 in
set_option maxRecDepth 100000 in
theorem ins_room (g i c : Nat) (cur : Array Value) (hg : w.heap[g]? = some (.cells cur 121 (0, 0))) (hcs : cur.size = c * 8) (hxs : cur.toList.take (n * 8) = xs) (hbg : base ≤ g) (hi : i < n) (hroom : n + 1 ≤ c) (hcm : c ≤ maxLen) (vb vc : Nat) (hvb : vb ≠ g) (cuy : Array Value) (hgv : w.heap[vb]? = some (.cells cuy 121 (0, 0))) (hyl : ys.length = 8) (hys : ∀ j u, ys[j]? = some u → w.cell? ⟨vb, j, none⟩ = some u) (h1x : ∀ u ∈ xs, u.oneCell' = true) (h1 : ∀ u ∈ ys, u.oneCell' = true) (hn : n ≤ 1048576) :
    Calls Tryz.prog 151 #[.slice (some ⟨g, 0, none⟩) n c, .int .i64 i, .slice (some ⟨vb, 0, none⟩) 1 vc] w (InsPost w base (.slice (some ⟨g, 0, none⟩) n c) n i xs ys) := by
  obtain ⟨i0, z, q1, q2, q3, q4, q5, q6, q7, q8, q9⟩ := rwk_inv rwk27
  have hz1 : ∀ w, (Go.sizeOf 121).run Tryz.prog w = .ok 8 w := fun w => by simp [sizeOf, typeInfo, q2, q4]
  have t27 := run_underlying q1
  have hov : ∀ lb cb, (callFunc 171 #[.slice (some ⟨vb, 0, none⟩) 1 vc, .slice (some ⟨g, (i + 1) * 8, none⟩) lb cb]).run Tryz.prog w = .ok (.value (.bool false)) w := fun lb cb => by
    rw [run_callFunc_extern Tryz.func171 (by kernel_rfl) (by kernel_rfl) (by kernel_rfl) (e := Extern.SlicesOverlaps.overlaps #[27, 27] #[4]) (by kernel_rfl),
      Lib.run_overlaps_apart w 27 4 121 q1 8 hz1 ⟨vb, 0, none⟩ ⟨g, (i + 1) * 8, none⟩ 1 vc lb cb hvb 121 121 cuy.size cur.size (by simp [World.shape?, hgv]) (by simp [World.shape?, hg]) (by omega) (by simp [World.frozen?, hgv]) (by simp [World.frozen?, hgv])]
    rfl
  have mixed : Tryz.prog.follows .mixedOrders = true := by kernel_rfl
  have hb1 : ¬ ((i : Int) = (n : Int)) := by omega
  have hb2 : (i : Int) ≤ (n : Int) := by omega
  have hxl : xs.length = n * 8 := by rw [← hxs, List.length_take, Array.length_toList]; omega
  have hcl : cur.toList.length = c * 8 := by simpa using hcs
  obtain ⟨L1, hL1⟩ : ∃ L1, L1 = cur.toList.take ((i + 1) * 8) ++ xs.drop (i * 8) ++ cur.toList.drop ((i + 1) * 8 + (xs.drop (i * 8)).length) := ⟨_, rfl⟩
  have hdl : (xs.drop (i * 8)).length = (n - i) * 8 := by rw [List.length_drop]; omega
  have hl1 : L1.length = c * 8 := by rw [hL1, List.length_append, List.length_append, List.length_take, hdl, List.length_drop, hcl]; omega
  have hcp1 : ∀ (W : World) ty dl sl dc sc o1 o2, W.heap[g]? = some (.cells cur 121 (0, 0)) → o1 = (i + 1) * 8 → o2 = i * 8 → dl = n - i → n - i ≤ sl → (Builtin.copy_ #[27, 27] ty #[.slice (some ⟨g, o1, none⟩) dl dc, .slice (some ⟨g, o2, none⟩) sl sc]).run Tryz.prog W = .ok (goInt (Nat.min sl dl)) (W.setRow g L1.toArray) := by
    intro W ty dl sl dc sc o1 o2 hW e1 e2 e3 e4
    subst e1 e2
    rw [hL1]
    have hm : Nat.min sl dl = n - i := by simp only [Nat.min_def]; split <;> omega
    refine run_copyR W 27 27 ty 121 i0 q1 q2 g _ dl dc cur hW ⟨g, i * 8, none⟩ sl sc (xs.drop (i * 8)) (by rw [hm, q4]; exact hdl) (fun j v hj => ?_) (by rw [hdl, hcs]; omega) (fun v hv => h1x v (List.mem_of_mem_drop hv))
    rw [show (⟨g, i * 8, none⟩ : Addr).add j = ⟨g, i * 8 + j, none⟩ by simp [Addr.add], cell_of_row W g (i * 8 + j) cur 121 (0, 0) hW]
    rw [List.getElem?_drop, ← hxs, List.getElem?_take] at hj
    split at hj
    · simpa using hj
    · cases hj
  obtain ⟨L2, hL2⟩ : ∃ L2, L2 = L1.take (i * 8) ++ ys ++ L1.drop (i * 8 + ys.length) := ⟨_, rfl⟩
  have hcp2 : ∀ (W : World) ty dl dc o1, W.heap[g]? = some (.cells L1.toArray 121 (0, 0)) → W.heap[vb]? = w.heap[vb]? → o1 = i * 8 → 1 ≤ dl → (Builtin.copy_ #[27, 27] ty #[.slice (some ⟨g, o1, none⟩) dl dc, .slice (some ⟨vb, 0, none⟩) 1 vc]).run Tryz.prog W = .ok (goInt (Nat.min 1 dl)) (W.setRow g L2.toArray) := by
    rw [hL2]
    intro W ty dl dc o1 hW hV e1 e2
    subst e1
    have hm : Nat.min 1 dl = 1 := by simp only [Nat.min_def]; split <;> omega
    refine run_copyR W 27 27 ty 121 i0 q1 q2 g _ dl dc L1.toArray hW ⟨vb, 0, none⟩ 1 vc ys (by rw [hm, q4, hyl]) (fun j v hj => ?_) (by rw [hyl, List.size_toArray, hl1]; omega) h1
    rw [show (⟨vb, 0, none⟩ : Addr).add j = ⟨vb, j, none⟩ by simp [Addr.add]; omega]
    have := hys j v hj
    unfold World.cell? at this ⊢
    rw [show W.heap[(⟨vb, j, none⟩ : Addr).block]? = w.heap[(⟨vb, j, none⟩ : Addr).block]? from hV]
    exact this
  have hgw : g < w.heap.size := (Array.getElem?_eq_some_iff.1 hg).1
  have fin : ∀ (W1 W2 : World), W1 = w.drew.setRow g L1.toArray → W2 = W1.setRow g L2.toArray → InsPost w base (.slice (some ⟨g, 0, none⟩) n c) n i xs ys (.returned (.slice (some ⟨g, 0, none⟩) (n + 1) c)) W2 := by
    intro W1 W2 hW1 hW2
    have hh1 : W1.heap[g]? = some (.cells L1.toArray 121 (0, 0)) := by rw [hW1]; exact setRow_heap w.drew g cur _ 121 _ hg
    have hh2 : W2.heap[g]? = some (.cells L2.toArray 121 (0, 0)) := by rw [hW2]; exact setRow_heap W1 g _ _ 121 _ hh1
    have hxd : (xs.take (i * 8) ++ ys ++ xs.drop (i * 8)).length = (n + 1) * 8 := by rw [List.length_append, List.length_append, List.length_take, hdl, hyl]; omega
    have e8 : (i + 1) * 8 = i * 8 + ys.length := by omega
    have e0 : L1.take (i * 8) ++ ys ++ L1.drop (i * 8 + ys.length) = xs.take (i * 8) ++ ys ++ xs.drop (i * 8) ++ cur.toList.drop (i * 8 + ys.length + (xs.drop (i * 8)).length) := by
      rw [hL1, e8, ins_list (by omega), ← hxs, List.take_take, show min (i * 8) (n * 8) = i * 8 by omega]
    rw [hL2, e0] at hh2
    refine ⟨_, rfl, ⟨hxd, .inr ⟨g, c, _, rfl, hbg, hh2, hroom, hcm, ?_, ?_⟩⟩, ⟨?_, ?_, ?_, ?_, fun k hk hne => ?_⟩, fun k hk => .inl hk⟩
    · rw [List.size_toArray, List.length_append, hxd, List.length_drop, hcl, hdl, hyl]
      omega
    · exact List.take_left' hxd
    · rw [hW2, hW1]; rfl
    · rw [hW2, hW1]; rfl
    · rw [hW2, hW1]; rfl
    · rw [hW2, hW1]; simp
    · have hk2 : k ≠ g := fun e => hne (by rw [e]; rfl)
      rw [hW2, hW1, setRow_other _ _ _ _ hk2, setRow_other _ _ _ _ hk2]; rfl
  unfold maxLen at hcm
  have hsub : n + 1 - (i + 1) = n - i := by omega
  have hw1 : IntKind.i64.wrap ((i : Int) + 1) = (i : Int) + 1 := w64 (by omega) (by omega)
  have hb3 : (0 : Int) ≤ (i : Int) + 1 := by omega
  have htn : ((i : Int) + 1).toNat = i + 1 := by omega
  have hb4 : ¬ (c = i + 1) := by omega
  have hb5 : ¬ (c = i) := by omega
  have hb6 : (i : Int) ≤ (n : Int) + 1 := by omega
  clear hL2 hL1 hl1 hcl hxl hdl
  go_enter Tryz.func151, Tryz.ntmps151
  go_wp2_with (simp only [hov])
  go_region_law_o (refine step_copyR rfl _ _ 27 27 rfl _ _ (by simp [Act.eval, Act.put]) (by simp [Act.eval, Act.put]) (hcp1 w.drew 3 (n - i) (n + 1 - i) (c - (i + 1)) (c - i) ((i + 1) * 8) (i * 8) hg rfl rfl rfl (by omega)) ?_)
  go_wp2
  rw [hcp2 (w.drew.setRow g L1.toArray) 3 (n + 1 - i) (c - i) (i * 8) (setRow_heap w.drew g cur _ 121 _ hg) (setRow_other _ _ _ _ hvb) rfl (by omega)]
  simp only [Result.andThen]
  rw [Oper.upon_value]
  go_wp2
  go_ret
  all_goals exact fin _ _ rfl rfl
set_option maxHeartbeats 4000000 in
set_option maxRecDepth 100000 in
theorem ins_grow (g i c : Nat) (cur : Array Value) (hg : w.heap[g]? = some (.cells cur 121 (0, 0))) (hcs : cur.size = c * 8) (hxs : cur.toList.take (n * 8) = xs) (hi : i < n) (hnc : n ≤ c) (hroom : c < n + 1) (vb vc : Nat) (cuy : Array Value) (hgv : w.heap[vb]? = some (.cells cuy 121 (0, 0))) (hyl : ys.length = 8) (hys : ∀ j u, ys[j]? = some u → w.cell? ⟨vb, j, none⟩ = some u) (h1x : ∀ u ∈ xs, u.oneCell' = true) (h1 : ∀ u ∈ ys, u.oneCell' = true) (hn : n ≤ 1048576) (hbase : base ≤ w.heap.size) :
    Calls Tryz.prog 151 #[.slice (some ⟨g, 0, none⟩) n c, .int .i64 i, .slice (some ⟨vb, 0, none⟩) 1 vc] w (InsPost w base (.slice (some ⟨g, 0, none⟩) n c) n i xs ys) := by
  obtain ⟨i0, z, q1, q2, q3, q4, q5, q6, q7, q8, q9⟩ := rwk_inv rwk27
  have hz1 : ∀ w, (Go.sizeOf 121).run Tryz.prog w = .ok 8 w := fun w => by simp [sizeOf, typeInfo, q2, q4]
  have t27 := run_underlying q1
  have mixed : Tryz.prog.follows .mixedOrders = true := by kernel_rfl
  have hb1 : ¬ ((i : Int) = (n : Int)) := by omega
  have hb2 : (i : Int) ≤ (n : Int) := by omega
  have hxl : xs.length = n * 8 := by rw [← hxs, List.length_take, Array.length_toList]; omega
  have hcl : cur.toList.length = c * 8 := by simpa using hcs
  have hgw : g < w.heap.size := (Array.getElem?_eq_some_iff.1 hg).1
  have hvw : vb < w.heap.size := (Array.getElem?_eq_some_iff.1 hgv).1
  have hkk : (n : Int) + 1 - (i : Int) = ((n + 1 - i : Nat) : Int) := by omega
  have hik : i + (n + 1 - i) = n + 1 := by omega
  have hdl : (xs.drop (i * 8)).length = (n - i) * 8 := by rw [List.length_drop]; omega
  have htl : (xs.take (i * 8)).length = i * 8 := by rw [List.length_take]; omega
  have hsrc : ∀ (W : World), W.heap[g]? = w.heap[g]? → ∀ (q : Nat) j u, (xs.drop q)[j]? = some u → W.cell? ⟨g, q + j, none⟩ = some u := fun W hW q j u hj => by
    rw [cell_of_row W g (q + j) cur 121 (0, 0) (by rw [hW]; exact hg)]
    rw [List.getElem?_drop, ← hxs, List.getElem?_take] at hj
    split at hj
    · simpa using hj
    · cases hj
  have hold : (Builtin.firstCells i0.size i (.slice (some ⟨g, 0, none⟩) i c)).run Tryz.prog w.drew = .ok (xs.take (i * 8)).toArray w.drew := by
    rw [q4]
    exact run_firstCells_some w.drew 8 i ⟨g, 0, none⟩ i c (xs.take (i * 8)) (by rw [htl]) (fun j u hj => by
      rw [List.getElem?_take] at hj
      split at hj
      · have := hsrc w.drew rfl 0 j u (by simpa using hj)
        rw [show (⟨g, 0, none⟩ : Addr).add j = ⟨g, 0 + j, none⟩ by simp [Addr.add]; omega]
        exact this
      · cases hj)
  obtain ⟨G, hG⟩ : ∃ G, G = grownCap w (n + 1) c 121 := ⟨_, rfl⟩
  obtain ⟨ROW, hROW⟩ : ∃ ROW : Array Value, ROW = (xs.take (i * 8)).toArray ++ Builtin.zeroCells z.cells (n + 1 - i) ++ Builtin.zeroCells z.cells (G - (n + 1)) := ⟨_, rfl⟩
  have hrz : ∀ ty (k : Int), k = ((n + 1 - i : Nat) : Int) → (Builtin.append_ #[27, 3] ty #[.slice (some ⟨g, 0, none⟩) i c, .int .i64 k]).run Tryz.prog w = .ok (.slice (some ⟨w.heap.size, 0, none⟩) (n + 1) G) (w.drew.alloc (.cells ROW 121)) := fun ty k hk => by
    have h := Lib.run_append_grow_zeros w 27 3 ty 121 i0 _ .i64 .i64 q1 Tryz.underlying3 q2 q3 (some ⟨g, 0, none⟩) i c (xs.take (i * 8)) hold (n + 1 - i) (by omega) (by omega) (by omega) (by omega) (by rw [q5]; omega) (by rw [q5, hik]; exact growslice_fits hroom (by omega))
    rw [hik, ← hG, ← hROW, ← hk] at h
    exact h
  have hGn : n + 1 ≤ G := by rw [hG]; exact grownCap_ge w _ _ _
  have hGm : G ≤ maxLen := by rw [hG]; exact grownCap_le_maxLen w (n + 1) c 121 (by unfold maxLen; omega)
  have hRs : ROW.size = G * 8 := by
    rw [hROW, Array.size_append, Array.size_append, size_zeroCells, size_zeroCells, q6, List.size_toArray, htl]
    omega
  have hRt : ROW.toList.take (i * 8) = xs.take (i * 8) := by
    rw [hROW, Array.toList_append, Array.toList_append, List.append_assoc]
    exact List.take_left' htl
  obtain ⟨L1, hL1⟩ : ∃ L1, L1 = ROW.toList.take (i * 8) ++ ys ++ ROW.toList.drop (i * 8 + ys.length) := ⟨_, rfl⟩
  have hRl : ROW.toList.length = G * 8 := by simpa using hRs
  have hl1 : L1.length = G * 8 := by rw [hL1, List.length_append, List.length_append, List.length_take, List.length_drop, hyl, hRl]; omega
  obtain ⟨N, hN⟩ : ∃ N, N = w.heap.size := ⟨_, rfl⟩
  rw [← hN] at hrz
  have hcp1 : ∀ (W : World) ty dl dc o1, W.heap[N]? = some (.cells ROW 121 (0, 0)) → W.heap[vb]? = w.heap[vb]? → o1 = i * 8 → 1 ≤ dl → (Builtin.copy_ #[27, 27] ty #[.slice (some ⟨N, o1, none⟩) dl dc, .slice (some ⟨vb, 0, none⟩) 1 vc]).run Tryz.prog W = .ok (goInt (Nat.min 1 dl)) (W.setRow N L1.toArray) := by
    intro W ty dl dc o1 hW hV e1 e2
    subst e1
    rw [hL1]
    have hm : Nat.min 1 dl = 1 := by simp only [Nat.min_def]; split <;> omega
    refine run_copyR W 27 27 ty 121 i0 q1 q2 N _ dl dc ROW hW ⟨vb, 0, none⟩ 1 vc ys (by rw [hm, q4, hyl]) (fun j v hj => ?_) (by rw [hyl, hRs]; omega) h1
    rw [show (⟨vb, 0, none⟩ : Addr).add j = ⟨vb, j, none⟩ by simp [Addr.add]; omega]
    have := hys j v hj
    unfold World.cell? at this ⊢
    rw [show W.heap[(⟨vb, j, none⟩ : Addr).block]? = w.heap[(⟨vb, j, none⟩ : Addr).block]? from hV]
    exact this
  obtain ⟨L2, hL2⟩ : ∃ L2, L2 = L1.take ((i + 1) * 8) ++ xs.drop (i * 8) ++ L1.drop ((i + 1) * 8 + (xs.drop (i * 8)).length) := ⟨_, rfl⟩
  have hcp2 : ∀ (W : World) ty dl sl dc sc o1 o2, W.heap[N]? = some (.cells L1.toArray 121 (0, 0)) → W.heap[g]? = w.heap[g]? → o1 = (i + 1) * 8 → o2 = i * 8 → dl = n - i → sl = n - i → (Builtin.copy_ #[27, 27] ty #[.slice (some ⟨N, o1, none⟩) dl dc, .slice (some ⟨g, o2, none⟩) sl sc]).run Tryz.prog W = .ok (goInt (Nat.min sl dl)) (W.setRow N L2.toArray) := by
    rw [hL2]
    intro W ty dl sl dc sc o1 o2 hW hV e1 e2 e3 e4
    subst e1 e2 e3 e4
    have hm : Nat.min (n - i) (n - i) = n - i := Nat.min_self _
    refine run_copyR W 27 27 ty 121 i0 q1 q2 N _ _ dc L1.toArray hW ⟨g, i * 8, none⟩ _ sc (xs.drop (i * 8)) (by rw [hm, q4]; exact hdl) (fun j v hj => ?_) (by rw [hdl, List.size_toArray, hl1]; omega) (fun v hv => h1x v (List.mem_of_mem_drop hv))
    rw [show (⟨g, i * 8, none⟩ : Addr).add j = ⟨g, i * 8 + j, none⟩ by simp [Addr.add]]
    exact hsrc W hV _ j v hj
  have fin : ∀ (W0 W1 W2 : World), W0.heap = (w.alloc (.cells ROW 121)).heap → W0.os = w.os → W0.tape = w.tape → W0.output = w.output → W1 = W0.setRow N L1.toArray → W2.heap = (W1.setRow N L2.toArray).heap → W2.os = w.os → W2.tape = w.tape → W2.output = w.output →
      InsPost w base (.slice (some ⟨g, 0, none⟩) n c) n i xs ys (.returned (.slice (some ⟨N, 0, none⟩) (n + 1) G)) W2 := by
    intro W0 W1 W2 hW0 _ _ _ hW1 hW2 hos htp hop
    have hh0 : W0.heap[N]? = some (.cells ROW 121 (0, 0)) := by rw [hW0, hN]; exact heap_alloc_new w _
    have hh1 : W1.heap[N]? = some (.cells L1.toArray 121 (0, 0)) := by rw [hW1]; exact setRow_heap W0 N _ _ 121 _ hh0
    have hh2 : W2.heap[N]? = some (.cells L2.toArray 121 (0, 0)) := by rw [hW2]; exact setRow_heap W1 N _ _ 121 _ hh1
    have hxd : (xs.take (i * 8) ++ ys ++ xs.drop (i * 8)).length = (n + 1) * 8 := by rw [List.length_append, List.length_append, htl, hdl, hyl]; omega
    have e8 : (i + 1) * 8 = i * 8 + ys.length := by omega
    have e0 : L1.take ((i + 1) * 8) = xs.take (i * 8) ++ ys := by
      rw [hL1, hRt]
      exact List.take_left' (by rw [List.length_append, htl, e8])
    rw [hL2, e0] at hh2
    have hsz : W2.heap.size = w.heap.size + 1 := by rw [hW2, hW1]; simp [World.setRow, hW0]
    refine ⟨_, rfl, ⟨hxd, .inr ⟨N, G, _, rfl, by omega, hh2, hGn, hGm, ?_, ?_⟩⟩, ⟨hos, htp, hop, by omega, fun k hk hne => ?_⟩, fun k hk => .inr ?_⟩
    · rw [List.size_toArray, List.length_append, hxd, List.length_drop, hl1, hdl]
      omega
    · exact List.take_left' hxd
    · have hk2 : k ≠ N := by omega
      rw [hW2, setRow_other _ _ _ _ hk2, hW1, setRow_other _ _ _ _ hk2, hW0]
      exact heap_alloc_old w _ hk
    · simp [blockOf] at hk
      omega
  unfold maxLen at hGm
  have hsub : n + 1 - (i + 1) = n - i := by omega
  have hw1 : IntKind.i64.wrap ((i : Int) + 1) = (i : Int) + 1 := w64 (by omega) (by omega)
  have hw2 : IntKind.i64.wrap ((n : Int) + 1) = (n : Int) + 1 := w64 (by omega) (by omega)
  have hw3 : IntKind.i64.wrap ((n : Int) + 1 - (i : Int)) = (n : Int) + 1 - (i : Int) := w64 (by omega) (by omega)
  have hb3 : (0 : Int) ≤ (i : Int) + 1 := by omega
  have htn : ((i : Int) + 1).toNat = i + 1 := by omega
  have hb4 : ¬ (G = i + 1) := by omega
  have hb5 : ¬ (G = i) := by omega
  have hb7 : ¬ (c = i) := by omega
  have hb6 : (i : Int) ≤ (n : Int) + 1 := by omega
  have hb8 : (c : Int) < (n : Int) + 1 := by omega
  have hr1 := hrz 27 ((n : Int) + 1 - (i : Int)) hkk
  subst hN
  have hx1 : ((w.alloc (.cells ROW 121)).drew.setRow w.heap.size L1.toArray).drew.heap[w.heap.size]? = some (.cells L1.toArray 121 (0, 0)) := setRow_heap (w.alloc (.cells ROW 121)) _ _ _ 121 _ (heap_alloc_new w _)
  have hx2 : ((w.alloc (.cells ROW 121)).drew.setRow w.heap.size L1.toArray).drew.heap[g]? = w.heap[g]? := (setRow_other (w.alloc (.cells ROW 121)) _ _ _ (Nat.ne_of_lt hgw)).trans (heap_alloc_old w _ hgw)
  clear hL2 hL1 hl1 hcl hxl hdl hROW hG hold hRl hRt hRs hkk hrz hik
  go_enter Tryz.func151, Tryz.ntmps151
  go_wp2_with (at_builtin; refine Lib.wpList_append_run _ rfl _ _ _ _ rfl _ _ rfl rfl _ _ hr1 ?_)
  rw [hcp1 ((w.alloc (.cells ROW 121)).drew) 3 (n + 1 - i) (G - i) (i * 8) (heap_alloc_new w _) (heap_alloc_old w _ hvw) rfl (by omega)]
  simp only [Result.andThen]
  rw [Oper.upon_value]
  go_wp2
  go_region_law_o (refine step_copyR rfl _ _ 27 27 rfl _ _ (by simp [Act.eval, Act.put]) (by simp [Act.eval, Act.put]) (hcp2 ((w.alloc (.cells ROW 121)).drew.setRow w.heap.size L1.toArray).drew 3 (n - i) (n - i) (G - (i + 1)) (c - i) ((i + 1) * 8) (i * 8) hx1 hx2 rfl rfl rfl rfl) ?_)
  go_wp2
  go_ret
  exact fin _ _ _ rfl rfl rfl rfl rfl rfl rfl rfl rfl
end
section
variable {w : World} {Fx : Nat → Prop} {β : List Hd} {G : List (Option Nat)}
theorem CellsD.reix {pv : Nat → Prop} {hb : Option Nat} {sz : Nat} {es es' : List (List AV)} {xs xs' : List Value} (h : CellsD w Fx β G pv hb sz es xs) (p : Nat → Nat) (hl : xs'.length = es'.length * sz) (hinj : ∀ i j, i < es'.length → j < es'.length → p i = p j → i = j)
    (he : ∀ i, i < es'.length → es'[i]? = es[p i]?) (hx : ∀ i j, i < es'.length → j < sz → xs'[i * sz + j]? = xs[p i * sz + j]?) : CellsD w Fx β G pv hb sz es' xs' := by
  obtain ⟨h1, h2, pc, h3, h4, h5⟩ := h
  have lt : ∀ {i : Nat} {r : List AV}, es'[i]? = some r → i < es'.length := fun h => (List.getElem?_eq_some_iff.1 h).1
  have wd : ∀ {i j : Nat} {r : List AV} {x : AV}, es'[i]? = some r → r[j]? = some x → j < sz := fun {i j r x} hr hj => by
    have := (h2 _ r ((he i (lt hr)).symm.trans hr)).1
    rw [← this]
    exact (List.getElem?_eq_some_iff.1 hj).1
  refine ⟨hl, fun i r hr => ⟨(h2 _ r ((he i (lt hr)).symm.trans hr)).1, fun j x hj => ?_⟩, fun i j q => i < es'.length ∧ pc (p i) j q, fun i j q hp => h3 _ j q hp.2, fun i j i' j' q hp hq => ?_, fun i r j d hr hj => ?_⟩
  · obtain ⟨u, hu, ho, hR⟩ := (h2 _ r ((he i (lt hr)).symm.trans hr)).2 j x hj
    exact ⟨u, (hx i j (lt hr) (wd hr hj)).trans hu, ho, hR⟩
  · have := h4 _ _ _ _ q hp.2 hq.2
    exact ⟨hinj i i' hp.1 hq.1 this.1, this.2⟩
  · obtain ⟨u, hu, hR⟩ := h5 _ r j d ((he i (lt hr)).symm.trans hr) hj
    exact ⟨u, (hx i j (lt hr) (wd hr hj)).trans hu, hR.mono fun q hq => ⟨lt hr, hq⟩⟩
theorem CellsD.ins {pv pv2 : Nat → Prop} {hb hb2 : Option Nat} {es : List (List AV)} {e : List AV} {xs ys : List Value} {k : Nat} (hk : k ≤ es.length) (h : CellsD w Fx β G pv hb 8 es xs) (h2 : CellsD w Fx β G pv2 hb2 8 [e] ys) (hd : ∀ q, pv2 q → ¬ pv q ∧ hb ≠ some q) :
    CellsD w Fx β G (fun q => pv q ∨ pv2 q) hb 8 (es.take k ++ [e] ++ es.drop k) (xs.take (k * 8) ++ ys ++ xs.drop (k * 8)) := by
  have hxl := h.len
  have hyl : ys.length = 8 := by simpa using h2.len
  have hL : (es.take k ++ [e] ++ es.drop k).length = es.length + 1 := by simp; omega
  have ht : (xs.take (k * 8)).length = k * 8 := by rw [List.length_take]; omega
  have ht2 : (es.take k).length = k := by rw [List.length_take]; omega
  refine (h.append2 h2 hd).reix (fun i => if i < k then i else if i = k then es.length else i - 1) ?_ (fun i j hi hj e => ?_) (fun i hi => ?_) (fun i j hi hj => ?_)
  · rw [hL, List.length_append, List.length_append, ht, List.length_drop, hyl]; omega
  · rw [hL] at hi hj
    try dsimp only at e
    split at e <;> split at e <;> (try split at e) <;> (try split at e) <;> omega
  · rw [hL] at hi
    try dsimp only
    split
    · rw [List.append_assoc, List.getElem?_append_left (by omega), List.getElem?_take, if_pos (by assumption), List.getElem?_append_left (by omega)]
    · split
      · subst i
        rw [List.append_assoc, List.getElem?_append_right (by omega), ht2, Nat.sub_self, List.getElem?_append_right (Nat.le_refl _), Nat.sub_self]
        rfl
      · rw [List.getElem?_append_right (by simp; omega), List.getElem?_drop, List.getElem?_append_left (by omega)]
        congr 1
        simp
        omega
  · rw [hL] at hi
    try dsimp only
    split
    · rw [List.append_assoc, List.getElem?_append_left (by omega), List.getElem?_take, if_pos (by omega), List.getElem?_append_left (by omega)]
    · split
      · subst i
        rw [List.append_assoc, List.getElem?_append_right (by omega), ht, List.getElem?_append_left (by omega), List.getElem?_append_right (by omega)]
        congr 1
        omega
      · rw [List.getElem?_append_right (by rw [List.length_append, ht, hyl]; omega), List.getElem?_drop, List.getElem?_append_left (by omega)]
        congr 1
        rw [List.length_append, ht, hyl]
        omega
end
section
variable {E : Env} {tm : List AV} {M : Mem} {o : Oper}
theorem ins_calls {w : World} {base n i : Nat} {v u : Value} {xs ys : List Value} (hown : w.ownsRow base 121 8 v n xs) (hu : w.ownsRow base 121 8 u 1 ys) (hne : ∀ k, blockOf v = some k → blockOf u ≠ some k) (hi : i ≤ n) (hn : n ≤ 1048576) (hbase : base ≤ w.heap.size) (h1x : ∀ u ∈ xs, u.oneCell' = true) (h1 : ∀ u ∈ ys, u.oneCell' = true) :
    Calls Tryz.prog 151 #[v, .int .i64 i, u] w (InsPost w base v n i xs ys) := by
  have hyl : ys.length = 8 := by simpa using hu.1
  rcases hu.2 with ⟨_, h0⟩ | ⟨vb, vc, cuy, rfl, hb1, hgv, hb2, hb3, hb4, hb5⟩
  · omega
  have hys : ∀ j u, ys[j]? = some u → w.cell? ⟨vb, j, none⟩ = some u := fun j u hj => by
    have := hu.cells (g := vb) rfl j u hj
    rwa [show (⟨vb, 0, none⟩ : Addr).add j = ⟨vb, j, none⟩ by simp [Addr.add]; omega] at this
  by_cases hin : i = n
  · subst hin
    exact ins_end v hown vb vc hyl hys h1 hn hbase
  · rcases hown.2 with ⟨_, h0⟩ | ⟨g, c, cur, rfl, hbg, hg, hnc, hcm, hcs, hxs⟩
    · omega
    · have hvb : vb ≠ g := fun e => hne g rfl (by rw [e]; rfl)
      by_cases hr : n + 1 ≤ c
      · exact ins_room g i c cur hg hcs hxs hbg (by omega) hr hcm vb vc hvb cuy hgv hyl hys h1x h1 hn
      · exact ins_grow g i c cur hg hcs hxs (by omega) hnc (by omega) vb vc cuy hgv hyl hys h1x h1 hn hbase
theorem POp.ins {s x y : Operand} {tys : Array TypeId} {id g id2 g2 k : Nat} {b b2 : Blk} {e : List AV} {b' : Mem} (ho : o.op = .call { callee := .value (.func 151), args := #[s, y, x], argTypes := tys } := by rfl) (hs : evA tm s = some (.own id g) := by rfl) (hM : M[id]? = some (some b) := by rfl) (hg : b.gen = g := by rfl) (hb : b.box = false := by rfl) (hty : b.ty = 121 := by rfl) (hbs : b.sz = 8 := by rfl)
    (hx : evA tm x = some (.own id2 g2) := by rfl) (hM2 : M[id2]? = some (some b2) := by rfl) (hg2 : b2.gen = g2 := by rfl) (hb2 : b2.box = false := by rfl) (hty2 : b2.ty = 121 := by rfl) (hbs2 : b2.sz = 8 := by rfl) (he2 : b2.es = [e] := by rfl) (hne : Nat.beq id id2 = false := by rfl) (hy : sc tm y = some (.int .i64 (k : Int)) := by rfl)
    (hk : k ≤ b.es.length := by assumption) (hn : b.es.length ≤ 1048576 := by assumption) (em : (M.set id2 none).set id (some { b with es := b.es.take k ++ [e] ++ b.es.drop k, gen := b.gen + 1 }) = b' := by rfl) : POp Tryz.prog o E tm M (.own id (g + 1)) b' := by
  subst em
  have hne : id ≠ id2 := Nat.ne_of_beq_eq_false hne
  intro a w K Q Fx β hh hsl hkk
  have hrs := hsl.ev hs
  generalize hv0 : a.eval s = v at hrs
  obtain ⟨hd, hvv, hdv⟩ : ∃ hd, β[id]? = some hd ∧ hd.v = v := by
    cases hrs with
    | own _ _ _ h => exact h (by rw [← hg]; exact gens_of hM)
  have hrx := hsl.ev hx
  generalize hu0 : a.eval x = u at hrx
  obtain ⟨hd2, hvv2, hdv2⟩ : ∃ hd, β[id2]? = some hd ∧ hd.v = u := by
    cases hrx with
    | own _ _ _ h => exact h (by rw [← hg2]; exact gens_of hM2)
  obtain ⟨hh2, m2, own2⟩ := hh.give hM hM2 hne hvv hvv2
  obtain ⟨v2, hv2, hok⟩ := hh.blk id b hM
  rw [hvv] at hv2
  obtain rfl := Option.some.inj hv2
  obtain ⟨v2, hv2, hokx⟩ := hh.blk id2 b2 hM2
  rw [hvv2] at hv2
  obtain rfl := Option.some.inj hv2
  obtain ⟨hok1, hok2⟩ := hok
  obtain ⟨hokx1, hokx2⟩ := hokx
  rw [hb] at hok2
  rw [hb2] at hokx2
  obtain ⟨xs, hown, hc⟩ := hok2
  obtain ⟨ys, hownx, hcx⟩ := hokx2
  rw [hty, hbs] at hown
  rw [hbs] at hc
  rw [hty2, hbs2, he2] at hownx
  rw [hbs2, he2] at hcx
  rw [← hdv] at hv0
  rw [← hdv2] at hu0
  clear hrs hdv v hrx hdv2 u
  obtain ⟨v, pv⟩ := hd
  obtain ⟨u, pv2⟩ := hd2
  dsimp only at hv0 hu0 hown hc hownx hcx hh2 m2 own2
  have hc2 := CellsD.ins hk (hc.mv m2 (fun _ _ _ => rfl)) (hcx.mv m2 (fun _ _ _ => rfl)) (fun q hq => ⟨fun hp => hh.inj id id2 _ _ _ _ q hne hM hM2 hvv hvv2 (.inr hp) (.inr hq), fun hp => hh.inj id id2 _ _ _ _ q hne hM hM2 hvv hvv2 (.inl hp) (.inr hq)⟩)
  have one : ∀ {es : List (List AV)} {zs : List Value} {pv : Nat → Prop} {hb : Option Nat}, CellsD w Fx β (gens M) pv hb 8 es zs → ∀ v ∈ zs, v.oneCell' = true := fun {es zs pv hb} hcx v hv => by
    obtain ⟨q, hq⟩ := List.getElem?_of_mem hv
    have hlt : q < _ := (List.getElem?_eq_some_iff.1 hq).1
    rw [hcx.len] at hlt
    have hi' : q / 8 < es.length := by omega
    have hrl := (hcx.cel (q / 8) _ (List.getElem?_eq_getElem hi')).1
    have hj : q % 8 < (es[q / 8]).length := by rw [hrl]; omega
    obtain ⟨v2, hv2, h1, _⟩ := (hcx.cel (q / 8) _ (List.getElem?_eq_getElem hi')).2 (q % 8) _ (List.getElem?_eq_getElem hj)
    rw [Nat.div_add_mod'] at hv2
    rw [hq] at hv2
    obtain rfl := Option.some.inj hv2
    exact h1
  have hidl : id < M.length := (List.getElem?_eq_some_iff.1 hM).1
  have hM' : (M.set id2 none)[id]? = some (some b) := by rw [List.getElem?_set, if_neg (Ne.symm hne)]; exact hM
  have hv' : (β.set id ⟨v, fun q => pv q ∨ pv2 q⟩)[id]? = some ⟨v, fun q => pv q ∨ pv2 q⟩ := by rw [List.getElem?_set, if_pos rfl, if_pos (by rw [hh.len]; exact hidl)]
  have hl : (b.es.take k ++ [e] ++ b.es.drop k).length = b.es.length + 1 := by simp; omega
  have hy0 : a.eval y = .int .i64 (k : Int) := hsl.sc hy
  unfold Oper.wp
  rw [run_call ho Tryz.func151 rfl rfl, Oper.upon_enter]
  have ea : (#[s, y, x] : Array Operand).map a.eval = #[v, .int .i64 k, u] := by simp [hv0, hu0, hy0]
  rw [ea]
  refine (ins_calls hown hownx (fun q h1 h2 => hh.inj id id2 _ _ _ _ q hne hM hM2 hvv hvv2 (.inl h1) (.inl h2)) hk hn hh.bs (one hc) (one hcx)).mono ?_
  rintro e' w' ⟨v', rfl, ho', hgr, hfr⟩
  obtain ⟨hh', hx'⟩ := hh2.regrow hM' hb hv' hgr (es := b.es.take k ++ [e] ++ b.es.drop k) (by rw [hl, hty, hbs]; exact ho') hfr (by rw [hbs]; exact hc2)
  have hl2 : id < (M.set id2 none).length := by simpa using hidl
  refine hkk _ _ _ _ hh' ⟨m2.trans hx'.mv, hx'.size, fun q hF => ?_, fun i b1 v1 q g1 g2 g3 => ?_⟩ (.own ?_ (by simp [gens, hidl]) (fun g1 hg1 => ?_) (fun _ => ?_))
  · rcases hx'.lim q hF with h | h | ⟨i, b1, v1, g1, g2, g3⟩
    · exact .inl h
    · exact .inr (.inl h)
    · obtain ⟨i', b', v', k1, k2, k3⟩ := own2 i b1 v1 q g1 g2 g3
      exact .inr (.inr ⟨i', b', v', k1, k2, k3⟩)
  · rcases hx'.own i b1 v1 q g1 g2 g3 with h | ⟨i', b', v', k1, k2, k3⟩
    · exact .inl h
    · exact .inr (own2 i' b' v' q k1 k2 k3)
  · rcases ho'.2 with ⟨rfl, _⟩ | ⟨g', cap, cur, rfl, _⟩ <;> rfl
  · have := gens_of (M := (M.set id2 none).set id (some { b with es := b.es.take k ++ [e] ++ b.es.drop k, gen := b.gen + 1 })) (id := id) (b := { b with es := b.es.take k ++ [e] ++ b.es.drop k, gen := b.gen + 1 }) (by rw [List.getElem?_set, if_pos rfl, if_pos hl2])
    rw [this] at hg1
    simp at hg1
    omega
  · exact ⟨_, by rw [List.getElem?_set, if_pos rfl, if_pos (by rw [hh2.len]; exact hl2)], rfl⟩
end

end Go.Proofs.YtacbpfbelcdeiaaGreat.Abs

/- The walk of the program's TakeEntry. -/
namespace Go.Proofs.YtacbpfbelcdeiaaGreat.Abs
open Go.Proofs Go.RowKit
set_option linter.unusedVariables false
set_option linter.unusedSimpArgs false
set_option maxRecDepth 100000
set_option maxHeartbeats 2000000
attribute [local irreducible] OpA AL AW DL DLM DLR DLS QOp POp VCalls VCallsI
theorem fitsM_dcl {n : Nat} {b : Blk} {M : Mem} (h : DCl b.es) (hm : FitsM n M) : FitsM n (some b :: M) := fun b' hb r hr x hx => by
  rcases List.mem_cons.1 hb with e | e
  · exact fits_dcl (n := n) h b' (by rw [e]; exact List.mem_singleton_self _) r hr x hx
  · exact hm b' e r hr x hx
theorem set_app {l : List TEntry} {K : Nat} {y : TEntry} (h : K < l.length) : (l.map TEntry.ed).set K y.ed = (l.take K ++ [y] ++ l.drop (K + 1)).map TEntry.ed := by
  rw [List.set_eq_take_append_cons_drop, if_pos (by rw [List.length_map]; exact h), List.map_append, List.map_append, List.map_take, List.map_drop, List.append_assoc]
  rfl
theorem ins_app {l : List TEntry} {K : Nat} {y : TEntry} : (l.map TEntry.ed).take K ++ [y.ed] ++ (l.map TEntry.ed).drop K = (l.take K ++ [y] ++ l.drop K).map TEntry.ed := by
  rw [List.map_append, List.map_append, List.map_take, List.map_drop]
  rfl
theorem take_i0 (l : List TEntry) (y : TEntry) (hl : l.length ≤ 1048576) (hp : ∀ x ∈ l, x.feature.gd) (hy : y.feature.gd) (hL : isLog l = false) : VCalls Tryz.prog 124 [.ro 8 (l.map TEntry.en), .agg y.en] (fun r M => r = .own 0 0 ∧ M = [some ⟨121, 8, 0, false, (takeE l y).map TEntry.ed⟩]) := by
  refine VB Tryz.func124 72 (fun E hE => ?_)
  have hclo : Clo (.ro 8 (l.map TEntry.en)) := clo_list TEntry.clo_en
  have hclY : Clo (.agg y.en) := Clo.agg y.clo_en
  have hclP : Clo (.ro 2 (y.feature.points.map TPoint.en)) := clo_list TPoint.clo_en
  have hys := hy.1
  have hsm : ∀ x ∈ l, x.feature.sm := fun x hx => (hp x hx).1
  dsimp only [TEntry.en]
  repeat' ((first
    | (refine iAL ?_; first | refine AL.any ?_ | refine AL.any (h := POp.k Tryz.func89 (hc := isLog_i l (by assumption) (by assumption))) ?_ | refine AL.any (h := POp.D Tryz.func89 (hc := isLog_i (newL l y) hnl (newL_all hp hy)) (hvw := vwlF)) ?_ | refine AL.any (h := POp.O Tryz.func115 (hc := cpL_i l (by assumption) (by assumption))) ?_ | refine AL.any (h := POp.O Tryz.func122 (hc := cloneF y.feature (by assumption))) ?_ | refine AL.any (h := POp.D Tryz.func150 (hc := newer_i y x)) ?_ | refine AL.U ?_ | refine AL.F ?_ | refine AL.T ?_ | refine AL.W ?_ | refine AL.nil ?_)
    | ((with_reducible show DL ..); first | refine DL.any ?_ | refine DL.U ?_ | refine DL.F ?_ | refine DL.T ?_ | refine DL.W ?_ | refine DL.nil ?_)
    | (refine iAW ?_; first | (refine AW.c0 ?_; constructor) | refine AW.dr (id := 5) 14 ?_ | refine AW.dr (id := 8) 14 ?_ | refine AW.dr (id := 9) 5 ?_ | refine AW.cT ?_ | refine AW.cF ?_ | (refine AW.c2 ?_ ?_ <;> (intro h; try simp only [bT, bF] at h)))
    | with_reducible refine ifP ?_
    | with_reducible refine ifN ?_) <;> (try dsimp only))
  all_goals (rw [takeE_1 hL]; exact Fin.r1 [1] rfl (RV.tmp (by rfl)) ⟨rfl, rfl⟩)

theorem take_i1 (l : List TEntry) (y : TEntry) (hl : l.length ≤ 1048576) (hp : ∀ x ∈ l, x.feature.gd) (hy : y.feature.gd) (hL : isLog l = true) (hnl : (newL l y).length ≤ 1048576) : VCalls Tryz.prog 124 [.ro 8 (l.map TEntry.en), .agg y.en] (fun r M => r = .own 0 0 ∧ M = [some ⟨121, 8, 0, false, (takeE l y).map TEntry.ed⟩]) := by
  refine VB Tryz.func124 72 (fun E hE => ?_)
  have hclo : Clo (.ro 8 (l.map TEntry.en)) := clo_list TEntry.clo_en
  have hclY : Clo (.agg y.en) := Clo.agg y.clo_en
  have hclP : Clo (.ro 2 (y.feature.points.map TPoint.en)) := clo_list TPoint.clo_en
  have hys := hy.1
  have hsm : ∀ x ∈ l, x.feature.sm := fun x hx => (hp x hx).1
  dsimp only [TEntry.en]
  repeat' ((first
    | (refine iAL ?_; first | refine AL.any (h := POp.gh (POp.literal (by rfl) rwk27 (by rfl) (by rfl) (by rfl) (by rfl) (by rfl) (by rfl)) (Gh.absorbA (q := 3) (A := []) (id := 2) (j := 4) rfl rfl rfl rfl rfl rfl (DCl.map (fun _ => rfl)) TPoint.und)) ?_ | refine AL.any (h := POp.gh (POp.sto (by rfl) (by rfl) (by rfl) (by rfl) (by rfl) hgd (by rfl) (by rfl) (TT_ok.ld _ _ (by rfl)) (by rfl) (Nat.le_of_ble_eq_true (by rfl)) (by rfl)) (Gh.absorbS (q := 1) (id := 2) (j := 4) rfl hKn rfl rfl rfl rfl rfl (DCl.map (fun _ => rfl)) TPoint.und)) ?_ | refine AL.any (h := POp.ins (k := K)) ?_ | refine AL.any ?_ | refine AL.any (h := POp.k Tryz.func89 (hc := isLog_i l (by assumption) (by assumption))) ?_ | refine AL.any (h := POp.D Tryz.func89 (hc := isLog_i (newL l y) hnl (newL_all hp hy)) (hvw := vwlF)) ?_ | refine AL.any (h := POp.O Tryz.func115 (hc := cpL_i l (by assumption) (by assumption))) ?_ | refine AL.any (h := POp.O Tryz.func122 (hc := cloneF y.feature (by assumption))) ?_ | refine AL.any (h := POp.D Tryz.func150 (hc := newer_i y x)) ?_ | refine AL.U ?_ | refine AL.F ?_ | refine AL.T ?_ | refine AL.W ?_ | refine AL.nil ?_)
    | ((with_reducible show DL ..); first | refine DL.any ?_ | refine DL.U ?_ | refine DL.F ?_ | refine DL.T ?_ | refine DL.W ?_ | refine DL.nil ?_)
    | (refine iAW ?_; first | (refine AW.row1 (X := (newL l y).map TEntry.ed) hnew ?_) | (refine AW.c0 ?_; constructor) | refine AW.dr (id := 5) 14 ?_ | refine AW.dr (id := 8) 14 ?_ | refine AW.dr (id := 9) 5 ?_ | refine AW.cT ?_ | refine AW.cF ?_ | (refine AW.c2 ?_ ?_ <;> (intro h; try simp only [bT, bF] at h)))
    | (refine AW.loopD hE (fun i : Nat => (.ro 8 (l.map TEntry.en) :: .any :: .any :: .ref 0 0 8 0 0 :: .any :: .own 1 0 :: I (i : Int) :: .any :: .any :: .any :: .any :: .any :: .any :: .any :: .any :: .any :: .any :: .any :: .any :: .any :: .any :: .any :: .any :: .any :: .any :: .any :: .any :: .any :: .any :: .any :: .any :: .any :: .any :: .any :: .any :: .any :: .any :: .any :: .any :: .any :: .any :: .any :: .any :: .any :: .any :: .any :: .any :: .any :: .any :: .any :: .any :: .any :: .any :: .any :: .any :: .any :: .any :: .any :: .any :: .any :: .any :: .any :: .any :: .any :: .any :: .any :: .any :: .any :: .any :: .any :: .any :: .any :: .any :: .any :: [])) (fun i => [some ⟨121, 8, 0, true, [y.en]⟩, some ⟨121, 8, 0, false, l.map TEntry.ed⟩]) (fun i => (posTo l y.feature.id) - i) (fun i => i ≤ (posTo l y.feature.id)) 0 (by simp) ?_ (by first | rfl | (simp [fil_zero]; done)) ?_
       (focus (exact wkI))
       intro i hi
       by_cases hlt : i < (posTo l y.feature.id)
       case' pos =>
         have hP := True.intro
         obtain ⟨x, hx, hxl⟩ := posTo_lt hlt
         have hN := (List.getElem?_eq_some_iff.1 hx).1
         have hg := map_get (f := TEntry.en) hx
         have ht := lt_true (f := TEntry.en) hN
         have hn := next_ix hN (by omega)
       case' neg =>
         have hQ := True.intro
         have e : i = (posTo l y.feature.id) := by omega
         subst e
         have hle := posTo_le l y.feature.id
         have hpc := pos_cases l y
         have hnw : newL l y = l.take (posTo l y.feature.id) ++ [y] ++ l.drop (if sameAt l y.feature.id = true then posTo l y.feature.id + 1 else posTo l y.feature.id) := rfl
         obtain ⟨K, hK⟩ : ∃ K, K = posTo l y.feature.id := ⟨_, rfl⟩
         rw [← hK] at hpc hle hnw ⊢
         have hKl : K ≤ (l.map TEntry.ed).length := by rw [List.length_map]; omega
         have hlm : (l.map TEntry.ed).length ≤ 1048576 := by rw [List.length_map]; omega
         rcases hpc with ⟨q1, q2, hrf, q4⟩ | ⟨x, hx, hxl, q2, q3⟩
         have ht : decide (((K : Nat) : Int) < ((l.map TEntry.en).length : Int)) = false := by rw [List.length_map]; simp; omega
         have hnew := (ins_app (l := l) (K := K) (y := y)).trans (congrArg (List.map TEntry.ed) (by rw [hnw, q2]; rfl : l.take K ++ [y] ++ l.drop K = newL l y))
         rotate_left 1
         have hN := (List.getElem?_eq_some_iff.1 hx).1
         have hg := map_get (f := TEntry.en) hx
         have hgd := map_get (f := TEntry.ed) hx
         have ht := lt_true (f := TEntry.en) hN
         have hKn : ((K : Nat) : Int).toNat < (l.map TEntry.ed).length := by rw [Int.toNat_natCast, List.length_map]; omega
         have hclx : Clo (.agg x.en) := Clo.agg x.clo_en
         have hclxp : Clo (.ro 2 (x.feature.points.map TPoint.en)) := clo_list TPoint.clo_en
         rcases Bool.eq_false_or_eq_true (x.feature.id == y.feature.id) with he | he
         rcases Bool.eq_false_or_eq_true (newer y x) with hw | hw
         have hnew := (set_app (y := y) hN).trans (congrArg (List.map TEntry.ed) (by rw [hnw, q2, he]; rfl : l.take K ++ [y] ++ l.drop (K + 1) = newL l y))
         have hrf : refused l y = false := by rw [q3, he, hw]; rfl
         rotate_left 1
         have hrt : refused l y = true := by rw [q3, he, hw]; rfl
         rotate_left 1
         have hnew := (ins_app (l := l) (K := K) (y := y)).trans (congrArg (List.map TEntry.ed) (by rw [hnw, q2, he]; rfl : l.take K ++ [y] ++ l.drop K = newL l y))
         have hrf : refused l y = false := by rw [q3, he]; rfl
         rotate_left 1)
    | with_reducible refine ifP ?_
    | with_reducible refine ifN ?_) <;> (try dsimp only))
  all_goals first
    | (have _ := hP; (refine ⟨i + 1, [], hlt, by omega, ?_, rfl, ?_, ?_⟩; (focus (exact wkN)); (focus (exact fitsA)); (focus (exact fitsM_cons (clo_one y.clo_en) (fitsM_dcl (DCl.map (fun _ => rfl)) (FitsM.nil _))))))
    | (have _ := hQ; first
        | (rw [takeE_2 (by assumption)]; exact Fin.r1 [1] rfl (RV.tmp (by rfl)) ⟨rfl, rfl⟩)
        | (rw [takeE_2 (by assumption)]; exact Fin.r1 [3] rfl (RV.tmp (by rfl)) ⟨rfl, rfl⟩)
        | (rw [takeE_2 (by assumption)]; exact Fin.r1 [4] rfl (RV.tmp (by rfl)) ⟨rfl, rfl⟩)
        | (rw [takeE_3 (by assumption)]; exact Fin.r1 [1] rfl (RV.tmp (by rfl)) ⟨rfl, rfl⟩)
        | (rw [takeE_3 (by assumption)]; exact Fin.r1 [3] rfl (RV.tmp (by rfl)) ⟨rfl, rfl⟩)
        | (rw [takeE_3 (by assumption)]; exact Fin.r1 [4] rfl (RV.tmp (by rfl)) ⟨rfl, rfl⟩)
        | (rw [takeE_4 hL (by assumption) (by assumption)]; exact Fin.r1 [1] rfl (RV.tmp (by rfl)) ⟨rfl, rfl⟩))

theorem take_i (l : List TEntry) (y : TEntry) (hl : l.length ≤ 1048576) (hp : ∀ x ∈ l, x.feature.gd) (hy : y.feature.gd) : VCalls Tryz.prog 124 [.ro 8 (l.map TEntry.en), .agg y.en] (fun r M => r = .own 0 0 ∧ M = [some ⟨121, 8, 0, false, (takeE l y).map TEntry.ed⟩]) := by
  rcases isLog_cases l y with ⟨hL, hnl⟩ | hL
  · exact take_i1 l y hl hp hy hL hnl
  · exact take_i0 l y hl hp hy hL
end Go.Proofs.YtacbpfbelcdeiaaGreat.Abs

/- Pieces of lists that stay. -/
namespace Go.Proofs.YtacbpfbelcdeiaaGreat.Abs
open Go.Proofs Go.RowKit
set_option linter.unusedVariables false
set_option linter.unusedSimpArgs false
set_option maxRecDepth 100000
set_option maxHeartbeats 2000000
section
variable {P : Program} {o : Oper} {tm : List AV} {M : Mem}
theorem elem_of {t e : TypeId} (h : P.underlying t = some (.slice e)) : P.elem t = e := by simp [Program.elem, h]
theorem Addr.add_block (a : Addr) (n : Nat) : (a.add n).block = a.block := by unfold Addr.add; split <;> rfl
theorem QOp.cut_l {x y : Operand} {t e : TypeId} {sz : Nat} {es : List (List AV)} {k : IntKind} {n : Int} {es2 : List (List AV)} (ho : o.op = .slice t x (some y) none none) (ht : slk P t = some (e, sz)) (hx : evA tm x = some (.ro sz es)) (hy : sc tm y = some (.int k n)) (h0 : 0 ≤ n) (h1 : n ≤ (es.length : Int)) (he : es.drop n.toNat = es2) :
    QOp P o tm M (.ro sz es2) := he ▸ fun base w0 a w Fx β hh hs => by
  have hrep := hs.ev hx
  generalize hu : a.eval x = u at hrep
  cases hrep with
  | @ro _ _ A cap f hc hm hA hl h1c h =>
    have hun := (slk_inv ht).1
    obtain ⟨i0, hi0, hs0⟩ := info_size (slk_inv ht).2
    have hun2 : P.underlying t = some (.slice (P.elem t)) := by rw [elem_of hun]; exact hun
    refine ⟨sliced A n.toNat es.length cap sz, fun w' _ => ?_, ?_⟩
    · simp [execOp, ho, hu, hs.sc hy, run_sliceAt_slice w' t _ _ _ _ hun2, run_slice_l w' t A es.length cap hun2 k n h0 h1, elem_of hun, sizeOf, typeInfo, hi0, hs0, Result.andThen]
    · have e1 : es.length - n.toNat = (es.drop n.toNat).length := by simp
      unfold sliced
      rw [e1]
      refine .ro (fun i j => f (i + n.toNat) j) (by rw [← e1]; omega) (by rw [← e1]; omega) (fun hp => ?_) (fun i r hr => hl (i + n.toNat) r (by rw [List.getElem?_drop] at hr; rw [Nat.add_comm]; exact hr)) (fun i j => h1c _ _) (fun i r j z hr hz => h (i + n.toNat) r j z (by rw [List.getElem?_drop] at hr; rw [Nat.add_comm]; exact hr) hz)
      have hlt : n.toNat < es.length := by rw [← e1] at hp; omega
      obtain ⟨ad, rfl, hF, hcell⟩ := hA (by omega)
      rw [if_neg (by omega)]
      refine ⟨ad.add (n.toNat * sz), rfl, by rw [Addr.add_block]; exact hF, fun i r j hr hj => ?_⟩
      rw [Addr.add_add, show n.toNat * sz + (i * sz + j) = (i + n.toNat) * sz + j by rw [Nat.add_mul]; omega]
      exact hcell (i + n.toNat) r j (by rw [List.getElem?_drop] at hr; rw [Nat.add_comm]; exact hr) hj
theorem QOp.cut_h {x y : Operand} {t e : TypeId} {sz : Nat} {es : List (List AV)} {k : IntKind} {n : Int} {es2 : List (List AV)} (ho : o.op = .slice t x none (some y) none) (ht : slk P t = some (e, sz)) (hx : evA tm x = some (.ro sz es)) (hy : sc tm y = some (.int k n)) (h0 : 0 ≤ n) (h1 : n ≤ (es.length : Int)) (he : es.take n.toNat = es2) :
    QOp P o tm M (.ro sz es2) := he ▸ fun base w0 a w Fx β hh hs => by
  have hrep := hs.ev hx
  generalize hu : a.eval x = u at hrep
  cases hrep with
  | @ro _ _ A cap f hc hm hA hl h1c h =>
    have hun := (slk_inv ht).1
    obtain ⟨i0, hi0, hs0⟩ := info_size (slk_inv ht).2
    have hun2 : P.underlying t = some (.slice (P.elem t)) := by rw [elem_of hun]; exact hun
    refine ⟨sliced A 0 n.toNat cap sz, fun w' _ => ?_, ?_⟩
    · simp [execOp, ho, hu, hs.sc hy, run_sliceAt_slice w' t _ _ _ _ hun2, run_slice_h w' t A es.length cap hun2 k n h0 (by omega), elem_of hun, sizeOf, typeInfo, hi0, hs0, Result.andThen]
    · have e1 : n.toNat - 0 = (es.take n.toNat).length := by simp; omega
      have tk : ∀ {i : Nat} {r : List AV}, (es.take n.toNat)[i]? = some r → es[i]? = some r := fun {i r} hr => by
        rw [List.getElem?_take] at hr
        split at hr
        · exact hr
        · cases hr
      unfold sliced
      rw [e1, Nat.sub_zero]
      refine .ro f (by rw [← e1]; omega) (by rw [← e1]; omega) (fun hp => ?_) (fun i r hr => hl i r (tk hr)) h1c (fun i r j z hr hz => h i r j z (tk hr) hz)
      have hlt : 0 < es.length := by rw [← e1] at hp; omega
      obtain ⟨ad, rfl, hF, hcell⟩ := hA hlt
      refine ⟨ad, ?_, hF, fun i r j hr hj => hcell i r j (tk hr) hj⟩
      split
      · rfl
      · simp [Addr.add]
end

def memOf (L : Array Bool) : Mem → List (Nat × Mem) → Mem
  | M, [] => M
  | M, (m, X) :: cs => bif L.getD m false then memOf L X cs else M
def lastOf : Mem → List (Nat × Mem) → Mem
  | M, [] => M
  | _, (_, X) :: cs => lastOf X cs
def chainB (bms : List Nat) : List (Nat × Mem) → Bool
  | (m, _) :: (m2, X) :: cs => (bms.getD m2 0).testBit m && chainB bms ((m2, X) :: cs)
  | _ => true
def stepOk (P : Program) (ops : Array Oper) (o : Oper) (E : Env) (tm : List AV) (bms : List Nat) (j : Nat) (r : AV) : Mem → List (Nat × Mem) → Prop
  | M, [] => GOp P ops o E tm M r
  | M, (m, X) :: cs => (j = m ∧ o.guard = none ∧ POp P o E tm M r X) ∨ (j ≠ m ∧ ((bms.getD j 0).testBit m = true ∨ GOp P ops o E tm M r) ∧ ((bms.getD m 0).testBit j = true ∨ stepOk P ops o E tm bms j r X cs))
theorem memOf_all {L : Array Bool} : ∀ (M : Mem) (cs : List (Nat × Mem)), (∀ c ∈ cs, L.getD c.1 false = true) → memOf L M cs = lastOf M cs
  | _, [], _ => rfl
  | _, (m, X) :: cs, h => by
    unfold memOf lastOf
    rw [h (m, X) (List.mem_cons_self ..)]
    exact memOf_all X cs fun c hc => h c (List.mem_cons_of_mem _ hc)
theorem memOf_none {L : Array Bool} (h : ∀ q, L.getD q false = false) (M : Mem) (cs : List (Nat × Mem)) : memOf L M cs = M := by
  cases cs with
  | nil => rfl
  | cons c cs => unfold memOf; rw [h]; rfl
theorem stepOk.run {P : Program} {ops : Array Oper} {o : Oper} {E : Env} {tm : List AV} {bms : List Nat} {j : Nat} {r : AV} {L L2 : Array Bool} (hun : L.getD j false = false) (hset : ∀ q, q ≠ j → L2.getD q false = L.getD q false) (hdone : L2.getD j false = true)
    (bef : ∀ i, (bms.getD j 0).testBit i = true → L.getD i false = true) (down : ∀ m i, L.getD m false = true → (bms.getD m 0).testBit i = true → L.getD i false = true) :
    ∀ (M : Mem) (cs : List (Nat × Mem)), chainB bms cs = true → stepOk P ops o E tm bms j r M cs →
      (GOp P ops o E tm (memOf L M cs) r ∧ memOf L2 M cs = memOf L M cs) ∨ (o.guard = none ∧ POp P o E tm (memOf L M cs) r (memOf L2 M cs))
  | M, [], _, h => .inl ⟨h, rfl⟩
  | M, (m, X) :: cs, hc, h => by
    have hc2 : chainB bms cs = true := by
      cases cs with
      | nil => rfl
      | cons c cs => simp only [chainB, Bool.and_eq_true] at hc; exact hc.2
    rcases h with ⟨rfl, hg, hp⟩ | ⟨hne, h1, h2⟩
    · refine .inr ⟨hg, ?_⟩
      have e1 : memOf L M ((j, X) :: cs) = M := by unfold memOf; rw [hun]; rfl
      have e2 : memOf L2 M ((j, X) :: cs) = X := by
        show (bif L2.getD j false then memOf L2 X cs else M) = X
        rw [hdone]
        cases cs with
        | nil => rfl
        | cons c cs =>
          obtain ⟨m2, X2⟩ := c
          simp only [chainB, Bool.and_eq_true] at hc
          have hm2 : L.getD m2 false = false := by
            rcases e : L.getD m2 false with _ | _
            · rfl
            · have := down m2 j e hc.1
              rw [hun] at this
              cases this
          have hne : m2 ≠ j := fun e => by
            have := bef j (by rw [← e]; rw [← e] at hc; exact hc.1)
            rw [hun] at this
            cases this
          show (bif L2.getD m2 false then memOf L2 X2 cs else X) = X
          rw [hset m2 hne, hm2]
          rfl
      rw [e1, e2]
      exact hp
    · have em : L2.getD m false = L.getD m false := hset m (Ne.symm hne)
      rcases e : L.getD m false with _ | _
      · have e1 : memOf L M ((m, X) :: cs) = M := by unfold memOf; rw [e]; rfl
        have e2 : memOf L2 M ((m, X) :: cs) = M := by unfold memOf; rw [em, e]; rfl
        rw [e1, e2]
        rcases h1 with hl | hg
        · have := bef m hl
          rw [e] at this
          cases this
        · exact .inl ⟨hg, rfl⟩
      · have e1 : memOf L M ((m, X) :: cs) = memOf L X cs := by show (bif L.getD m false then memOf L X cs else M) = _; rw [e]; rfl
        have e2 : memOf L2 M ((m, X) :: cs) = memOf L2 X cs := by show (bif L2.getD m false then memOf L2 X cs else M) = _; rw [em, e]; rfl
        rw [e1, e2]
        rcases h2 with hb | hs
        · have := down m j e hb
          rw [hun] at this
          cases this
        · exact stepOk.run hun hset hdone bef down X cs hc2 hs
section
variable {P : Program} {E : Env} {M : Mem} {cs : List (Nat × Mem)} {l : List Oper} {n1 : Nat} {rs tm0 : List AV}
structure DInvN (E : Env) (M : Mem) (cs : List (Nat × Mem)) (l : List Oper) (n1 : Nat) (rs tm0 : List AV) (L : Array Bool) (a : Act) (w : World) : Prop where
  sz : L.size = l.length
  down : ∀ (j : Nat) o, L.getD j false = true → l[j]? = some o → ∀ e ∈ o.after, Region.binds .any e = true → L.getD e.on false = true
  first : ∀ j, L.getD j false = true → j < n1
  st : a.defers = [] ∧ ∃ Fx β, HS E.base E.w0 w Fx β (memOf L M cs) ∧ Out E w Fx β (memOf L M cs) ∧ a.tmps.size = tm0.length ∧ ∀ (t : Nat) u, a.tmps[t]? = some u →
    (∀ (i : Nat) o r, L.getD i false = true → l[i]? = some o → o.dst = some t → rs[i]? = some r → Rep w Fx β (gens (memOf L M cs)) r u) ∧ ((∀ (i : Nat) o, L.getD i false = true → l[i]? = some o → o.dst ≠ some t) → ∀ x, tm0[t]? = some x → Rep w Fx β (gens (memOf L M cs)) x u)
theorem wpAny_chgN {Q : Exit → Act → World → Prop} (hc : ChkD l n1) (hn : n1 ≤ l.length) (hm : ∀ c ∈ cs, c.1 < n1) (hch : chainB (masks l []) cs = true) (hrl : rs.length = n1)
    (hops : ∀ (j : Nat) o, j < n1 → l[j]? = some o → ∃ r, rs[j]? = some r ∧ stepOk P l.toArray o E (msk (o.looksAt l.toArray) (run (l.take n1) rs tm0 j)) (masks l []) j r M cs)
    (hend : ∀ a w, Sim E (run (l.take n1) rs tm0 n1) (lastOf M cs) a w → wpList P l.toArray Q (l.drop n1) a w) :
    ∀ (fuel : Nat) (L : Array Bool) (a : Act) (w : World), DInvN E M cs l n1 rs tm0 L a w → cnt L ≤ fuel → wpAny P .any l.toArray Q fuel L a w := by
  have hrlen : rs.length = (l.take n1).length := by rw [hrl, List.length_take]; omega
  have tk : ∀ {i : Nat} {o : Oper}, (l.take n1)[i]? = some o → i < n1 ∧ l[i]? = some o := fun {i o} h => by
    rw [List.getElem?_take] at h
    split at h
    · exact ⟨by assumption, h⟩
    · cases h
  have tk2 : ∀ {i : Nat} {o : Oper}, i < n1 → l[i]? = some o → (l.take n1)[i]? = some o := fun hi h => by rw [List.getElem?_take, if_pos hi]; exact h
  -- when all of the first have gone
  have fin : ∀ (fuel : Nat) (L : Array Bool) (a : Act) (w : World), DInvN E M cs l n1 rs tm0 L a w → cnt L ≤ fuel → (∀ i, i < n1 → L.getD i false = true) → wpAny P .any l.toArray Q fuel L a w := by
    intro fuel L a w hI hcnt hall
    refine wpAny_tail hc fuel n1 L a w (Nat.le_refl _) hn hI.sz (fun i => ⟨hI.first i, hall i⟩) hcnt (hend a w ?_)
    obtain ⟨hd, Fx, β, hh, ho, hsz, hs⟩ := hI.st
    have eM : memOf L M cs = lastOf M cs := memOf_all M cs fun c hc => hall c.1 (hm c hc)
    rw [eM] at hh ho hs
    refine ⟨hd, Fx, β, hh, ho, by rw [run_length]; exact hsz, fun t x u hx hu => ?_⟩
    obtain ⟨h1, h2⟩ := hs t u hu
    rcases run_get _ _ _ _ _ _ hrlen hx with ⟨i, o, hi, ho', hdst, hr⟩ | ⟨hno, hx0⟩
    · exact h1 i o x (hall i hi) (tk ho').2 hdst hr
    · exact h2 (fun i o hL ho' => hno i o (hI.first i hL) (tk2 (hI.first i hL) ho')) x hx0
  intro fuel
  induction fuel with
  | zero =>
    intro L a w hI hcnt
    refine fin 0 L a w hI hcnt (fun i hi => ?_)
    have := cnt_zero (by omega) (i := i) (L := L) (by rw [hI.sz]; omega)
    rwa [getD_tf (by rw [hI.sz]; omega)] at this
  | succ fuel ih =>
    intro L a w hI hcnt
    by_cases hall : ∀ i, i < n1 → L.getD i false = true
    · exact fin _ L a w hI hcnt hall
    · have hex : ∃ i, i < n1 ∧ L.getD i false ≠ true := Classical.byContradiction fun h => hall fun i hi => Classical.byContradiction fun h2 => h ⟨i, hi, h2⟩
      obtain ⟨i0, ⟨hi0, hu0⟩, hmin⟩ := least_of hex
      have hi0l : i0 < l.length := by omega
      refine ⟨fun hr => ?_, fun j hj => ?_⟩
      · have : i0 ∈ Region.ready .any l.toArray L := mem_ready.2 ⟨by
          rw [getD_tf (by rw [hI.sz]; omega)]
          simpa using hu0, l[i0], by simp, fun e he hbe => by
            have hlt := hc.top i0 _ e (List.getElem?_eq_getElem hi0l) he hbe
            rcases e2 : L.getD e.on false with _ | _
            · exact absurd (hmin e.on ⟨by omega, by rw [e2]; decide⟩) (by omega)
            · rfl⟩
        rw [hr] at this
        simp at this
      · obtain ⟨hun, o, ho, hdep⟩ := mem_ready.1 hj
        have ho' : l[j]? = some o := by simpa using ho
        have hjl : j < l.length := (List.getElem?_eq_some_iff.1 ho').1
        have hunf : L.getD j false = false := by rw [← getD_tf (by rw [hI.sz]; omega)]; exact hun
        have bef : ∀ i, ((masks l []).getD j 0).testBit i = true → L.getD i false = true := fun i hb => before (l := l) (L := fun i => L.getD i false = true) hI.down j o i ho' hdep hb
        have hjn : j < n1 := by
          rcases Nat.lt_or_ge j n1 with h | h
          · exact h
          · exact absurd (bef i0 (hc.tail j o i0 ho' h (by omega))) hu0
        obtain ⟨r, hr, hg⟩ := hops j o hjn ho'
        obtain ⟨hd, Fx, β, hh, hout, hsz, hs⟩ := hI.st
        have hsl : Slots w Fx β (gens (memOf L M cs)) (msk (o.looksAt l.toArray) (run (l.take n1) rs tm0 j)) a.tmps := by
          refine ⟨by rw [msk, mskG_length, run_length]; exact hsz, fun t x u hx hu => ?_⟩
          rcases msk_get hx with rfl | ⟨hlook, hx⟩
          · exact .any u
          · obtain ⟨h1, h2⟩ := hs t u hu
            rcases run_get _ _ _ _ _ _ hrlen hx with ⟨i, oi, hi, hoi, hdst, hri⟩ | ⟨hno, hx0⟩
            · have hoi := (tk hoi).2
              exact h1 i oi x (bef i ((hc.look j o t i oi ho' hjn hlook hoi hdst (by omega)).1 hi)) hoi hdst hri
            · refine h2 (fun i oi hL hoi hdst => ?_) x hx0
              rcases Nat.lt_trichotomy i j with h | h | h
              · exact hno i oi h (tk2 (by omega) hoi) hdst
              · subst h; rw [hunf] at hL; cases hL
              · have hb := (hc.look j o t i oi ho' hjn hlook hoi hdst (by omega)).2 h
                have := before (l := l) (L := fun i => L.getD i false = true) hI.down i oi j hoi (hI.down i oi hL hoi) hb
                rw [hunf] at this
                cases this
        have go : ∀ v w' Fx' β', HS E.base E.w0 w' Fx' β' (memOf (L.setIfInBounds j true) M cs) → Nx w Fx β (memOf L M cs) w' Fx' β' (memOf (L.setIfInBounds j true) M cs) → Rep w' Fx' β' (gens (memOf (L.setIfInBounds j true) M cs)) r v → wpAny P .any l.toArray Q fuel (L.setIfInBounds j true) (a.put o.dst v) w' := by
          intro v w' Fx' β' hh' hx hrep
          refine ih _ _ _ ⟨by simpa using hI.sz, fun j' o2 hj' ho2 e he hbe => ?_, fun j' hj' => ?_, (put_defers a o.dst v).trans hd, Fx', β', hh', ?_, by rw [put_size]; exact hsz, fun t u hu => ?_⟩ (by have := cnt_set (L := L) (i := j) (by rw [hI.sz]; omega) hun; omega)
          · rw [getD_set (by rw [hI.sz]; omega)] at hj' ⊢
            rcases hj' with rfl | hj'
            · rw [ho'] at ho2
              obtain rfl := Option.some.inj ho2
              exact .inr (hdep e he hbe)
            · exact .inr (hI.down j' o2 hj' ho2 e he hbe)
          · rw [getD_set (by rw [hI.sz]; omega)] at hj'
            rcases hj' with rfl | hj'
            · exact hjn
            · exact hI.first j' hj'
          · refine ⟨hout.mv.trans hx.mv, Nat.le_trans hout.size hx.size, fun k hk => ?_, fun id b v k h1 h2 h3 => ?_⟩
            · rcases hx.lim k hk with h | h | ⟨id, b, v, h1, h2, h3⟩
              · exact hout.lim k h
              · exact .inr (.inl (Nat.le_trans hout.size h))
              · rcases hout.own id b v k h1 h2 h3 with h | h
                · exact .inr (.inl h)
                · exact .inr (.inr h)
            · rcases hx.own id b v k h1 h2 h3 with h | ⟨id', b', v', g1, g2, g3⟩
              · exact .inl (Nat.le_trans hout.size h)
              · exact hout.own id' b' v' k g1 g2 g3
          · rcases put_get a o.dst v t u hu with ⟨hdt, rfl⟩ | ⟨hdt, hu⟩
            · refine ⟨fun i oi ri hL hoi hdst hri => ?_, fun hno => absurd hdt (hno j o ((getD_set (by rw [hI.sz]; omega)).2 (.inl rfl)) ho')⟩
              have hin : i < n1 := by
                rw [getD_set (by rw [hI.sz]; omega)] at hL
                rcases hL with rfl | hL
                · exact hjn
                · exact hI.first i hL
              have e : i = j := by
                rcases Nat.lt_trichotomy i j with h | h | h
                · exact absurd hdst (hc.one j i o oi t ho' hjn h hoi hdt)
                · exact h
                · exact absurd hdt (hc.one i j oi o t hoi hin h ho' hdst)
              subst e
              rw [hr] at hri
              obtain rfl := Option.some.inj hri
              exact hrep
            · obtain ⟨h1, h2⟩ := hs t u hu
              refine ⟨fun i oi ri hL hoi hdst hri => ?_, fun hno x hx0 => (h2 (fun i oi hL hoi => hno i oi ((getD_set (by rw [hI.sz]; omega)).2 (.inr hL)) hoi) x hx0).mv hx.mv⟩
              rw [getD_set (by rw [hI.sz]; omega)] at hL
              rcases hL with rfl | hL
              · rw [ho'] at hoi
                obtain rfl := Option.some.inj hoi
                exact absurd hdst hdt
              · exact (h1 i oi ri hL hoi hdst hri).mv hx.mv
        unfold wpOp
        rw [ho]
        have keep : ∀ q, q ≠ j → (L.setIfInBounds j true).getD q false = L.getD q false := fun q hq => by
          rcases e : L.getD q false with _ | _
          · rcases e3 : (L.setIfInBounds j true).getD q false with _ | _
            · rfl
            · rcases (getD_set (by rw [hI.sz]; omega)).1 e3 with h | h
              · exact absurd h hq
              · rw [e] at h; cases h
          · exact (getD_set (by rw [hI.sz]; omega)).2 (.inr e)
        have done : (L.setIfInBounds j true).getD j false = true := (getD_set (L := L) (i := j) (j := j) (by rw [hI.sz]; omega)).2 (.inl rfl)
        have down : ∀ m i, L.getD m false = true → ((masks l []).getD m 0).testBit i = true → L.getD i false = true := fun m i e hb => by
          have hml : m < l.length := by have := hI.first m e; omega
          exact before (l := l) (L := fun i => L.getD i false = true) hI.down m l[m] i (List.getElem?_eq_getElem hml) (hI.down m l[m] e (List.getElem?_eq_getElem hml)) hb
        rcases hg.run (L := L) (L2 := L.setIfInBounds j true) hunf keep done bef down M cs hch with ⟨hp, e2⟩ | ⟨hgd, hp⟩
        · exact hp.go hh hsl fun v w' Fx' β' h1 h2 h3 => go v w' Fx' β' (by rw [e2]; exact h1) (by rw [e2]; exact h2) (by rw [e2]; exact h3)
        · have hw : Region.wanted o (yielded l.toArray a.tmps) = true := by simp [Region.wanted, hgd]
          simp only [hw, if_true]
          exact .inl (hp a w _ Q Fx β hh hsl fun v w' Fx' β' h1 h2 h3 => go v w' Fx' β' h1 h2 h3)

def DN (P : Program) (ops : Array Oper) (E : Env) (M : Mem) (cs : List (Nat × Mem)) (bms : List Nat) : Nat → List Oper → List AV → (List AV → Prop) → Prop
  | _, [], tm, N => N tm
  | j, o :: rest, tm, N => ∃ r, stepOk P ops o E (msk (o.looksAt ops) tm) bms j r M cs ∧ DN P ops E M cs bms (j + 1) rest (dput tm o.dst r) N
theorem DN.data {bms : List Nat} {ops : Array Oper} {N : List AV → Prop} : ∀ (os : List Oper) (j0 : Nat) (tm : List AV), DN P ops E M cs bms j0 os tm N →
    ∃ (rs : List AV), rs.length = os.length ∧ N (run os rs tm os.length) ∧ ∀ (j : Nat) o, os[j]? = some o → ∃ r, rs[j]? = some r ∧ stepOk P ops o E (msk (o.looksAt ops) (run os rs tm j)) bms (j0 + j) r M cs
  | [], j0, tm, h => ⟨[], rfl, h, fun j o ho => by simp at ho⟩
  | o :: os, j0, tm, ⟨r, hp, h⟩ => by
    obtain ⟨rs, h1, h2, h3⟩ := DN.data os (j0 + 1) _ h
    refine ⟨r :: rs, by simp [h1], h2, fun j o' ho => ?_⟩
    cases j with
    | zero =>
      simp only [List.getElem?_cons_zero, Option.some.injEq] at ho
      subst ho
      exact ⟨r, rfl, by simpa [run] using hp⟩
    | succ j =>
      obtain ⟨r', g1, g2⟩ := h3 j o' (by simpa using ho)
      refine ⟨r', by simpa using g1, ?_⟩
      rw [show j0 + (j + 1) = j0 + 1 + j by omega]
      exact g2
theorem AW.drawnN {id : Nat} {tm : List AV} {Qx : XPost} (n1 : Nat) (bms : List Nat) (cs : List (Nat × Mem)) (hbm : masks l [] = bms) (hch : chainB bms cs = true) (hmx : P.follows .mixedOrders = true) (hc : chkD l n1 = true) (hn : Nat.ble n1 l.length = true) (hm : cs.all (fun c => Nat.blt c.1 n1) = true)
    (h : DN P l.toArray E M cs bms 0 (l.take n1) tm (fun tm' => AL P l.toArray (l.drop n1) E tm' (lastOf M cs) (Qx .normal))) : AW P (.region id l.toArray true) E tm M Qx := by
  intro a w Q hs hq
  have hn := Nat.le_of_ble_eq_true hn
  have hm : ∀ c ∈ cs, c.1 < n1 := fun c hcc => by have := Nat.le_of_ble_eq_true (List.all_eq_true.1 hm c hcc); omega
  obtain ⟨rs, h1, h2, h3⟩ := DN.data _ _ _ h
  have htl : (l.take n1).length = n1 := by rw [List.length_take]; omega
  refine wp_region_any hmx ?_
  obtain ⟨hd, Fx, β, hh, ho, hsl⟩ := hs
  have hdrew : ∀ {k : Nat}, ({ w with drawn := w.drawn + 1 } : World).heap[k]? = w.heap[k]? := rfl
  have hbel : Below w.heap.size w { w with drawn := w.drawn + 1 } := by exact (Below.refl w.heap.size w).drew
  obtain ⟨hh', mv⟩ := hh.step hbel
  rw [htl] at h2
  have e0 : memOf (Array.replicate l.toArray.size false) M cs = M := memOf_none (fun q => by
    rw [Array.getD_eq_getD_getElem?, Array.getElem?_replicate]
    split <;> rfl) M cs
  refine wpAny_chgN (E := E) (M := M) (cs := cs) (rs := rs) (tm0 := tm) (chkD_ok hc) hn hm (by rw [hbm]; exact hch) (by rw [h1, htl]) (fun j o hj ho => by
    obtain ⟨r, g1, g2⟩ := h3 j o (by rw [List.getElem?_take, if_pos hj]; exact ho)
    rw [Nat.zero_add, ← hbm] at g2
    exact ⟨r, g1, g2⟩) (fun a' w' hs' => h2 a' w' Q hs' fun tm' M' a2 w2 hx hs2 => hq _ _ _ _ _ hx hs2) _ _ _ _ ⟨by simp, fun j o hj => ?_, fun j hj => ?_, hd, Fx, β, by rw [e0]; exact hh', by rw [e0]; exact ⟨ho.mv.trans mv, Nat.le_trans ho.size hbel.size, ho.lim, ho.own⟩, hsl.1, fun t u hu => ⟨fun i o r hL => ?_, fun _ x hx => by rw [e0]; exact (hsl.2 t x u hx hu).mv mv⟩⟩ ?_
  · simp [Array.getD_eq_getD_getElem?, Array.getElem?_replicate] at hj
    split at hj <;> simp at hj
  · simp [Array.getD_eq_getD_getElem?, Array.getElem?_replicate] at hj
    split at hj <;> simp at hj
  · simp [Array.getD_eq_getD_getElem?, Array.getElem?_replicate] at hL
    split at hL <;> simp at hL
  · unfold cnt
    have := List.countP_le_length (p := fun b => !b) (l := (Array.replicate l.toArray.size false).toList)
    simpa using this
end
section
variable {E : Env} {tm tm' : List AV} {M X : Mem} {cs : List (Nat × Mem)} {bms : List Nat} {j m : Nat} {o : Oper} {ops : Array Oper} {rest : List Oper} {N : List AV → Prop} {r : AV}
theorem S.nil (hg : o.guard = none := by rfl) (h : POp Tryz.prog o E tm M r M := by exact POp.qt) : stepOk Tryz.prog ops o E tm bms j r M [] := by unfold stepOk GOp; rw [hg]; exact h
theorem S.pre (hj : Nat.beq j m = false := by rfl) (hb : (bms.getD m 0).testBit j = true := by rfl) (hg : o.guard = none := by rfl) (h : POp Tryz.prog o E tm M r M := by exact POp.qt) : stepOk Tryz.prog ops o E tm bms j r M ((m, X) :: cs) := .inr ⟨Nat.ne_of_beq_eq_false hj, .inr (by unfold GOp; rw [hg]; exact h), .inl hb⟩
theorem S.on (hN : stepOk Tryz.prog ops o E tm bms j r X cs) (hj : Nat.beq j m = false := by rfl) (hg : o.guard = none := by rfl) (h : POp Tryz.prog o E tm M r M := by exact POp.qt) : stepOk Tryz.prog ops o E tm bms j r M ((m, X) :: cs) := .inr ⟨Nat.ne_of_beq_eq_false hj, .inr (by unfold GOp; rw [hg]; exact h), .inr hN⟩
theorem S.late (hN : stepOk Tryz.prog ops o E tm bms j r X cs) (hj : Nat.beq j m = false := by rfl) (hl : (bms.getD j 0).testBit m = true := by rfl) : stepOk Tryz.prog ops o E tm bms j r M ((m, X) :: cs) := .inr ⟨Nat.ne_of_beq_eq_false hj, .inl hl, .inr hN⟩
theorem S.chg {M' : Mem} (hj : Nat.beq j m = true := by rfl) (hg : o.guard = none := by rfl) (h : POp Tryz.prog o E tm M r M' := by exact POp.mk) (hX : M' = X := by first | rfl | exact nrm) : stepOk Tryz.prog ops o E tm bms j r M ((m, X) :: cs) := .inl ⟨Nat.eq_of_beq_eq_true hj, hg, hX ▸ h⟩
theorem DN.nil (h : N tm) : DN Tryz.prog ops E M cs bms j [] tm N := h
theorem DN.step (h : stepOk Tryz.prog ops o E (msk (o.looksAt ops) tm) bms j r M cs) (hN : DN Tryz.prog ops E M cs bms (j + 1) rest tm' N) (e : dput tm o.dst r = tm' := by exact nrm) : DN Tryz.prog ops E M cs bms j (o :: rest) tm N := by
  subst e
  exact ⟨r, h, hN⟩
theorem AW.drN {l l1 l2 : List Oper} {id : Nat} {Qx : XPost} {Y : Mem} (n1 : Nat) (bms : List Nat) (cs : List (Nat × Mem)) (h : DN Tryz.prog l.toArray E M cs bms 0 l1 tm (fun tm' => AL Tryz.prog l.toArray l2 E tm' Y (Qx .normal))) (hY : lastOf M cs = Y := by rfl) (e1 : l.take n1 = l1 := by exact nrm) (e2 : l.drop n1 = l2 := by exact nrm) (hbm : masks l [] = bms := by kernel_rfl) (hch : chainB bms cs = true := by rfl)
    (hmx : Tryz.prog.follows .mixedOrders = true := by kernel_rfl) (hc : chkD l n1 = true := by kernel_rfl) (hn : Nat.ble n1 l.length = true := by rfl) (hm : cs.all (fun c => Nat.blt c.1 n1) = true := by rfl) : AW Tryz.prog (.region id l.toArray true) E tm M Qx := AW.drawnN n1 bms cs hbm hch hmx hc hn hm (by rw [e1, e2, hY]; exact h)
end

end Go.Proofs.YtacbpfbelcdeiaaGreat.Abs

/- The walk of the reference's TakeEntry. -/
namespace Go.Proofs.YtacbpfbelcdeiaaGreat.Abs
open Go.Proofs Go.RowKit
set_option linter.unusedVariables false
set_option linter.unusedSimpArgs false
set_option maxRecDepth 100000
set_option maxHeartbeats 2000000
attribute [local irreducible] OpA AL AW DL DLM DLR DLS QOp POp VCalls VCallsI
theorem take_s (l : List TEntry) (y : TEntry) (hl : l.length ≤ 1048576) (hp : ∀ x ∈ l, x.feature.gd) (hy : y.feature.gd) : VCalls Tryz.prog 94 [.ro 8 (l.map TEntry.en), .agg y.en] (fun r M => r = .own 0 0 ∧ M = [some ⟨121, 8, 0, false, (takeE l y).map TEntry.ed⟩]) := by
  refine VB Tryz.func94 73 (fun E hE => ?_)
  have hclo : Clo (.ro 8 (l.map TEntry.en)) := clo_list TEntry.clo_en
  have hclY : Clo (.agg y.en) := Clo.agg y.clo_en
  have hclP : Clo (.ro 2 (y.feature.points.map TPoint.en)) := clo_list TPoint.clo_en
  have hys := hy.1
  have hsm : ∀ x ∈ l, x.feature.sm := fun x hx => (hp x hx).1
  dsimp only [TEntry.en]
  repeat' ((first
    | (refine iAL ?_; first | refine AL.any (h := POp.quiet (QOp.cut_l (by rfl) slk27 (by rfl) (by rfl) (by first | decide | omega) (by first | assumption | omega) (by assumption))) ?_ | refine AL.any (h := POp.appendMv (by rfl) rwk27 (by rfl) (by rfl) (by rfl) (by rfl) (by rfl) (by rfl) (by rfl) (by rfl) (by rfl) (by rfl) (by rfl) (by rfl) (by simp; omega) (by simp [maxLen]; omega)) ?_ | refine AL.any ?_ | refine AL.any (h := POp.k Tryz.func86 (hc := isLog_s l (by assumption) (by assumption))) ?_ | refine AL.any (h := POp.D Tryz.func86 (hc := isLog_s (newL l y) hnl (newL_all hp hy)) (hvw := vwlF)) ?_ | refine AL.any (h := POp.O Tryz.func101 (hc := cpL_s l (by assumption) (by assumption)) (hvw := vwlF)) ?_ | refine AL.any (h := POp.O Tryz.func101 (hc := cpL_s (l.take K) (by assumption) (by assumption)) (hvw := vwlF)) ?_ | refine AL.any (h := POp.O Tryz.func101 (hc := cpL_s (l.drop K) (by assumption) (by assumption)) (hvw := vwlF)) ?_ | refine AL.any (h := POp.O Tryz.func101 (hc := cpL_s (l.drop (K + 1)) (by assumption) (by assumption)) (hvw := vwlF)) ?_ | refine AL.any (h := POp.k Tryz.func126 (hc := newer_s y _)) ?_ | refine AL.U ?_ | refine AL.F ?_ | refine AL.T ?_ | refine AL.T (h := POp.k Tryz.func86 (hc := isLog_s l (by assumption) (by assumption))) ?_ | refine AL.T (h := POp.D Tryz.func86 (hc := isLog_s (newL l y) hnl (newL_all hp hy)) (hvw := vwlF)) ?_ | refine AL.W ?_ | refine AL.W (h := fun h => by (try rw [h]); exact POp.k Tryz.func86 (hc := isLog_s l (by assumption) (by assumption))) ?_ | refine AL.W (h := fun h => by (try rw [h]); exact POp.D Tryz.func86 (hc := isLog_s (newL l y) hnl (newL_all hp hy)) (hvw := vwlF)) ?_ | refine AL.nil ?_)
    | ((with_reducible show DL ..); first | refine DL.any ?_ | refine DL.any (h := POp.O Tryz.func101 (hc := cpL_s l (by assumption) (by assumption)) (hvw := vwlF)) ?_ | refine DL.any (h := POp.O Tryz.func101 (hc := cpL_s (l.take K) (by assumption) (by assumption)) (hvw := vwlF)) ?_ | refine DL.any (h := POp.O Tryz.func101 (hc := cpL_s (l.drop K) (by assumption) (by assumption)) (hvw := vwlF)) ?_ | refine DL.any (h := POp.O Tryz.func101 (hc := cpL_s (l.drop (K + 1)) (by assumption) (by assumption)) (hvw := vwlF)) ?_ | refine DL.any (h := POp.O Tryz.func127 (hc := cpE_s y (by assumption))) ?_ | refine DL.U ?_ | refine DL.F ?_ | refine DL.T ?_ | refine DL.W ?_ | refine DL.nil ?_)
    | ((with_reducible show DLR ..); first | refine DLR.call rfl (by rfl) Tryz.func101 (by rfl) (by rfl) (by rfl) (fun Y => vwlT) (cpL_s (l.drop (K + 1)) (by assumption) (by assumption)) (hvw := vwlF) rfl (by first | exact DCl.b rfl | exact DCl.map (fun _ => rfl) | assumption) rfl rfl ?_ | refine DLR.call rfl (by rfl) Tryz.func101 (by rfl) (by rfl) (by rfl) (fun Y => vwlT) (cpL_s (l.drop K) (by assumption) (by assumption)) (hvw := vwlF) rfl (by first | exact DCl.b rfl | exact DCl.map (fun _ => rfl) | assumption) rfl rfl ?_ | refine DLR.call rfl (by rfl) Tryz.func101 (by rfl) (by rfl) (by rfl) (fun Y => vwlT) (cpL_s (l.take K) (by assumption) (by assumption)) (hvw := vwlF) rfl (by first | exact DCl.b rfl | exact DCl.map (fun _ => rfl) | assumption) rfl rfl ?_ | refine DLR.call rfl (by rfl) Tryz.func101 (by rfl) (by rfl) (by rfl) (fun Y => vwlT) (cpL_s l (by assumption) (by assumption)) (hvw := vwlF) rfl (by first | exact DCl.b rfl | exact DCl.map (fun _ => rfl) | assumption) rfl rfl ?_ | refine DLR.any ?_ | refine DLR.alloc rfl rfl (by first | exact ze2 | exact ze3 | exact ze4 | exact ze5 | exact ze6 | exact ze7 | exact ze8 | exact ze9 | exact ze10 | exact ze11 | exact ze12 | exact ze13 | exact ze14 | exact ze15 | exact ze16 | exact ze17 | exact ze18 | exact ze19 | exact ze21 | exact ze22 | exact ze24 | exact ze27 | exact ze28 | exact ze29 | exact ze30 | exact ze31 | exact ze32 | exact ze42 | exact ze43 | exact ze44 | exact ze45 | exact ze62 | exact ze63 | exact ze67 | exact ze69 | exact ze97 | exact ze99 | exact ze121 | exact ze152) rfl rfl ?_ | refine DLR.box rfl rfl (by rfl) (by rfl) rfl rfl ?_ | refine DLR.store rfl rfl (by rfl) rfl rfl rfl rfl rfl (by rfl) (by rfl) (TT_ok.ld _ _ (by rfl)) (by rfl) (by rfl) rfl ?_ | refine DLR.any (h := fun Y => POp.O Tryz.func101 (hc := cpL_s l (by assumption) (by assumption)) (hvw := vwlF)) ?_ | refine DLR.any (h := fun Y => POp.O Tryz.func101 (hc := cpL_s (l.take K) (by assumption) (by assumption)) (hvw := vwlF)) ?_ | refine DLR.any (h := fun Y => POp.O Tryz.func101 (hc := cpL_s (l.drop K) (by assumption) (by assumption)) (hvw := vwlF)) ?_ | refine DLR.any (h := fun Y => POp.O Tryz.func101 (hc := cpL_s (l.drop (K + 1)) (by assumption) (by assumption)) (hvw := vwlF)) ?_ | refine DLR.any (h := fun Y => POp.O Tryz.func127 (hc := cpE_s y (by assumption))) ?_ | refine DLR.row rfl (fun Y => RowRun.empty (by rfl) (by rfl) (by first | exact rwk22 | exact rwk27 | exact rwk28 | exact rwk29 | exact rwk42 | exact rwk43 | exact rwk62 | exact rwk67)) rfl rfl ?_ | refine DLR.row rfl (fun Y => RowRun.literal (by rfl) (by first | exact rwk22 | exact rwk27 | exact rwk28 | exact rwk29 | exact rwk42 | exact rwk43 | exact rwk62 | exact rwk67) (by rfl) (by rfl) (by rfl) (by rfl) (by rfl) (by rfl)) rfl rfl ?_ | refine DLR.append rfl (by rfl) (by first | exact rwk22 | exact rwk27 | exact rwk28 | exact rwk29 | exact rwk42 | exact rwk43 | exact rwk62 | exact rwk67) (by rfl) rfl rfl rfl rfl rfl rfl (by rfl) (by first | (simp <;> omega) | omega) (by first | (simp [maxLen] <;> omega) | (simp_all [maxLen] <;> omega)) ?_ | refine DLR.W ?_ | refine DLR.nil ?_)
    | (refine iAW ?_; first | (refine AW.row1 (X := (newL l y).map TEntry.ed) hnew ?_) | (refine AW.c0 ?_; constructor) | (refine' AW.drN (id := 9) 9 [0, 0, 3, 7, 0, 31, 63, 127, 0, 511, 1023, 2047] [(3, _), (5, _), (6, _), (7, _)] ?_; rotate_left 0) | refine AW.dr (id := 2) 14 ?_ | refine AW.dr (id := 5) 12 ?_ | refine AW.dr (id := 6) 4 ?_ | refine AW.drawnR (id := 9) 9 2 [none, none, none, some 0, none, none, some 1, some 0, none] [some Rsv, some Rsv] rfl (by kernel_rfl) (by kernel_rfl) (by kernel_rfl) (by rfl) ?_ | refine AW.cT ?_ | refine AW.cF ?_ | (refine AW.c2 ?_ ?_ <;> (intro h; try simp only [bT, bF] at h)))
    | ((with_reducible show DN _ _ _ _ _ _ _ _ _ _); first | refine DN.nil ?_ | refine DN.step (S.pre) ?_ | refine DN.step (S.pre) ?_ | refine DN.step (S.pre (h := POp.quiet (QOp.cut_h (by rfl) slk27 (by rfl) (by rfl) (by first | decide | omega) (by first | assumption | omega) (by assumption)))) ?_ | refine DN.step (S.chg (h := POp.O Tryz.func101 (hc := cpL_s (l.take K) (by assumption) (by assumption)) (hvw := vwlF))) ?_ | refine DN.step (S.on (S.pre)) ?_ | refine DN.step (S.late (S.chg (h := POp.O Tryz.func127 (hc := cpE_s y (by assumption))))) ?_ | refine DN.step (S.late (S.late (S.chg))) ?_ | refine DN.step (S.late (S.late (S.late (S.chg (h := POp.gh POp.mk (Gh.absorbA (q := 1) (id := 2) (j := 4) rfl rfl rfl rfl rfl rfl (DCl.map (fun _ => rfl)) TPoint.und)))))) ?_ | refine DN.step (S.on (S.on (S.on (S.on (S.nil))))) ?_)
    | (refine AW.loopD hE (fun i : Nat => (.ro 8 (l.map TEntry.en) :: .any :: .any :: .ref 0 0 8 0 0 :: .any :: I (i : Int) :: .any :: .any :: .any :: .any :: .any :: .any :: .any :: .any :: .any :: .any :: .any :: .any :: .any :: .any :: .any :: .any :: .any :: .any :: .any :: .any :: .any :: .any :: .any :: .any :: .any :: .any :: .any :: .any :: .any :: .any :: .any :: .any :: .any :: .any :: .any :: .any :: .any :: .any :: .any :: .any :: .any :: .any :: .any :: .any :: .any :: .any :: .any :: .any :: .any :: .any :: .any :: .any :: .any :: .any :: .any :: .any :: .any :: .any :: .any :: .any :: .any :: .any :: .any :: .any :: .any :: .any :: .any :: .any :: .any :: [])) (fun i => [some ⟨121, 8, 0, true, [y.en]⟩]) (fun i => (posTo l y.feature.id) - i) (fun i => i ≤ (posTo l y.feature.id)) 0 (by simp) ?_ (by first | rfl | (simp [fil_zero]; done)) ?_
       (focus (exact wkI))
       intro i hi
       by_cases hlt : i < (posTo l y.feature.id)
       case' pos =>
         have hP := True.intro
         obtain ⟨x, hx, hxl⟩ := posTo_lt hlt
         have hN := (List.getElem?_eq_some_iff.1 hx).1
         have hg := map_get (f := TEntry.en) hx
         have ht := lt_true (f := TEntry.en) hN
         have hn := next_ix hN (by omega)
       case' neg =>
         have hQ := True.intro
         have e : i = (posTo l y.feature.id) := by omega
         subst e
         have hle := posTo_le l y.feature.id
         have hpc := pos_cases l y
         have hnw : newL l y = l.take (posTo l y.feature.id) ++ [y] ++ l.drop (if sameAt l y.feature.id = true then posTo l y.feature.id + 1 else posTo l y.feature.id) := rfl
         obtain ⟨K, hK⟩ : ∃ K, K = posTo l y.feature.id := ⟨_, rfl⟩
         rw [← hK] at hpc hle hnw ⊢
         have hd0 : (l.map TEntry.en).drop ((K : Nat) : Int).toNat = (l.drop K).map TEntry.en := by rw [Int.toNat_natCast, List.map_drop]
         have ht0 : (l.map TEntry.en).take ((K : Nat) : Int).toNat = (l.take K).map TEntry.en := by rw [Int.toNat_natCast, List.map_take]
         have hd1 : ((l.drop K).map TEntry.en).drop (1 : Int).toNat = (l.drop (K + 1)).map TEntry.en := by rw [← List.map_drop, List.drop_drop]; rfl
         have hK1 : ((K : Nat) : Int) ≤ ((l.map TEntry.en).length : Int) := by rw [List.length_map]; omega
         have hl1 : (l.take K).length ≤ 1048576 := by rw [List.length_take]; omega
         have hl2 : (l.drop K).length ≤ 1048576 := by rw [List.length_drop]; omega
         have hl3 : (l.drop (K + 1)).length ≤ 1048576 := by rw [List.length_drop]; omega
         have hs1 : ∀ x ∈ l.take K, x.feature.sm := fun x hx => hsm x (List.mem_of_mem_take hx)
         have hs2 : ∀ x ∈ l.drop K, x.feature.sm := fun x hx => hsm x (List.mem_of_mem_drop hx)
         have hs3 : ∀ x ∈ l.drop (K + 1), x.feature.sm := fun x hx => hsm x (List.mem_of_mem_drop hx)
         have hc1 : Clo (.ro 8 ((l.take K).map TEntry.en)) := clo_list TEntry.clo_en
         have hc2 : Clo (.ro 8 ((l.drop K).map TEntry.en)) := clo_list TEntry.clo_en
         have hc3 : Clo (.ro 8 ((l.drop (K + 1)).map TEntry.en)) := clo_list TEntry.clo_en
         have hap : ∀ q : Nat, newL l y = l.take K ++ [y] ++ l.drop q → (l.take K).map TEntry.ed ++ [y.ed] ++ (l.drop q).map TEntry.ed = (newL l y).map TEntry.ed := fun q h => by rw [h, List.map_append, List.map_append]; rfl
         rcases hpc with ⟨q1, q2, hrf, q4⟩ | ⟨x, hx, hxl, q2, q3⟩
         have ht : decide (((K : Nat) : Int) < ((l.map TEntry.en).length : Int)) = false := by rw [List.length_map]; simp; omega
         have ht2 : decide ((((l.drop K).map TEntry.en).length : Int) > 0) = false := by rw [List.length_map, List.length_drop]; simp; omega
         have hnew := hap K (by rw [hnw, q2]; rfl)
         rotate_left 1
         have hN := (List.getElem?_eq_some_iff.1 hx).1
         have hg := map_get (f := TEntry.en) hx
         have ht := lt_true (f := TEntry.en) hN
         have ht2 : decide ((((l.drop K).map TEntry.en).length : Int) > 0) = true := by rw [List.length_map, List.length_drop]; simp; omega
         have hg0 : ((l.drop K).map TEntry.en)[(0 : Int).toNat]? = some x.en := by
           show ((l.drop K).map TEntry.en)[0]? = some x.en
           rw [List.getElem?_map, List.getElem?_drop, Nat.add_zero, hx]
           rfl
         have hk0 : (1 : Int) ≤ (((l.drop K).map TEntry.en).length : Int) := by rw [List.length_map, List.length_drop]; omega
         have hclx : Clo (.agg x.en) := Clo.agg x.clo_en
         have hclxp : Clo (.ro 2 (x.feature.points.map TPoint.en)) := clo_list TPoint.clo_en
         rcases Bool.eq_false_or_eq_true (x.feature.id == y.feature.id) with he | he
         rcases Bool.eq_false_or_eq_true (newer y x) with hw | hw
         have hnew := hap (K + 1) (by rw [hnw, q2, he]; rfl)
         have hrf : refused l y = false := by rw [q3, he, hw]; rfl
         rotate_left 1
         have hrt : refused l y = true := by rw [q3, he, hw]; rfl
         rotate_left 1
         have hnew := hap K (by rw [hnw, q2, he]; rfl)
         have hrf : refused l y = false := by rw [q3, he]; rfl
         rotate_left 1
         all_goals rcases isLog_cases l y with ⟨hL, hnl⟩ | hL)
    | with_reducible refine ifP ?_
    | with_reducible refine ifN ?_) <;> (try dsimp only))
  all_goals first
    | (have _ := hP; (refine ⟨i + 1, [], hlt, by omega, ?_, rfl, ?_, ?_⟩; (focus (exact wkN)); (focus (exact fitsA)); (focus (exact fits_row (clo_one y.clo_en)))))
    | (have _ := hQ; first
        | (rw [takeE_1 (by assumption)]; exact Fin.r1 [1] rfl (RV.tmp (by rfl)) ⟨rfl, rfl⟩)
        | (rw [takeE_1 (by assumption)]; exact Fin.r1 [5] rfl (RV.tmp (by rfl)) ⟨rfl, rfl⟩)
        | (rw [takeE_1 (by assumption)]; exact Fin.r1 [4] rfl (RV.tmp (by rfl)) ⟨rfl, rfl⟩)
        | (rw [takeE_1 (by assumption)]; exact Fin.r1 [6] rfl (RV.tmp (by rfl)) ⟨rfl, rfl⟩)
        | (rw [takeE_2 (by assumption)]; exact Fin.r1 [1] rfl (RV.tmp (by rfl)) ⟨rfl, rfl⟩)
        | (rw [takeE_2 (by assumption)]; exact Fin.r1 [5] rfl (RV.tmp (by rfl)) ⟨rfl, rfl⟩)
        | (rw [takeE_2 (by assumption)]; exact Fin.r1 [4] rfl (RV.tmp (by rfl)) ⟨rfl, rfl⟩)
        | (rw [takeE_2 (by assumption)]; exact Fin.r1 [6] rfl (RV.tmp (by rfl)) ⟨rfl, rfl⟩)
        | (rw [takeE_3 (by assumption)]; exact Fin.r1 [1] rfl (RV.tmp (by rfl)) ⟨rfl, rfl⟩)
        | (rw [takeE_3 (by assumption)]; exact Fin.r1 [5] rfl (RV.tmp (by rfl)) ⟨rfl, rfl⟩)
        | (rw [takeE_3 (by assumption)]; exact Fin.r1 [4] rfl (RV.tmp (by rfl)) ⟨rfl, rfl⟩)
        | (rw [takeE_3 (by assumption)]; exact Fin.r1 [6] rfl (RV.tmp (by rfl)) ⟨rfl, rfl⟩)
        | (rw [takeE_4 (by assumption) (by assumption) (by assumption)]; exact Fin.r1 [1] rfl (RV.tmp (by rfl)) ⟨rfl, rfl⟩))

def eqAt {α : Type} (f : α → α → Bool) (a b : List α) (i : Nat) : Bool := match a[i]?, b[i]? with
  | some x, some y => f x y
  | _, _ => true
def eqTo {α : Type} (f : α → α → Bool) (a b : List α) (n : Nat) : Bool := (List.range n).all (eqAt f a b)
def eqL {α : Type} (f : α → α → Bool) (a b : List α) : Bool := (((a.length : Nat) : Int) == ((b.length : Nat) : Int)) && eqTo f a b a.length
theorem eqTo_succ {α : Type} (f : α → α → Bool) (a b : List α) (i : Nat) : eqTo f a b (i + 1) = (eqTo f a b i && eqAt f a b i) := by simp [eqTo, List.range_succ]
theorem eqTo_zero {α : Type} (f : α → α → Bool) (a b : List α) : eqTo f a b 0 = true := rfl
theorem eqTo_not {α : Type} {f : α → α → Bool} {a b : List α} {i n : Nat} (h : eqAt f a b i = false) (hi : i < n) : eqTo f a b n = false := by
  simp only [eqTo, List.all_eq_false, List.mem_range]
  exact ⟨i, hi, by simp [h]⟩
theorem eqAt_some {α : Type} {f : α → α → Bool} {a b : List α} {i : Nat} {x y : α} (hx : a[i]? = some x) (hy : b[i]? = some y) : eqAt f a b i = f x y := by simp [eqAt, hx, hy]
theorem len_of {α β : Type} {en : α → β} {a b : List α} (h : (((a.map en).length : Int) != ((b.map en).length : Int)) = false) : a.length = b.length := by simp at h; omega
theorem eqL_len {α β : Type} {en : α → β} {f : α → α → Bool} {a b : List α} (h : (((a.map en).length : Int) != ((b.map en).length : Int)) = true) : eqL f a b = false := by
  simp at h
  simp [eqL, h]
theorem eqL_not {α : Type} {f : α → α → Bool} {a b : List α} {i : Nat} (h : eqAt f a b i = false) (hi : i < a.length) : eqL f a b = false := by simp [eqL, eqTo_not h hi]
theorem eqL_yes {α : Type} {f : α → α → Bool} {a b : List α} (hl : a.length = b.length) (h : eqTo f a b a.length = true) : eqL f a b = true := by rw [eqL, h, hl]; simp
def eqFe (x y : TFeature) : Bool := x.id == y.id && x.kind == y.kind && x.rank == y.rank && x.name.toList == y.name.toList && eqL ptE x.points y.points
def eqEn (x y : TEntry) : Bool := x.tick == y.tick && x.who == y.who && x.gone == y.gone && eqFe x.feature y.feature
theorem eqLines_s (a b : List TPoint) (hl : a.length ≤ 1048576) (hm : b.length ≤ 1048576) : VCalls Tryz.prog 156 [.ro 2 (a.map TPoint.en), .ro 2 (b.map TPoint.en)] (fun r M => r = B (eqL ptE a b) ∧ M = []) := by
  refine VB Tryz.func156 24 (fun E hE => ?_)
  have hcla : Clo (.ro 2 (a.map TPoint.en)) := clo_list TPoint.clo_en
  have hclb : Clo (.ro 2 (b.map TPoint.en)) := clo_list TPoint.clo_en
  repeat' ((first
    | (refine iAL ?_; first | refine AL.any ?_ | refine AL.nil ?_)
    | ((with_reducible show DL ..); first | refine DL.any ?_ | refine DL.nil ?_)
    | (refine iAW ?_; first | (refine AW.c0 ?_; constructor) | refine AW.dr (id := 6) 8 ?_ | refine AW.cT ?_ | refine AW.cF ?_ | (refine AW.c2 ?_ ?_ <;> (intro h; try simp only [bT, bF] at h)))
    | (refine AW.loopD hE (fun i : Nat => [.ro 2 (a.map TPoint.en), .ro 2 (b.map TPoint.en), .any, .any, .any, I i, .any, .any, .any, .any, .any, .any, .any, .any, .any, .any, .any, .any, .any, .any, .any, .any, .any, .any, .any, .any]) (fun i => []) (fun i => a.length - i) (fun i => i ≤ a.length ∧ eqTo ptE a b i = true) 0 (by simp [eqTo_zero]) ?_ (by first | rfl | (simp [fil_zero]; done)) ?_
       (focus (exact wkI))
       intro i hi
       have hlen : a.length = b.length := len_of (by assumption)
       by_cases hlt : i < a.length
       case' pos =>
         have hP := True.intro
         obtain ⟨x, hx⟩ : ∃ x, a[i]? = some x := ⟨_, List.getElem?_eq_getElem hlt⟩
         have hg := map_get (f := TPoint.en) hx
         have ht := lt_true (f := TPoint.en) hlt
         have hn := next_ix hlt (by omega)
         obtain ⟨y, hy⟩ : ∃ y, b[i]? = some y := ⟨_, List.getElem?_eq_getElem (by omega)⟩
         have hgb := map_get (f := TPoint.en) hy
         have hes := eqTo_succ ptE a b i
         have hea := eqAt_some (f := ptE) hx hy
       case' neg =>
         have hQ := True.intro
         have ht := lt_false (f := TPoint.en) hlt
         have e : i = a.length := by omega
         subst e
         try rw [List.take_length])
    | with_reducible refine ifP ?_
    | with_reducible refine ifN ?_) <;> (try dsimp only))
  all_goals first
    | (have _ := hP; (refine ⟨i + 1, _, ⟨hlt, by rw [hes, hi.2, hea]; simp_all⟩, by omega, ?_, rfl, ?_, ?_⟩; (focus ((repeat' (first | exact Wk.nil | refine Wk.any ?_ | (with_reducible refine Wk.same ?_) | refine Wk.of ?_ ?_)) <;> (first | (rw [hn]; done) | simp_all))); (focus (exact fitsA)); (focus (exact FitsM.nil _))))
    | (have _ := hP; exact Fin.one rfl (RV.tmp (by rfl)) (clo_c _) ⟨by rw [eqL_not (f := ptE) (by rw [hea]; simp_all) hlt], rfl⟩)
    | (have _ := hQ; exact Fin.one rfl (RV.tmp (by rfl)) (clo_c _) ⟨by rw [eqL_yes hlen hi.2], rfl⟩)
    | (exact Fin.one rfl (RV.tmp (by rfl)) (clo_c _) ⟨by rw [eqL_len (by assumption)], rfl⟩)

theorem eqLines_i (a b : List TPoint) (hl : a.length ≤ 1048576) (hm : b.length ≤ 1048576) : VCalls Tryz.prog 178 [.ro 2 (a.map TPoint.en), .ro 2 (b.map TPoint.en)] (fun r M => r = B (eqL ptE a b) ∧ M = []) := by
  refine VB Tryz.func178 24 (fun E hE => ?_)
  have hcla : Clo (.ro 2 (a.map TPoint.en)) := clo_list TPoint.clo_en
  have hclb : Clo (.ro 2 (b.map TPoint.en)) := clo_list TPoint.clo_en
  repeat' ((first
    | (refine iAL ?_; first | refine AL.any ?_ | refine AL.nil ?_)
    | ((with_reducible show DL ..); first | refine DL.any ?_ | refine DL.nil ?_)
    | (refine iAW ?_; first | (refine AW.c0 ?_; constructor) | refine AW.dr (id := 6) 8 ?_ | refine AW.cT ?_ | refine AW.cF ?_ | (refine AW.c2 ?_ ?_ <;> (intro h; try simp only [bT, bF] at h)))
    | (refine AW.loopD hE (fun i : Nat => [.ro 2 (a.map TPoint.en), .ro 2 (b.map TPoint.en), .any, .any, .any, .any, .any, .any, .any, .any, .any, .ro 2 (a.map TPoint.en), I (a.map TPoint.en).length, I i, .any, .any, .any, .any, .any, .any, .any, .any, .any, .any, .any, .any]) (fun i => []) (fun i => a.length - i) (fun i => i ≤ a.length ∧ eqTo ptE a b i = true) 0 (by simp [eqTo_zero]) ?_ (by first | rfl | (simp [fil_zero]; done)) ?_
       (focus (exact wkI))
       intro i hi
       have hlen : a.length = b.length := len_of (by assumption)
       by_cases hlt : i < a.length
       case' pos =>
         have hP := True.intro
         obtain ⟨x, hx⟩ : ∃ x, a[i]? = some x := ⟨_, List.getElem?_eq_getElem hlt⟩
         have hg := map_get (f := TPoint.en) hx
         have ht := lt_true (f := TPoint.en) hlt
         have hn := next_ix hlt (by omega)
         obtain ⟨y, hy⟩ : ∃ y, b[i]? = some y := ⟨_, List.getElem?_eq_getElem (by omega)⟩
         have hgb := map_get (f := TPoint.en) hy
         have hes := eqTo_succ ptE a b i
         have hea := eqAt_some (f := ptE) hx hy
       case' neg =>
         have hQ := True.intro
         have ht := lt_false (f := TPoint.en) hlt
         have e : i = a.length := by omega
         subst e
         try rw [List.take_length])
    | with_reducible refine ifP ?_
    | with_reducible refine ifN ?_) <;> (try dsimp only))
  all_goals first
    | (have _ := hP; (refine ⟨i + 1, _, ⟨hlt, by rw [hes, hi.2, hea]; simp_all⟩, by omega, ?_, rfl, ?_, ?_⟩; (focus ((repeat' (first | exact Wk.nil | refine Wk.any ?_ | (with_reducible refine Wk.same ?_) | refine Wk.of ?_ ?_)) <;> (first | (rw [hn]; done) | simp_all))); (focus (exact fitsA)); (focus (exact FitsM.nil _))))
    | (have _ := hP; exact Fin.one rfl (RV.tmp (by rfl)) (clo_c _) ⟨by rw [eqL_not (f := ptE) (by rw [hea]; simp_all) hlt], rfl⟩)
    | (have _ := hQ; exact Fin.one rfl (RV.tmp (by rfl)) (clo_c _) ⟨by rw [eqL_yes hlen hi.2], rfl⟩)
    | (exact Fin.one rfl (RV.tmp (by rfl)) (clo_c _) ⟨by rw [eqL_len (by assumption)], rfl⟩)

theorem eqFe_s (x y : TFeature) (hx : x.sm) (hy : y.sm) : VCalls Tryz.prog 128 [.agg x.en, .agg y.en] (fun r M => r = B (eqFe x y) ∧ M = []) := by
  refine VB Tryz.func128 36 (fun E hE => ?_)
  have hcx0 : Clo (.ro 2 (x.points.map TPoint.en)) := clo_list TPoint.clo_en
  have hcex : Clo (.agg x.en) := Clo.agg x.clo_en
  have hcy0 : Clo (.ro 2 (y.points.map TPoint.en)) := clo_list TPoint.clo_en
  have hcey : Clo (.agg y.en) := Clo.agg y.clo_en
  have hx' := hx
  obtain p4 := hx
  have hy' := hy
  obtain q4 := hy
  dsimp only [TFeature.en]
  repeat' ((first
    | (refine iAL ?_; first | refine AL.any ?_ | refine AL.U ?_ | refine AL.F ?_ | refine AL.T ?_ | refine AL.T (h := POp.k Tryz.func156 (hc := eqLines_s _ _ (by assumption) (by assumption))) ?_ | refine AL.W ?_ | refine AL.W (h := fun h => by (try rw [h]); exact POp.k Tryz.func156 (hc := eqLines_s _ _ (by assumption) (by assumption))) ?_ | refine AL.nil ?_)
    | (refine iAW ?_; first | (refine AW.c0 ?_; constructor))) <;> (try dsimp only))
  all_goals exact Fin.one rfl (RV.tmp (by rfl)) (clo_c _) ⟨by first | rfl | (simp only [eqFe, Bool.and_assoc]; done) | (simp only [eqFe]; simp_all), rfl⟩

theorem eqFe_i (x y : TFeature) (hx : x.sm) (hy : y.sm) : VCalls Tryz.prog 159 [.agg x.en, .agg y.en] (fun r M => r = B (eqFe x y) ∧ M = []) := by
  refine VB Tryz.func159 36 (fun E hE => ?_)
  have hcx0 : Clo (.ro 2 (x.points.map TPoint.en)) := clo_list TPoint.clo_en
  have hcex : Clo (.agg x.en) := Clo.agg x.clo_en
  have hcy0 : Clo (.ro 2 (y.points.map TPoint.en)) := clo_list TPoint.clo_en
  have hcey : Clo (.agg y.en) := Clo.agg y.clo_en
  have hx' := hx
  obtain p4 := hx
  have hy' := hy
  obtain q4 := hy
  dsimp only [TFeature.en]
  repeat' ((first
    | (refine iAL ?_; first | refine AL.any ?_ | refine AL.U ?_ | refine AL.F ?_ | refine AL.T ?_ | refine AL.T (h := POp.k Tryz.func178 (hc := eqLines_i _ _ (by assumption) (by assumption))) ?_ | refine AL.W ?_ | refine AL.W (h := fun h => by (try rw [h]); exact POp.k Tryz.func178 (hc := eqLines_i _ _ (by assumption) (by assumption))) ?_ | refine AL.nil ?_)
    | (refine iAW ?_; first | (refine AW.c0 ?_; constructor))) <;> (try dsimp only))
  all_goals exact Fin.one rfl (RV.tmp (by rfl)) (clo_c _) ⟨by first | rfl | (simp only [eqFe, Bool.and_assoc]; done) | (simp only [eqFe]; simp_all), rfl⟩

theorem eqLogs_s (a b : List TEntry) (hl : a.length ≤ 1048576) (hm : b.length ≤ 1048576) (hp : ∀ x ∈ a, x.sm) (hq : ∀ x ∈ b, x.sm) : VCalls Tryz.prog 95 [.ro 8 (a.map TEntry.en), .ro 8 (b.map TEntry.en)] (fun r M => r = B (eqL eqEn a b) ∧ M = []) := by
  refine VB Tryz.func95 66 (fun E hE => ?_)
  have hcla : Clo (.ro 8 (a.map TEntry.en)) := clo_list TEntry.clo_en
  have hclb : Clo (.ro 8 (b.map TEntry.en)) := clo_list TEntry.clo_en
  repeat' ((first
    | (refine iAL ?_; first | refine AL.any ?_ | refine AL.U ?_ | refine AL.F ?_ | refine AL.T ?_ | refine AL.W ?_ | refine AL.nil ?_)
    | ((with_reducible show DL ..); first | refine DL.any ?_ | refine DL.any (h := POp.k Tryz.func128 (hc := by first | exact eqFe_s x y (by assumption) (by assumption) | exact eqFe_s x.feature y.feature (by assumption) (by assumption))) ?_ | refine DL.U ?_ | refine DL.F ?_ | refine DL.T ?_ | refine DL.W ?_ | refine DL.nil ?_)
    | (refine iAW ?_; first | (refine AW.c0 ?_; constructor) | refine AW.dr (id := 6) 49 ?_ | refine AW.cT ?_ | refine AW.cF ?_ | (refine AW.c2 ?_ ?_ <;> (intro h; try simp only [bT, bF] at h)))
    | (refine AW.loopD hE (fun i : Nat => (.ro 8 (a.map TEntry.en) :: .ro 8 (b.map TEntry.en) :: .any :: .any :: .any :: I i :: .any :: .any :: .any :: .any :: .any :: .any :: .any :: .any :: .any :: .any :: .any :: .any :: .any :: .any :: .any :: .any :: .any :: .any :: .any :: .any :: .any :: .any :: .any :: .any :: .any :: .any :: .any :: .any :: .any :: .any :: .any :: .any :: .any :: .any :: .any :: .any :: .any :: .any :: .any :: .any :: .any :: .any :: .any :: .any :: .any :: .any :: .any :: .any :: .any :: .any :: .any :: .any :: .any :: .any :: .any :: .any :: .any :: .any :: .any :: .any :: .any :: .any :: [])) (fun i => []) (fun i => a.length - i) (fun i => i ≤ a.length ∧ eqTo eqEn a b i = true) 0 (by simp [eqTo_zero]) ?_ (by first | rfl | (simp [fil_zero]; done)) ?_
       (focus (exact wkI))
       intro i hi
       have hlen : a.length = b.length := len_of (by assumption)
       by_cases hlt : i < a.length
       case' pos =>
         have hP := True.intro
         obtain ⟨x, hx⟩ : ∃ x, a[i]? = some x := ⟨_, List.getElem?_eq_getElem hlt⟩
         have hg := map_get (f := TEntry.en) hx
         have ht := lt_true (f := TEntry.en) hlt
         have hn := next_ix hlt (by omega)
         obtain ⟨y, hy⟩ : ∃ y, b[i]? = some y := ⟨_, List.getElem?_eq_getElem (by omega)⟩
         have hgb := map_get (f := TEntry.en) hy
         have hes := eqTo_succ eqEn a b i
         have hea := eqAt_some (f := eqEn) hx hy
         have hpx := hp x (List.mem_of_getElem? hx)
         have hqy := hq y (List.mem_of_getElem? hy)
         have hcx0 : Clo (.ro 2 (x.feature.points.map TPoint.en)) := clo_list TPoint.clo_en
         have hcsx0 : Clo (.agg x.feature.en) := Clo.agg x.feature.clo_en
         have hcex : Clo (.agg x.en) := Clo.agg x.clo_en
         have hcy0 : Clo (.ro 2 (y.feature.points.map TPoint.en)) := clo_list TPoint.clo_en
         have hcsy0 : Clo (.agg y.feature.en) := Clo.agg y.feature.clo_en
         have hcey : Clo (.agg y.en) := Clo.agg y.clo_en
         have hpx' := hpx
         obtain p0 := hpx
         have hqy' := hqy
         obtain q0 := hqy
       case' neg =>
         have hQ := True.intro
         have ht := lt_false (f := TEntry.en) hlt
         have e : i = a.length := by omega
         subst e
         try rw [List.take_length])
    | with_reducible refine ifP ?_
    | with_reducible refine ifN ?_) <;> (try dsimp only))
  all_goals first
    | (have _ := hP; (refine ⟨i + 1, _, ⟨hlt, by rw [hes, hi.2, hea]; (revert h; unfold eqEn; simp only [bne]; generalize eqFe x.feature y.feature = u0; generalize (x.tick == y.tick) = u1; generalize (x.who == y.who) = u2; generalize (x.gone == y.gone) = u3; cases u0 <;> cases u1 <;> cases u2 <;> cases u3 <;> simp)⟩, by omega, ?_, rfl, ?_, ?_⟩; (focus ((repeat' (first | exact Wk.nil | refine Wk.any ?_ | (with_reducible refine Wk.same ?_) | refine Wk.of ?_ ?_)) <;> (first | (rw [hn]; done) | simp_all))); (focus (exact fitsA)); (focus (exact FitsM.nil _))))
    | (have _ := hP; exact Fin.one rfl (RV.tmp (by rfl)) (clo_c _) ⟨by rw [eqL_not (f := eqEn) (by rw [hea]; (revert h; unfold eqEn; simp only [bne]; generalize eqFe x.feature y.feature = u0; generalize (x.tick == y.tick) = u1; generalize (x.who == y.who) = u2; generalize (x.gone == y.gone) = u3; cases u0 <;> cases u1 <;> cases u2 <;> cases u3 <;> simp)) hlt], rfl⟩)
    | (have _ := hQ; exact Fin.one rfl (RV.tmp (by rfl)) (clo_c _) ⟨by rw [eqL_yes hlen hi.2], rfl⟩)
    | (exact Fin.one rfl (RV.tmp (by rfl)) (clo_c _) ⟨by rw [eqL_len (by assumption)], rfl⟩)

theorem eqEn_i (x y : TEntry) (hx : x.sm) (hy : y.sm) : VCalls Tryz.prog 158 [.agg x.en, .agg y.en] (fun r M => r = B (eqEn x y) ∧ M = []) := by
  refine VB Tryz.func158 29 (fun E hE => ?_)
  have hcx0 : Clo (.ro 2 (x.feature.points.map TPoint.en)) := clo_list TPoint.clo_en
  have hcsx0 : Clo (.agg x.feature.en) := Clo.agg x.feature.clo_en
  have hcex : Clo (.agg x.en) := Clo.agg x.clo_en
  have hcy0 : Clo (.ro 2 (y.feature.points.map TPoint.en)) := clo_list TPoint.clo_en
  have hcsy0 : Clo (.agg y.feature.en) := Clo.agg y.feature.clo_en
  have hcey : Clo (.agg y.en) := Clo.agg y.clo_en
  have hx' := hx
  obtain p0 := hx
  have hy' := hy
  obtain q0 := hy
  dsimp only [TEntry.en]
  repeat' ((first
    | (refine iAL ?_; first | refine AL.any ?_ | refine AL.U ?_ | refine AL.F ?_ | refine AL.T ?_ | refine AL.T (h := POp.k Tryz.func159 (hc := by first | exact eqFe_i x y (by assumption) (by assumption) | exact eqFe_i x.feature y.feature (by assumption) (by assumption))) ?_ | refine AL.W ?_ | refine AL.W (h := fun h => by (try rw [h]); exact POp.k Tryz.func159 (hc := by first | exact eqFe_i x y (by assumption) (by assumption) | exact eqFe_i x.feature y.feature (by assumption) (by assumption))) ?_ | refine AL.nil ?_)
    | (refine iAW ?_; first | (refine AW.c0 ?_; constructor))) <;> (try dsimp only))
  all_goals exact Fin.one rfl (RV.tmp (by rfl)) (clo_c _) ⟨by first | rfl | (simp only [eqEn, Bool.and_assoc]; done) | (simp only [eqEn]; simp_all), rfl⟩

theorem eqLogsF (a b : List TEntry) (hl : a.length ≤ 1048576) (hm : b.length ≤ 1048576) (hp : ∀ x ∈ a, x.sm) (hq : ∀ x ∈ b, x.sm) : VCalls Tryz.prog 157 [.ro 8 (a.map TEntry.en), .ro 8 (b.map TEntry.en), .fn 158 []] (fun r M => r = B (eqL eqEn a b) ∧ M = []) := by
  refine VB Tryz.func157 29 (fun E hE => ?_)
  have hcla : Clo (.ro 8 (a.map TEntry.en)) := clo_list TEntry.clo_en
  have hclb : Clo (.ro 8 (b.map TEntry.en)) := clo_list TEntry.clo_en
  repeat' ((first
    | (refine iAL ?_; first | refine AL.any (h := POp.kc Tryz.func158 (hc := eqEn_i x y (by assumption) (by assumption))) ?_ | refine AL.any ?_ | refine AL.nil ?_)
    | (refine iAW ?_; first | (refine AW.c0 ?_; constructor) | refine AW.cT ?_ | refine AW.cF ?_ | (refine AW.c2 ?_ ?_ <;> (intro h; try simp only [bT, bF] at h)))
    | (refine AW.loopD hE (fun i : Nat => [.any, .ro 8 (b.map TEntry.en), .fn 158 [], .any, .any, .any, .any, .any, .any, .any, .any, .any, .any, .any, .any, .ro 8 (a.map TEntry.en), I (a.map TEntry.en).length, I i, .any, .any, .any, .any, .any, .any, .any, .any, .any, .any, .any, .any, .any, .any]) (fun i => []) (fun i => a.length - i) (fun i => i ≤ a.length ∧ eqTo eqEn a b i = true) 0 (by simp [eqTo_zero]) ?_ (by first | rfl | (simp [fil_zero]; done)) ?_
       (focus (exact wkI))
       intro i hi
       have hlen : a.length = b.length := len_of (by assumption)
       by_cases hlt : i < a.length
       case' pos =>
         have hP := True.intro
         obtain ⟨x, hx⟩ : ∃ x, a[i]? = some x := ⟨_, List.getElem?_eq_getElem hlt⟩
         have hg := map_get (f := TEntry.en) hx
         have ht := lt_true (f := TEntry.en) hlt
         have hn := next_ix hlt (by omega)
         obtain ⟨y, hy⟩ : ∃ y, b[i]? = some y := ⟨_, List.getElem?_eq_getElem (by omega)⟩
         have hgb := map_get (f := TEntry.en) hy
         have hes := eqTo_succ eqEn a b i
         have hea := eqAt_some (f := eqEn) hx hy
         have hpx := hp x (List.mem_of_getElem? hx)
         have hqy := hq y (List.mem_of_getElem? hy)
         have hcx0 : Clo (.ro 2 (x.feature.points.map TPoint.en)) := clo_list TPoint.clo_en
         have hcsx0 : Clo (.agg x.feature.en) := Clo.agg x.feature.clo_en
         have hcex : Clo (.agg x.en) := Clo.agg x.clo_en
         have hcy0 : Clo (.ro 2 (y.feature.points.map TPoint.en)) := clo_list TPoint.clo_en
         have hcsy0 : Clo (.agg y.feature.en) := Clo.agg y.feature.clo_en
         have hcey : Clo (.agg y.en) := Clo.agg y.clo_en
         have hpx' := hpx
         obtain p0 := hpx
         have hqy' := hqy
         obtain q0 := hqy
       case' neg =>
         have hQ := True.intro
         have ht := lt_false (f := TEntry.en) hlt
         have e : i = a.length := by omega
         subst e
         try rw [List.take_length])
    | with_reducible refine ifP ?_
    | with_reducible refine ifN ?_) <;> (try dsimp only))
  all_goals first
    | (have _ := hP; (refine ⟨i + 1, _, ⟨hlt, by rw [hes, hi.2, hea]; simp_all⟩, by omega, ?_, rfl, ?_, ?_⟩; (focus ((repeat' (first | exact Wk.nil | refine Wk.any ?_ | (with_reducible refine Wk.same ?_) | refine Wk.of ?_ ?_)) <;> (first | (rw [hn]; done) | simp_all))); (focus (exact fitsA)); (focus (exact FitsM.nil _))))
    | (have _ := hP; exact Fin.one rfl (RV.tmp (by rfl)) (clo_c _) ⟨by rw [eqL_not (f := eqEn) (by rw [hea]; simp_all) hlt], rfl⟩)
    | (have _ := hQ; exact Fin.one rfl (RV.tmp (by rfl)) (clo_c _) ⟨by rw [eqL_yes hlen hi.2], rfl⟩)
    | (exact Fin.one rfl (RV.tmp (by rfl)) (clo_c _) ⟨by rw [eqL_len (by assumption)], rfl⟩)

theorem eqLogs_i (a b : List TEntry) (hl : a.length ≤ 1048576) (hm : b.length ≤ 1048576) (hp : ∀ x ∈ a, x.sm) (hq : ∀ x ∈ b, x.sm) : VCalls Tryz.prog 130 [.ro 8 (a.map TEntry.en), .ro 8 (b.map TEntry.en)] (fun r M => r = B (eqL eqEn a b) ∧ M = []) := by
  refine VB Tryz.func130 6 (fun E hE => ?_)
  have hcla : Clo (.ro 8 (a.map TEntry.en)) := clo_list TEntry.clo_en
  have hclb : Clo (.ro 8 (b.map TEntry.en)) := clo_list TEntry.clo_en
  repeat' ((first
    | (refine iAL ?_; first | refine AL.any ?_ | refine AL.any (h := POp.k Tryz.func157 (hc := eqLogsF _ _ (by assumption) (by assumption) (by assumption) (by assumption))) ?_ | refine AL.nil ?_)
    | (refine iAW ?_; first | (refine AW.c0 ?_; constructor))) <;> (try dsimp only))
  all_goals exact Fin.one rfl (RV.tmp (by rfl)) (clo_c _) ⟨rfl, rfl⟩

theorem eqAt_comm {α : Type} {f : α → α → Bool} (h : ∀ x y, f x y = f y x) (a b : List α) (i : Nat) : eqAt f a b i = eqAt f b a i := by
  unfold eqAt
  cases a[i]? <;> cases b[i]? <;> simp [h]
theorem eqL_comm {α : Type} {f : α → α → Bool} (h : ∀ x y, f x y = f y x) (a b : List α) : eqL f a b = eqL f b a := by
  unfold eqL
  by_cases e : a.length = b.length
  · rw [e]
    congr 1
    unfold eqTo
    congr 1
    funext i
    exact eqAt_comm h a b i
  · have e1 : (((a.length : Nat) : Int) == ((b.length : Nat) : Int)) = false := by simp; omega
    have e2 : (((b.length : Nat) : Int) == ((a.length : Nat) : Int)) = false := by simp; omega
    rw [e1, e2]
    rfl
theorem eqFe_comm (x y : TFeature) : eqFe x y = eqFe y x := by
  unfold eqFe
  rw [Bool.beq_comm (a := x.id), Bool.beq_comm (a := x.kind), Bool.beq_comm (a := x.rank), Bool.beq_comm (a := x.name.toList), eqL_comm (fun a b => by show (eqV _ _ && (eqV _ _ && true)) = (eqV _ _ && (eqV _ _ && true)); simp only [eqV]; rw [Bool.beq_comm (a := a.x), Bool.beq_comm (a := a.y)]) x.points]
theorem eqEn_comm (x y : TEntry) : eqEn x y = eqEn y x := by
  unfold eqEn
  rw [Bool.beq_comm (a := x.tick), Bool.beq_comm (a := x.who), Bool.beq_comm (a := x.gone), eqFe_comm]
def logO (a : TAtlas) (y : TEntry) : TAtlas := { a with log := takeE a.log y }
def logK (a : TAtlas) (y : TEntry) : Bool := !eqL eqEn a.log (takeE a.log y)
theorem logO_gd {a : TAtlas} {y : TEntry} (h : a.gd) (hy : y.feature.gd) : (logO a y).gd := ⟨⟨takeE_len h.1.1, takeE_all h.1.2 hy⟩, h.2⟩
theorem logO_sm {a : TAtlas} {y : TEntry} (h : a.sm) (hy : y.feature.sm) : (logO a y).sm := ⟨⟨takeE_len h.1.1, takeE_all (p := fun x => x.feature.sm) h.1.2 hy⟩, h.2⟩
def putE (a : TAtlas) (f : TFeature) (who : Int) : TEntry := ⟨f, a.now, who, false⟩
theorem eqLogs_iC (a b : List TEntry) (hl : a.length ≤ 1048576) (hm : b.length ≤ 1048576) (hp : ∀ x ∈ a, x.sm) (hq : ∀ x ∈ b, x.sm) : VCalls Tryz.prog 130 [.ro 8 (b.map TEntry.en), .ro 8 (a.map TEntry.en)] (fun r M => r = B (eqL eqEn a b) ∧ M = []) := eqL_comm eqEn_comm b a ▸ eqLogs_i b a hm hl hq hp
theorem logged_i (a : TAtlas) (hgd : a.gd) (y : TEntry) (hy : y.feature.gd) : VCalls Tryz.prog 97 [.agg a.en, .agg y.en] (fun r M => r = .tup [.agg (stp a (logO a y) (logK a y)).eo, B (stpB a (logO a y) (logK a y))] ∧ M = (stp a (logO a y) (logK a y)).rw) := by
  refine VB Tryz.func97 23 (fun E hE => ?_)
  have hgs := hgd.gs
  have hclA : Clo (.agg a.en) := Clo.agg a.clo_en
  have hclL : Clo (.ro 8 (a.log.map TEntry.en)) := clo_list TEntry.clo_en
  have hclV : Clo (.ro 3 (a.levels.map TLevel.en)) := clo_list TLevel.clo_en
  have hclE : Clo (.ro 3 (a.editions.map TEdition.en)) := clo_list TEdition.clo_en
  have hclY : Clo (.agg y.en) := Clo.agg y.clo_en
  have hclP : Clo (.ro 2 (y.feature.points.map TPoint.en)) := clo_list TPoint.clo_en
  dsimp only [TAtlas.en]
  repeat' ((first
    | (refine iAL ?_; first | refine AL.any ?_ | refine AL.any (h := POp.O Tryz.func75 (hc := cpA_iX a (by assumption))) ?_ | refine AL.any (h := POp.O Tryz.func124 (hc := take_i a.log y hgd.1.1 hgd.1.2 hy)) ?_ | refine AL.nil ?_)
    | ((with_reducible show DL ..); first | refine DL.any ?_ | refine DL.any (h := POp.G [7, 4, 5] Tryz.func76 (hc := stepped_iX a (logO a y) (logK a y) hgd (logO_gd hgd hy))) ?_ | refine DL.any (h := POp.D Tryz.func130 (hc := eqLogs_iC a.log (takeE a.log y) hgd.1.1 (takeE_len hgd.1.1) (fun x hx => (hgd.1.2 x hx).1) (fun x hx => (takeE_all hgd.1.2 hy x hx).1))) ?_ | refine DL.nil ?_)
    | ((with_reducible show DLS ..); first | refine DLS.bef ?_ | refine DLS.any ?_ | refine DLS.st ?_ | refine DLS.bef (h := POp.G [7, 4, 5] Tryz.func76 (hc := stepped_iX a (logO a y) (logK a y) hgd (logO_gd hgd hy))) ?_ | refine DLS.bef (h := POp.D Tryz.func130 (hc := eqLogs_iC a.log (takeE a.log y) hgd.1.1 (takeE_len hgd.1.1) (fun x hx => (hgd.1.2 x hx).1) (fun x hx => (takeE_all hgd.1.2 hy x hx).1))) ?_ | refine DLS.any (h := POp.G [7, 4, 5] Tryz.func76 (hc := stepped_iX a (logO a y) (logK a y) hgd (logO_gd hgd hy))) (h2 := POp.G [7, 4, 5] Tryz.func76 (hc := stepped_iX a (logO a y) (logK a y) hgd (logO_gd hgd hy))) ?_ | refine DLS.any (h := POp.D Tryz.func130 (hc := eqLogs_iC a.log (takeE a.log y) hgd.1.1 (takeE_len hgd.1.1) (fun x hx => (hgd.1.2 x hx).1) (fun x hx => (takeE_all hgd.1.2 hy x hx).1))) (h2 := POp.D Tryz.func130 (hc := eqLogs_iC a.log (takeE a.log y) hgd.1.1 (takeE_len hgd.1.1) (fun x hx => (hgd.1.2 x hx).1) (fun x hx => (takeE_all hgd.1.2 hy x hx).1))) ?_ | refine DLS.st (h := POp.G [7, 4, 5] Tryz.func76 (hc := stepped_iX a (logO a y) (logK a y) hgd (logO_gd hgd hy))) ?_ | refine DLS.nil ?_)
    | (refine iAW ?_; first | (refine AW.c0 ?_; constructor) | (refine' AW.drS (id := 3) 11 8 255 _ ?_) | refine AW.dr (id := 3) 11 ?_)) <;> (try dsimp only))
  all_goals first
    | (exact Fin.r2 [8, 9, 10] rfl (RV.cell (QOp.quietA TT_ok (by rfl))) (RV.tmp (by rfl)) ⟨rfl, rfl⟩)

theorem put_i (a : TAtlas) (hgd : a.gd) (f : TFeature) (hf : f.gd) (who : Int) : VCalls Tryz.prog 43 [.agg a.en, .agg f.en, I who] (fun r M => r = .tup [.agg (stp a (logO a (putE a f who)) (logK a (putE a f who))).eo, B (stpB a (logO a (putE a f who)) (logK a (putE a f who)))] ∧ M = (stp a (logO a (putE a f who)) (logK a (putE a f who))).rw) := by
  refine VB Tryz.func43 14 (fun E hE => ?_)
  have hgs := hgd.gs
  have hclA : Clo (.agg a.en) := Clo.agg a.clo_en
  have hclL : Clo (.ro 8 (a.log.map TEntry.en)) := clo_list TEntry.clo_en
  have hclV : Clo (.ro 3 (a.levels.map TLevel.en)) := clo_list TLevel.clo_en
  have hclE : Clo (.ro 3 (a.editions.map TEdition.en)) := clo_list TEdition.clo_en
  have hclF : Clo (.agg f.en) := Clo.agg f.clo_en
  have hclP : Clo (.ro 2 (f.points.map TPoint.en)) := clo_list TPoint.clo_en
  dsimp only [TAtlas.en]
  repeat' ((first
    | (refine iAL ?_; first | refine AL.any ?_ | refine AL.any (h := POp.O Tryz.func97 (hc := (show VCalls Tryz.prog 97 [.agg [.ro 8 (a.log.map TEntry.en), .ro 3 (a.levels.map TLevel.en), .ro 3 (a.editions.map TEdition.en), I a.cover.w, I a.cover.h, S a.cover.cells, I a.now], .agg (putE a f who).en] (fun r M => r = .tup [.agg [.own 0 0, .own 1 0, .own 2 0, I (stp a (logO a (putE a f who)) (logK a (putE a f who))).cover.w, I (stp a (logO a (putE a f who)) (logK a (putE a f who))).cover.h, S (stp a (logO a (putE a f who)) (logK a (putE a f who))).cover.cells, I (stp a (logO a (putE a f who)) (logK a (putE a f who))).now], B (stpB a (logO a (putE a f who)) (logK a (putE a f who)))] ∧ M = [some ⟨121, 8, 0, false, (stp a (logO a (putE a f who)) (logK a (putE a f who))).log.map TEntry.ed⟩, some ⟨97, 3, 0, false, (stp a (logO a (putE a f who)) (logK a (putE a f who))).levels.map TLevel.en⟩, some ⟨136, 3, 0, false, (stp a (logO a (putE a f who)) (logK a (putE a f who))).editions.map TEdition.ed⟩]) from logged_i a hgd (putE a f who) hf))) ?_ | refine AL.nil ?_)
    | (refine iAW ?_; first | (refine AW.c0 ?_; constructor))) <;> (try dsimp only))
  all_goals first
    | (exact Fin.r2 [3, 4, 5] rfl (RV.cell (QOp.quietA TT_ok (by rfl))) (RV.tmp (by rfl)) ⟨rfl, rfl⟩)

theorem put_s (a : TAtlas) (hgd : a.gd) (f : TFeature) (hf : f.gd) (who : Int) : VCalls Tryz.prog 41 [.agg a.en, .agg f.en, I who] (fun r M => r = .tup [.agg (stp a (logO a (putE a f who)) (logK a (putE a f who))).eo, B (stpB a (logO a (putE a f who)) (logK a (putE a f who)))] ∧ M = (stp a (logO a (putE a f who)) (logK a (putE a f who))).rw) := by
  refine VB Tryz.func41 28 (fun E hE => ?_)
  have hgs := hgd.gs
  have hclA : Clo (.agg a.en) := Clo.agg a.clo_en
  have hclL : Clo (.ro 8 (a.log.map TEntry.en)) := clo_list TEntry.clo_en
  have hclV : Clo (.ro 3 (a.levels.map TLevel.en)) := clo_list TLevel.clo_en
  have hclE : Clo (.ro 3 (a.editions.map TEdition.en)) := clo_list TEdition.clo_en
  have hclF : Clo (.agg f.en) := Clo.agg f.clo_en
  have hclP : Clo (.ro 2 (f.points.map TPoint.en)) := clo_list TPoint.clo_en
  dsimp only [TAtlas.en]
  repeat' ((first
    | (refine iAL ?_; first | refine AL.any ?_ | refine AL.any (h := POp.O Tryz.func60 (hc := cpA_sX a (by assumption))) ?_ | refine AL.any (h := POp.O Tryz.func94 (hc := take_s a.log (putE a f who) hgd.1.1 hgd.1.2 hf)) ?_ | refine AL.nil ?_)
    | ((with_reducible show DL ..); first | refine DL.any ?_ | refine DL.any (h := POp.G [7, 4, 5] Tryz.func73 (hc := stepped_sX a (logO a (putE a f who)) (logK a (putE a f who)) hgd (logO_gd hgd hf))) ?_ | refine DL.any (h := POp.D Tryz.func95 (hc := eqLogs_s a.log (takeE a.log (putE a f who)) hgd.1.1 (takeE_len hgd.1.1) (fun x hx => (hgd.1.2 x hx).1) (fun x hx => (takeE_all hgd.1.2 hf x hx).1))) ?_ | refine DL.nil ?_)
    | ((with_reducible show DLS ..); first | refine DLS.bef ?_ | refine DLS.any ?_ | refine DLS.st ?_ | refine DLS.bef (h := POp.G [7, 4, 5] Tryz.func73 (hc := stepped_sX a (logO a (putE a f who)) (logK a (putE a f who)) hgd (logO_gd hgd hf))) ?_ | refine DLS.bef (h := POp.D Tryz.func95 (hc := eqLogs_s a.log (takeE a.log (putE a f who)) hgd.1.1 (takeE_len hgd.1.1) (fun x hx => (hgd.1.2 x hx).1) (fun x hx => (takeE_all hgd.1.2 hf x hx).1))) ?_ | refine DLS.any (h := POp.G [7, 4, 5] Tryz.func73 (hc := stepped_sX a (logO a (putE a f who)) (logK a (putE a f who)) hgd (logO_gd hgd hf))) (h2 := POp.G [7, 4, 5] Tryz.func73 (hc := stepped_sX a (logO a (putE a f who)) (logK a (putE a f who)) hgd (logO_gd hgd hf))) ?_ | refine DLS.any (h := POp.D Tryz.func95 (hc := eqLogs_s a.log (takeE a.log (putE a f who)) hgd.1.1 (takeE_len hgd.1.1) (fun x hx => (hgd.1.2 x hx).1) (fun x hx => (takeE_all hgd.1.2 hf x hx).1))) (h2 := POp.D Tryz.func95 (hc := eqLogs_s a.log (takeE a.log (putE a f who)) hgd.1.1 (takeE_len hgd.1.1) (fun x hx => (hgd.1.2 x hx).1) (fun x hx => (takeE_all hgd.1.2 hf x hx).1))) ?_ | refine DLS.st (h := POp.G [7, 4, 5] Tryz.func73 (hc := stepped_sX a (logO a (putE a f who)) (logK a (putE a f who)) hgd (logO_gd hgd hf))) ?_ | refine DLS.nil ?_)
    | (refine iAW ?_; first | (refine AW.c0 ?_; constructor) | (refine' AW.drS (id := 3) 11 8 255 _ ?_) | refine AW.dr (id := 3) 11 ?_)) <;> (try dsimp only))
  all_goals first
    | (exact Fin.r2 [8, 9, 10] rfl (RV.cell (QOp.quietA TT_ok (by rfl))) (RV.tmp (by rfl)) ⟨rfl, rfl⟩)

theorem put_i' (a : TAtlas) (hgd : a.gd) (f : TFeature) (hf : f.gd) (who : Int) : VCalls Tryz.prog 43 [.agg a.en, .agg f.en, I who] (fun r M => r = .tup [.agg (stp a (logO a (putE a f who)) (logK a (putE a f who))).en, B (stpB a (logO a (putE a f who)) (logK a (putE a f who)))] ∧ M = []) := VCalls.frz (put_i a hgd f hf who) (by exact VwL.cons (View.tup' vwlT) VwL.nil)
theorem put_s' (a : TAtlas) (hgd : a.gd) (f : TFeature) (hf : f.gd) (who : Int) : VCalls Tryz.prog 41 [.agg a.en, .agg f.en, I who] (fun r M => r = .tup [.agg (stp a (logO a (putE a f who)) (logK a (putE a f who))).en, B (stpB a (logO a (putE a f who)) (logK a (putE a f who)))] ∧ M = []) := VCalls.frz (put_s a hgd f hf who) (by exact VwL.cons (View.tup' vwlT) VwL.nil)
def hit (id : Int) (x : TEntry) : Bool := (x.feature.id == id) && !x.gone
def tkE (a : TAtlas) (x : TEntry) (who : Int) : TEntry := ⟨x.feature, a.now, who, true⟩
def spT (a : TAtlas) (id who : Int) : Nat → List TEntry × Bool
  | 0 => (a.log, false)
  | i + 1 => match a.log[i]? with
    | some x => if hit id x = true then (takeE a.log (tkE a x who), logK a (tkE a x who)) else spT a id who i
    | none => spT a id who i
section
variable {a : TAtlas} {id who : Int}
theorem spT_y {i : Nat} {x : TEntry} (hx : a.log[i]? = some x) (h : hit id x = true) : spT a id who (i + 1) = (takeE a.log (tkE a x who), logK a (tkE a x who)) := by
  simp only [spT, hx]
  rw [if_pos h]
theorem spT_n {i : Nat} {x : TEntry} (hx : a.log[i]? = some x) (h : hit id x = false) : spT a id who (i + 1) = spT a id who i := by
  simp only [spT, hx]
  rw [if_neg (by rw [h]; decide)]
def gnT (a : TAtlas) (id : Int) (i : Nat) : Nat := ((a.log.take i).filter (hit id)).length
theorem gnT_y {i : Nat} {x : TEntry} (hx : a.log[i]? = some x) (h : hit id x = true) : gnT a id (i + 1) = gnT a id i + 1 := by
  unfold gnT
  rw [take_succ_of hx, List.filter_append, List.length_append]
  simp [h]
theorem gnT_n {i : Nat} {x : TEntry} (hx : a.log[i]? = some x) (h : hit id x = false) : gnT a id (i + 1) = gnT a id i := by
  unfold gnT
  rw [take_succ_of hx, List.filter_append, List.length_append]
  simp [h]
theorem spT_none : ∀ (n : Nat), (∀ (j : Nat) x, j < n → a.log[j]? = some x → hit id x = false) → spT a id who n = (a.log, false)
  | 0, _ => rfl
  | n + 1, h => by
    have ih := spT_none n fun j x hj => h j x (by omega)
    rcases e : a.log[n]? with _ | x
    · simp only [spT, e]
      exact ih
    · rw [spT_n e (h n x (Nat.lt_succ_self _) e)]
      exact ih
theorem spT_one {k : Nat} {x : TEntry} (hx : a.log[k]? = some x) (hh : hit id x = true) (hu : ∀ (j : Nat) y, k < j → a.log[j]? = some y → hit id y = false) : ∀ (n : Nat), k < n → spT a id who n = (takeE a.log (tkE a x who), logK a (tkE a x who))
  | 0, h => absurd h (Nat.not_lt_zero _)
  | n + 1, h => by
    rcases Nat.lt_or_ge k n with h2 | h2
    · have ih := spT_one hx hh hu n h2
      rcases e : a.log[n]? with _ | y
      · simp only [spT, e]
        exact ih
      · rw [spT_n e (hu n y h2 e)]
        exact ih
    · obtain rfl : n = k := by omega
      exact spT_y hx hh
theorem spT_all {p : TEntry → Prop} (h1 : ∀ x ∈ a.log, p x) (h2 : ∀ x ∈ a.log, p (tkE a x who)) : ∀ (n : Nat), ∀ y ∈ (spT a id who n).1, p y
  | 0 => h1
  | n + 1 => by
    have ih := spT_all h1 h2 n
    rcases e : a.log[n]? with _ | x
    · simp only [spT, e]
      exact ih
    · cases hh : hit id x
      · rw [spT_n e hh]
        exact ih
      · rw [spT_y e hh]
        exact takeE_all h1 (h2 x (List.mem_of_getElem? e))
theorem spT_len (h1 : a.log.length ≤ 1048576) : ∀ (n : Nat), ((spT a id who n).1).length ≤ 1048576
  | 0 => h1
  | n + 1 => by
    have ih := spT_len h1 n
    rcases e : a.log[n]? with _ | x
    · simp only [spT, e]
      exact ih
    · cases hh : hit id x
      · rw [spT_n e hh]
        exact ih
      · rw [spT_y e hh]
        exact takeE_len h1
end
def tkO (a : TAtlas) (id who : Int) : TAtlas := { a with log := (spT a id who a.log.length).1 }
def tkK (a : TAtlas) (id who : Int) : Bool := (spT a id who a.log.length).2
theorem tkO_gd {a : TAtlas} {id who : Int} (h : a.gd) : (tkO a id who).gd := ⟨⟨spT_len h.1.1 _, spT_all (p := fun x => x.feature.gd) h.1.2 h.1.2 _⟩, h.2⟩
theorem tkO_sm {a : TAtlas} {id who : Int} (h : a.sm) : (tkO a id who).sm := ⟨⟨spT_len h.1.1 _, spT_all (p := fun x => x.feature.sm) h.1.2 h.1.2 _⟩, h.2⟩
theorem log_inc {l : List TEntry} (hS : isLog l = true) : ∀ (i j : Nat) (x y : TEntry), i < j → l[i]? = some x → l[j]? = some y → x.feature.id < y.feature.id := by
  have step : ∀ (i : Nat) (x y : TEntry), l[i]? = some x → l[i + 1]? = some y → x.feature.id < y.feature.id := fun i x y hx hy => by
    simp only [isLog, Bool.and_eq_true, chOk, List.all_eq_true, List.mem_range] at hS
    have h := hS.1 (i + 1) (List.getElem?_eq_some_iff.1 hy).1
    simp only [chAt, hy, Bool.and_eq_true, Bool.or_eq_true] at h
    rcases h.2 with h | h
    · simp at h
    · simpa [entLt, List.getD_eq_getElem?_getD, hx] using h
  intro i j
  induction j with
  | zero => intro x y h; omega
  | succ j ih =>
    intro x y h hx hy
    rcases Nat.lt_or_ge i j with hij | hij
    · have hj : j < l.length := by have := (List.getElem?_eq_some_iff.1 hy).1; omega
      have h1 := ih x l[j] hij hx (List.getElem?_eq_getElem hj)
      have h2 := step j l[j] y (List.getElem?_eq_getElem hj) hy
      omega
    · have e : i = j := by omega
      subst e
      exact step i x y hx hy
theorem stpB_nl {a o : TAtlas} {k : Bool} (h : isLog a.log = false) : stpB a o k = false := by
  unfold stpB isAtl atlIn
  rw [h]
  simp
theorem stpB_no {a o : TAtlas} {k : Bool} (h : k = false) : stpB a o k = false := by rw [h]; rfl
theorem tk_cases (a : TAtlas) (id who : Int) : (fnd (a.log.map TEntry.feature) id = -1 ∧ stpB a (tkO a id who) (tkK a id who) = false) ∨
    ∃ (k : Nat) (x : TEntry), fnd (a.log.map TEntry.feature) id = ((k : Nat) : Int) ∧ a.log[k]? = some x ∧ ((x.gone = true ∧ stpB a (tkO a id who) (tkK a id who) = false) ∨
      (x.gone = false ∧ stp a (tkO a id who) (tkK a id who) = stp a (logO a (tkE a x who)) (logK a (tkE a x who)) ∧ stpB a (tkO a id who) (tkK a id who) = stpB a (logO a (tkE a x who)) (logK a (tkE a x who)))) := by
  rcases e : (a.log.map TEntry.feature).findIdx? (fun f => f.id == id) with _ | k
  · refine .inl ⟨by rw [fnd, e], stpB_no ?_⟩
    unfold tkK
    rw [spT_none _ fun j x _ hx => ?_]
    rw [List.findIdx?_eq_none_iff] at e
    have := e x.feature (List.mem_map.2 ⟨x, List.mem_of_getElem? hx, rfl⟩)
    unfold hit
    rw [this]
    rfl
  · have hf : fnd (a.log.map TEntry.feature) id = ((k : Nat) : Int) := by rw [fnd, e]
    rw [List.findIdx?_eq_some_iff_getElem] at e
    obtain ⟨hk, hp, hlt⟩ := e
    rw [List.length_map] at hk
    have hx : a.log[k]? = some a.log[k] := List.getElem?_eq_getElem hk
    obtain ⟨x, hxe⟩ : ∃ x, x = a.log[k] := ⟨_, rfl⟩
    rw [← hxe] at hx
    rw [List.getElem_map, ← hxe] at hp
    refine .inr ⟨k, x, hf, hx, ?_⟩
    have uniq : isLog a.log = true → ∀ (j : Nat) y, j ≠ k → a.log[j]? = some y → hit id y = false := fun hL j y hj hy => by
      have hid : x.feature.id = id := by simpa using hp
      have hne : y.feature.id ≠ id := by
        rcases Nat.lt_or_gt_of_ne hj with h | h
        · have := log_inc hL j k y x h hy hx
          omega
        · have := log_inc hL k j x y h hx hy
          omega
      unfold hit
      rw [show (y.feature.id == id) = false by simpa using hne]
      rfl
    cases hgo : x.gone
    · refine .inr ⟨rfl, ?_⟩
      cases hL : isLog a.log
      · rw [stp_f (stpB_nl hL), stp_f (stpB_nl hL), stpB_nl hL, stpB_nl hL]
        exact ⟨rfl, rfl⟩
      · have hh : hit id x = true := by unfold hit; rw [hp, hgo]; rfl
        have h1 := spT_one (who := who) hx hh (fun j y hj hy => uniq hL j y (by omega) hy) a.log.length hk
        unfold tkO tkK
        rw [h1]
        exact ⟨rfl, rfl⟩
    · refine .inl ⟨rfl, ?_⟩
      cases hL : isLog a.log
      · exact stpB_nl hL
      · refine stpB_no ?_
        unfold tkK
        rw [spT_none _ fun j y _ hy => ?_]
        by_cases hj : j = k
        · subst hj
          rw [hx] at hy
          obtain rfl := Option.some.inj hy
          unfold hit
          rw [hgo]
          simp
        · exact uniq hL j y hj hy

end Go.Proofs.YtacbpfbelcdeiaaGreat.Abs
