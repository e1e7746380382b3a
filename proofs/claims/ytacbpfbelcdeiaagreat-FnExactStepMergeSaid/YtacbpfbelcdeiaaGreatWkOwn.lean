/- The laws' converters, what they make as rows of our own; the marks and their tests. -/
import Derived.Test.YtacbpfbelcdeiaaGreatWkStep
import Derived.Test.YtacbpfbelcdeiaaGreatWkTo
import Derived.Test.YtacbpfbelcdeiaaGreatWkEq
namespace Go.Proofs.YtacbpfbelcdeiaaGreat.Abs
open Go.Proofs Go.RowKit
set_option linter.unusedVariables false
set_option linter.unusedSimpArgs false
set_option maxRecDepth 100000
set_option maxHeartbeats 2000000
attribute [local irreducible] OpA AL AW DL DLM DLR DLS QOp POp VCalls VCallsI
def ctL {α : Type} (ct : α → Nat) : List α → Nat
  | [] => 0
  | x :: l => ct x + ctL ct l
def mkL {α : Type} (mk : Int → α → α) (ct : α → Nat) : Int → List α → List α
  | _, [] => []
  | k, x :: l => mk k x :: mkL mk ct (k + (ct x : Nat)) l
def mkd {α : Type} (mk : Int → α → α) (ct : α → Nat) (k : Int) (l : List α) (i : Nat) : List α := mkL mk ct k (l.take i) ++ l.drop i
section
variable {α : Type} {mk : Int → α → α} {ct : α → Nat} {l : List α} {i : Nat} {x : α}
theorem ctL_app : ∀ (a b : List α), ctL ct (a ++ b) = ctL ct a + ctL ct b
  | [], b => by simp [ctL]
  | x :: a, b => by rw [List.cons_append, ctL, ctL, ctL_app a b]; omega
theorem mkL_len : ∀ (k : Int) (l : List α), (mkL mk ct k l).length = l.length
  | _, [] => rfl
  | k, x :: l => by rw [mkL, List.length_cons, List.length_cons, mkL_len]
theorem mkL_app : ∀ (k : Int) (a b : List α), mkL mk ct k (a ++ b) = mkL mk ct k a ++ mkL mk ct (k + (ctL ct a : Nat)) b
  | k, [], b => by simp [mkL, ctL]
  | k, x :: a, b => by
    rw [List.cons_append, mkL, mkL, mkL_app, List.cons_append, ctL]
    have e : k + ((ct x : Nat) : Int) + ((ctL ct a : Nat) : Int) = k + ((ct x + ctL ct a : Nat) : Int) := by omega
    rw [e]
theorem ctL_take (h : l[i]? = some x) : ctL ct (l.take (i + 1)) = ctL ct (l.take i) + ct x := by rw [take_succ_of h, ctL_app, ctL, ctL]; omega
theorem ctL_le (h : l[i]? = some x) : ctL ct (l.take i) + ct x ≤ ctL ct l := by
  rw [← ctL_take h]
  have := ctL_app (ct := ct) (l.take (i + 1)) (l.drop (i + 1))
  rw [List.take_append_drop] at this
  omega
theorem len_ctL (h1 : ∀ x, 1 ≤ ct x) : ∀ l : List α, l.length ≤ ctL ct l
  | [] => Nat.le_refl _
  | x :: l => by rw [List.length_cons, ctL]; have := len_ctL h1 l; have := h1 x; omega
theorem mkd_zero {k : Int} : mkd mk ct k l 0 = l := by simp [mkd, mkL]
theorem mkd_all {k : Int} : mkd mk ct k l l.length = mkL mk ct k l := by simp [mkd]
theorem mkd_len {k : Int} (h : i ≤ l.length) : (mkd mk ct k l i).length = l.length := by
  simp [mkd, mkL_len]
  omega
theorem mkd_get {k : Int} (h : l[i]? = some x) : (mkd mk ct k l i)[i]? = some x := by
  have hlt : i < l.length := (List.getElem?_eq_some_iff.1 h).1
  rw [mkd, List.getElem?_append_right (by rw [mkL_len, List.length_take]; omega), mkL_len, List.length_take, List.getElem?_drop, ← h]
  congr 1
  omega
theorem mkd_succ {k : Int} (h : l[i]? = some x) : mkd mk ct k l (i + 1) = (mkd mk ct k l i).set i (mk (k + (ctL ct (l.take i) : Nat)) x) := by
  have hlt : i < l.length := (List.getElem?_eq_some_iff.1 h).1
  have hl : (mkL mk ct k (l.take i)).length = i := by rw [mkL_len, List.length_take]; omega
  have hd : l.drop i = x :: l.drop (i + 1) := by
    rw [List.getElem?_eq_getElem hlt] at h
    rw [List.drop_eq_getElem_cons hlt, Option.some.inj h]
  rw [mkd, mkd, List.set_append, if_neg (by omega), hl, Nat.sub_self, hd, List.set_cons_zero, take_succ_of h, mkL_app, mkL, mkL, List.append_assoc]
  rfl
theorem mkL_get {k : Int} (h : l[i]? = some x) : (mkL mk ct k l)[i]? = some (mk (k + (ctL ct (l.take i) : Nat)) x) := by
  have hlt : i < l.length := (List.getElem?_eq_some_iff.1 h).1
  have e : mkL mk ct k l = mkd mk ct k l l.length := mkd_all.symm
  have e2 := mkL_app (mk := mk) (ct := ct) k (l.take (i + 1)) (l.drop (i + 1))
  rw [List.take_append_drop] at e2
  rw [e2, take_succ_of h, mkL_app, List.append_assoc, List.getElem?_append_right (by rw [mkL_len, List.length_take]; omega), mkL_len, List.length_take]
  have e3 : i - min i l.length = 0 := by omega
  rw [e3, mkL]
  rfl
end
theorem ctL_bd {α : Type} {ct : α → Nat} {c : Nat} : ∀ {l : List α}, (∀ x ∈ l, ct x ≤ c) → ctL ct l ≤ l.length * c
  | [], _ => by simp [ctL]
  | x :: l, h => by
    rw [ctL, List.length_cons, Nat.add_mul]
    have h1 := h x List.mem_cons_self
    have h2 := ctL_bd (ct := ct) (c := c) (l := l) (fun y hy => h y (List.mem_cons_of_mem _ hy))
    omega
theorem set_self_of {α : Type} {A : List α} {i : Nat} {r : α} (h : A[i]? = some r) : A.set i r = A := by
  obtain ⟨hlt, rfl⟩ := List.getElem?_eq_some_iff.1 h
  exact List.set_getElem_self hlt
theorem toNat_ix (i : Nat) : ((i : Int)).toNat = i := Int.toNat_natCast i
def dgt (n : Nat) : UInt8 := UInt8.ofNat (48 + n % 10)
def dgs (n : Nat) (out : ByteArray) : ByteArray := if h : n = 0 then out else dgs (n / 10) (⟨#[dgt n]⟩ ++ out)
termination_by n
decreasing_by omega
def mtx (k : Int) : ByteArray := if k ≤ 0 then ⟨#[109, 48]⟩ else ⟨#[109]⟩ ++ dgs k.toNat ⟨#[]⟩
theorem dgs_zero (out : ByteArray) : dgs 0 out = out := by unfold dgs; simp
theorem dgs_pos {n : Nat} (h : n ≠ 0) (out : ByteArray) : dgs n out = dgs (n / 10) (⟨#[dgt n]⟩ ++ out) := by rw [dgs]; simp [h]
theorem dgt_val (n : Nat) : (((dgt n).toNat : Nat) : Int) = 48 + ((n % 10 : Nat) : Int) := by
  unfold dgt
  have h1 : n % 10 < 10 := Nat.mod_lt _ (by omega)
  have h2 : (UInt8.ofNat (48 + n % 10)).toNat = 48 + n % 10 := by simp; omega
  rw [h2]
  omega
theorem dcl_fil {α : Type} {en : α → List AV} {z : List AV} {l : List α} {i : Nat} (h : ∀ a, (en a).all isCD = true) (hz : z.all isCD = true) : DCl (fil en z l i) := DCl.app (DCl.map h) (DCl.rep hz)
theorem toPointS_o (l : List TPoint) (hl : l.length ≤ 1048576) : VCalls Tryz.prog 96 [.ro 2 (l.map TPoint.en)] (fun r M => r = .own 0 0 ∧ M = [some ⟨152, 2, 0, false, l.map TPoint.en⟩]) := by
  refine VB Tryz.func96 22 (fun E hE => ?_)
  repeat' ((first
    | (refine iAL ?_; first | refine AL.any ?_ | refine AL.any (h := POp.k Tryz.func129 (hc := toPoint x)) ?_ | refine AL.nil ?_)
    | (refine iAW ?_; first | (refine AW.c0 ?_; constructor) | refine AW.cT ?_ | refine AW.cF ?_ | (refine AW.c2 ?_ ?_ <;> (intro h; try simp only [bT, bF] at h)))
    | (refine AW.loopD hE (fun i : Nat => [.ro 2 (l.map TPoint.en), .any, .any, .own 0 0, I i, .any, .any, .any, .any, .any, .any, .any, .any, .any, .any, .any, .any, .any, .any, .any, .any, .any, .any]) (fun i => [some ⟨152, 2, 0, false, fil TPoint.en [I 0, I 0] l i⟩]) (fun i => l.length - i) (fun i => i ≤ l.length) 0 (by simp) ?_ (by first | rfl | (simp [fil_zero]; done)) ?_
       (focus (exact wkI))
       intro i hi
       have hclo : Clo (.ro 2 (l.map TPoint.en)) := clo_list TPoint.clo_en
       by_cases hlt : i < l.length
       case' pos =>
         have hP := True.intro
         obtain ⟨x, hx⟩ : ∃ x, l[i]? = some x := ⟨_, List.getElem?_eq_getElem hlt⟩
         have hg := map_get (f := TPoint.en) hx
         have ht := lt_true (f := TPoint.en) hlt
         have hn := next_ix hlt (by omega)
         have hz := fil_get (en := TPoint.en) (z := [I 0, I 0]) hlt
         have ha := fil_at (en := TPoint.en) (z := [I 0, I 0]) hlt
         have hs := fil_set (en := TPoint.en) (z := [I 0, I 0]) hx
       case' neg =>
         have hQ := True.intro
         have ht := lt_false (f := TPoint.en) hlt
         have e : i = l.length := by omega
         subst e
         try rw [List.take_length])
    | with_reducible refine ifP ?_
    | with_reducible refine ifN ?_) <;> (try dsimp only))
  all_goals first
    | (have _ := hP; (refine ⟨i + 1, [], hlt, by omega, ?_, by rw [← hs] <;> rfl, ?_, ?_⟩; (focus (exact wkN)); (focus (exact fitsA)); (focus (exact fits_dcl (dcl_fil (fun _ => rfl) rfl)))))
    | (have _ := hQ; (simp only [fil_all]; exact Fin.r1 [0] rfl (RV.tmp (by rfl)) ⟨rfl, rfl⟩))

def TFeature.eo (a : TFeature) : List AV := [I a.id, I a.kind, I a.rank, S a.name, .own 0 0]
def TFeature.rw (a : TFeature) : Mem := [some ⟨152, 2, 0, false, a.points.map TPoint.en⟩]
theorem toFeature_o (x : TFeature) (hs : x.sm) : VCalls Tryz.prog 42 [.agg x.en] (fun r M => r = .agg x.eo ∧ M = x.rw) := by
  refine VB Tryz.func42 20 (fun E hE => ?_)
  have hclo0 : Clo (.ro 2 (x.points.map TPoint.en)) := clo_list TPoint.clo_en
  have hcle : Clo (.agg x.en) := Clo.agg x.clo_en
  have hs' := hs
  obtain hs4 := hs
  dsimp only [TFeature.en]
  repeat' ((first
    | (refine iAL ?_; first | refine AL.any ?_ | refine AL.any (h := POp.O Tryz.func96 (hc := toPointS_o _ (by assumption))) ?_ | refine AL.nil ?_)
    | (refine iAW ?_; first | (refine AW.c0 ?_; constructor))) <;> (try dsimp only))
  all_goals exact Fin.r1 [3] rfl (RV.cell (QOp.quietA TT_ok (by rfl))) ⟨rfl, rfl⟩

theorem toFeatureS_o (l : List TFeature) (hl : l.length ≤ 1048576) (hp : ∀ x ∈ l, x.sm) : VCalls Tryz.prog 138 [.ro 5 (l.map TFeature.en)] (fun r M => r = .own 0 0 ∧ M = [some ⟨69, 5, 0, false, l.map TFeature.ed⟩]) := by
  refine VB Tryz.func138 22 (fun E hE => ?_)
  repeat' ((first
    | (refine iAL ?_; first | refine AL.any (h := POp.gh POp.mk (Gh.absorbS (q := 0) (id := 1) (j := 4) rfl (by assumption) rfl rfl rfl rfl rfl (DCl.map (fun _ => rfl)) TPoint.und)) ?_ | refine AL.any ?_ | refine AL.any (h := POp.O Tryz.func42 (hc := toFeature_o x (by assumption))) ?_ | refine AL.nil ?_)
    | (refine iAW ?_; first | (refine AW.c0 ?_; constructor) | refine AW.cT ?_ | refine AW.cF ?_ | (refine AW.c2 ?_ ?_ <;> (intro h; try simp only [bT, bF] at h)))
    | (refine AW.loopD hE (fun i : Nat => [.ro 5 (l.map TFeature.en), .any, .any, .own 0 0, I i, .any, .any, .any, .any, .any, .any, .any, .any, .any, .any, .any, .any, .any, .any, .any, .any, .any, .any]) (fun i => [some ⟨69, 5, 0, false, fil TFeature.ed [I 0, I 0, I 0, S ⟨#[]⟩, .c (.slice none 0 0)] l i⟩]) (fun i => l.length - i) (fun i => i ≤ l.length) 0 (by simp) ?_ (by first | rfl | (simp [fil_zero]; done)) ?_
       (focus (exact wkI))
       intro i hi
       have hclo : Clo (.ro 5 (l.map TFeature.en)) := clo_list TFeature.clo_en
       by_cases hlt : i < l.length
       case' pos =>
         have hP := True.intro
         obtain ⟨x, hx⟩ : ∃ x, l[i]? = some x := ⟨_, List.getElem?_eq_getElem hlt⟩
         have hg := map_get (f := TFeature.en) hx
         have ht := lt_true (f := TFeature.en) hlt
         have hn := next_ix hlt (by omega)
         have hz := fil_get (en := TFeature.ed) (z := [I 0, I 0, I 0, S ⟨#[]⟩, .c (.slice none 0 0)]) hlt
         have ha := fil_at (en := TFeature.ed) (z := [I 0, I 0, I 0, S ⟨#[]⟩, .c (.slice none 0 0)]) hlt
         have hs := fil_set (en := TFeature.ed) (z := [I 0, I 0, I 0, S ⟨#[]⟩, .c (.slice none 0 0)]) hx
         have hpx := hp x (List.mem_of_getElem? hx)
         have hclo0 : Clo (.ro 2 (x.points.map TPoint.en)) := clo_list TPoint.clo_en
         have hcle : Clo (.agg x.en) := Clo.agg x.clo_en
       case' neg =>
         have hQ := True.intro
         have ht := lt_false (f := TFeature.en) hlt
         have e : i = l.length := by omega
         subst e
         try rw [List.take_length])
    | with_reducible refine ifP ?_
    | with_reducible refine ifN ?_) <;> (try dsimp only))
  all_goals first
    | (have _ := hP; (refine ⟨i + 1, [none], hlt, by omega, ?_, by rw [← hs] <;> rfl, ?_, ?_⟩; (focus (exact wkN)); (focus (exact fitsA)); (focus (exact fits_dcl (dcl_fil (fun _ => rfl) rfl)))))
    | (have _ := hQ; (simp only [fil_all]; exact Fin.r1 [0] rfl (RV.tmp (by rfl)) ⟨rfl, rfl⟩))

theorem toLevelS_o (l : List TLevel) (hl : l.length ≤ 1048576) : VCalls Tryz.prog 16 [.ro 3 (l.map TLevel.en)] (fun r M => r = .own 0 0 ∧ M = [some ⟨97, 3, 0, false, l.map TLevel.en⟩]) := by
  refine VB Tryz.func16 22 (fun E hE => ?_)
  repeat' ((first
    | (refine iAL ?_; first | refine AL.any ?_ | refine AL.any (h := POp.k Tryz.func62 (hc := toLevel x)) ?_ | refine AL.nil ?_)
    | (refine iAW ?_; first | (refine AW.c0 ?_; constructor) | refine AW.cT ?_ | refine AW.cF ?_ | (refine AW.c2 ?_ ?_ <;> (intro h; try simp only [bT, bF] at h)))
    | (refine AW.loopD hE (fun i : Nat => [.ro 3 (l.map TLevel.en), .any, .any, .own 0 0, I i, .any, .any, .any, .any, .any, .any, .any, .any, .any, .any, .any, .any, .any, .any, .any, .any, .any, .any]) (fun i => [some ⟨97, 3, 0, false, fil TLevel.en [I 0, I 0, I 0] l i⟩]) (fun i => l.length - i) (fun i => i ≤ l.length) 0 (by simp) ?_ (by first | rfl | (simp [fil_zero]; done)) ?_
       (focus (exact wkI))
       intro i hi
       have hclo : Clo (.ro 3 (l.map TLevel.en)) := clo_list TLevel.clo_en
       by_cases hlt : i < l.length
       case' pos =>
         have hP := True.intro
         obtain ⟨x, hx⟩ : ∃ x, l[i]? = some x := ⟨_, List.getElem?_eq_getElem hlt⟩
         have hg := map_get (f := TLevel.en) hx
         have ht := lt_true (f := TLevel.en) hlt
         have hn := next_ix hlt (by omega)
         have hz := fil_get (en := TLevel.en) (z := [I 0, I 0, I 0]) hlt
         have ha := fil_at (en := TLevel.en) (z := [I 0, I 0, I 0]) hlt
         have hs := fil_set (en := TLevel.en) (z := [I 0, I 0, I 0]) hx
       case' neg =>
         have hQ := True.intro
         have ht := lt_false (f := TLevel.en) hlt
         have e : i = l.length := by omega
         subst e
         try rw [List.take_length])
    | with_reducible refine ifP ?_
    | with_reducible refine ifN ?_) <;> (try dsimp only))
  all_goals first
    | (have _ := hP; (refine ⟨i + 1, [], hlt, by omega, ?_, by rw [← hs] <;> rfl, ?_, ?_⟩; (focus (exact wkN)); (focus (exact fitsA)); (focus (exact fits_dcl (dcl_fil (fun _ => rfl) rfl)))))
    | (have _ := hQ; (simp only [fil_all]; exact Fin.r1 [0] rfl (RV.tmp (by rfl)) ⟨rfl, rfl⟩))

def TEntry.eo (a : TEntry) : List AV := [I a.feature.id, I a.feature.kind, I a.feature.rank, S a.feature.name, .own 0 0, I a.tick, I a.who, B a.gone]
def TEntry.rw (a : TEntry) : Mem := [some ⟨152, 2, 0, false, a.feature.points.map TPoint.en⟩]
theorem toEntry_o (x : TEntry) (hs : x.sm) : VCalls Tryz.prog 87 [.agg x.en] (fun r M => r = .agg x.eo ∧ M = x.rw) := by
  refine VB Tryz.func87 17 (fun E hE => ?_)
  have hclo0 : Clo (.ro 2 (x.feature.points.map TPoint.en)) := clo_list TPoint.clo_en
  have hcls0 : Clo (.agg x.feature.en) := Clo.agg x.feature.clo_en
  have hcle : Clo (.agg x.en) := Clo.agg x.clo_en
  have hs' := hs
  obtain hs0 := hs
  dsimp only [TEntry.en]
  repeat' ((first
    | (refine iAL ?_; first | refine AL.any ?_ | refine AL.any (h := POp.O Tryz.func42 (hc := toFeature_o x.feature (by assumption))) ?_ | refine AL.nil ?_)
    | (refine iAW ?_; first | (refine AW.c0 ?_; constructor))) <;> (try dsimp only))
  all_goals exact Fin.r1 [3] rfl (RV.cell (QOp.quietA TT_ok (by rfl))) ⟨rfl, rfl⟩

theorem toEntryS_o (l : List TEntry) (hl : l.length ≤ 1048576) (hp : ∀ x ∈ l, x.sm) : VCalls Tryz.prog 36 [.ro 8 (l.map TEntry.en)] (fun r M => r = .own 0 0 ∧ M = [some ⟨121, 8, 0, false, l.map TEntry.ed⟩]) := by
  refine VB Tryz.func36 22 (fun E hE => ?_)
  repeat' ((first
    | (refine iAL ?_; first | refine AL.any (h := POp.gh POp.mk (Gh.absorbS (q := 0) (id := 1) (j := 4) rfl (by assumption) rfl rfl rfl rfl rfl (DCl.map (fun _ => rfl)) TPoint.und)) ?_ | refine AL.any ?_ | refine AL.any (h := POp.O Tryz.func87 (hc := toEntry_o x (by assumption))) ?_ | refine AL.nil ?_)
    | (refine iAW ?_; first | (refine AW.c0 ?_; constructor) | refine AW.cT ?_ | refine AW.cF ?_ | (refine AW.c2 ?_ ?_ <;> (intro h; try simp only [bT, bF] at h)))
    | (refine AW.loopD hE (fun i : Nat => [.ro 8 (l.map TEntry.en), .any, .any, .own 0 0, I i, .any, .any, .any, .any, .any, .any, .any, .any, .any, .any, .any, .any, .any, .any, .any, .any, .any, .any]) (fun i => [some ⟨121, 8, 0, false, fil TEntry.ed [I 0, I 0, I 0, S ⟨#[]⟩, .c (.slice none 0 0), I 0, I 0, B false] l i⟩]) (fun i => l.length - i) (fun i => i ≤ l.length) 0 (by simp) ?_ (by first | rfl | (simp [fil_zero]; done)) ?_
       (focus (exact wkI))
       intro i hi
       have hclo : Clo (.ro 8 (l.map TEntry.en)) := clo_list TEntry.clo_en
       by_cases hlt : i < l.length
       case' pos =>
         have hP := True.intro
         obtain ⟨x, hx⟩ : ∃ x, l[i]? = some x := ⟨_, List.getElem?_eq_getElem hlt⟩
         have hg := map_get (f := TEntry.en) hx
         have ht := lt_true (f := TEntry.en) hlt
         have hn := next_ix hlt (by omega)
         have hz := fil_get (en := TEntry.ed) (z := [I 0, I 0, I 0, S ⟨#[]⟩, .c (.slice none 0 0), I 0, I 0, B false]) hlt
         have ha := fil_at (en := TEntry.ed) (z := [I 0, I 0, I 0, S ⟨#[]⟩, .c (.slice none 0 0), I 0, I 0, B false]) hlt
         have hs := fil_set (en := TEntry.ed) (z := [I 0, I 0, I 0, S ⟨#[]⟩, .c (.slice none 0 0), I 0, I 0, B false]) hx
         have hpx := hp x (List.mem_of_getElem? hx)
         have hclo0 : Clo (.ro 2 (x.feature.points.map TPoint.en)) := clo_list TPoint.clo_en
         have hcls0 : Clo (.agg x.feature.en) := Clo.agg x.feature.clo_en
         have hcle : Clo (.agg x.en) := Clo.agg x.clo_en
       case' neg =>
         have hQ := True.intro
         have ht := lt_false (f := TEntry.en) hlt
         have e : i = l.length := by omega
         subst e
         try rw [List.take_length])
    | with_reducible refine ifP ?_
    | with_reducible refine ifN ?_) <;> (try dsimp only))
  all_goals first
    | (have _ := hP; (refine ⟨i + 1, [none], hlt, by omega, ?_, by rw [← hs] <;> rfl, ?_, ?_⟩; (focus (exact wkN)); (focus (exact fitsA)); (focus (exact fits_dcl (dcl_fil (fun _ => rfl) rfl)))))
    | (have _ := hQ; (simp only [fil_all]; exact Fin.r1 [0] rfl (RV.tmp (by rfl)) ⟨rfl, rfl⟩))

def TEdition.eo (a : TEdition) : List AV := [I a.tick, .own 0 0, I a.seal_]
def TEdition.rw (a : TEdition) : Mem := [some ⟨69, 5, 0, false, a.source.map TFeature.ed⟩]
theorem toEdition_o (x : TEdition) (hs : x.sm) : VCalls Tryz.prog 114 [.agg x.en] (fun r M => r = .agg x.eo ∧ M = x.rw) := by
  refine VB Tryz.func114 14 (fun E hE => ?_)
  have hclo0 : Clo (.ro 5 (x.source.map TFeature.en)) := clo_list TFeature.clo_en
  have hcle : Clo (.agg x.en) := Clo.agg x.clo_en
  have hs' := hs
  obtain ⟨hs1, hs1'⟩ := hs
  dsimp only [TEdition.en]
  repeat' ((first
    | (refine iAL ?_; first | refine AL.any ?_ | refine AL.any (h := POp.O Tryz.func138 (hc := toFeatureS_o _ (by assumption) (by assumption))) ?_ | refine AL.nil ?_)
    | (refine iAW ?_; first | (refine AW.c0 ?_; constructor))) <;> (try dsimp only))
  all_goals exact Fin.r1 [3] rfl (RV.cell (QOp.quietA TT_ok (by rfl))) ⟨rfl, rfl⟩

theorem toEditionS_o (l : List TEdition) (hl : l.length ≤ 1048576) (hp : ∀ x ∈ l, x.sm) : VCalls Tryz.prog 74 [.ro 3 (l.map TEdition.en)] (fun r M => r = .own 0 0 ∧ M = [some ⟨136, 3, 0, false, l.map TEdition.ed⟩]) := by
  refine VB Tryz.func74 22 (fun E hE => ?_)
  repeat' ((first
    | (refine iAL ?_; first | refine AL.any (h := POp.gh POp.mk (Gh.absorbS (q := 0) (id := 1) (j := 1) rfl (by assumption) rfl rfl rfl rfl rfl (DCl.map (fun _ => rfl)) TFeature.und)) ?_ | refine AL.any ?_ | refine AL.any (h := POp.O Tryz.func114 (hc := toEdition_o x (by assumption))) ?_ | refine AL.nil ?_)
    | (refine iAW ?_; first | (refine AW.c0 ?_; constructor) | refine AW.cT ?_ | refine AW.cF ?_ | (refine AW.c2 ?_ ?_ <;> (intro h; try simp only [bT, bF] at h)))
    | (refine AW.loopD hE (fun i : Nat => [.ro 3 (l.map TEdition.en), .any, .any, .own 0 0, I i, .any, .any, .any, .any, .any, .any, .any, .any, .any, .any, .any, .any, .any, .any, .any, .any, .any, .any]) (fun i => [some ⟨136, 3, 0, false, fil TEdition.ed [I 0, .c (.slice none 0 0), I 0] l i⟩]) (fun i => l.length - i) (fun i => i ≤ l.length) 0 (by simp) ?_ (by first | rfl | (simp [fil_zero]; done)) ?_
       (focus (exact wkI))
       intro i hi
       have hclo : Clo (.ro 3 (l.map TEdition.en)) := clo_list TEdition.clo_en
       by_cases hlt : i < l.length
       case' pos =>
         have hP := True.intro
         obtain ⟨x, hx⟩ : ∃ x, l[i]? = some x := ⟨_, List.getElem?_eq_getElem hlt⟩
         have hg := map_get (f := TEdition.en) hx
         have ht := lt_true (f := TEdition.en) hlt
         have hn := next_ix hlt (by omega)
         have hz := fil_get (en := TEdition.ed) (z := [I 0, .c (.slice none 0 0), I 0]) hlt
         have ha := fil_at (en := TEdition.ed) (z := [I 0, .c (.slice none 0 0), I 0]) hlt
         have hs := fil_set (en := TEdition.ed) (z := [I 0, .c (.slice none 0 0), I 0]) hx
         have hpx := hp x (List.mem_of_getElem? hx)
         have hclo0 : Clo (.ro 5 (x.source.map TFeature.en)) := clo_list TFeature.clo_en
         have hcle : Clo (.agg x.en) := Clo.agg x.clo_en
       case' neg =>
         have hQ := True.intro
         have ht := lt_false (f := TEdition.en) hlt
         have e : i = l.length := by omega
         subst e
         try rw [List.take_length])
    | with_reducible refine ifP ?_
    | with_reducible refine ifN ?_) <;> (try dsimp only))
  all_goals first
    | (have _ := hP; (refine ⟨i + 1, [none], hlt, by omega, ?_, by rw [← hs] <;> rfl, ?_, ?_⟩; (focus (exact wkN)); (focus (exact fitsA)); (focus (exact fits_dcl (dcl_fil (fun _ => rfl) rfl)))))
    | (have _ := hQ; (simp only [fil_all]; exact Fin.r1 [0] rfl (RV.tmp (by rfl)) ⟨rfl, rfl⟩))

def TAtlas.eo (a : TAtlas) : List AV := [.own 0 0, .own 1 0, .own 2 0, I a.cover.w, I a.cover.h, S a.cover.cells, I a.now]
def TAtlas.rw (a : TAtlas) : Mem := [some ⟨121, 8, 0, false, a.log.map TEntry.ed⟩, some ⟨97, 3, 0, false, a.levels.map TLevel.en⟩, some ⟨136, 3, 0, false, a.editions.map TEdition.ed⟩]
theorem toAtlas_o (x : TAtlas) (hs : x.sm) : VCalls Tryz.prog 26 [.agg x.en] (fun r M => r = .agg x.eo ∧ M = x.rw) := by
  refine VB Tryz.func26 23 (fun E hE => ?_)
  have hclo0 : Clo (.ro 8 (x.log.map TEntry.en)) := clo_list TEntry.clo_en
  have hclo1 : Clo (.ro 3 (x.levels.map TLevel.en)) := clo_list TLevel.clo_en
  have hclo2 : Clo (.ro 3 (x.editions.map TEdition.en)) := clo_list TEdition.clo_en
  have hcle : Clo (.agg x.en) := Clo.agg x.clo_en
  have hs' := hs
  obtain ⟨⟨hs0, hs0'⟩, hs1, ⟨hs2, hs2'⟩⟩ := hs
  dsimp only [TAtlas.en]
  repeat' ((first
    | (refine iAL ?_; first | refine AL.any ?_ | refine AL.any (h := POp.O Tryz.func16 (hc := toLevelS_o _ (by assumption))) ?_ | refine AL.any (h := POp.k Tryz.func17 (hc := toCover x.cover)) ?_ | refine AL.any (h := POp.O Tryz.func36 (hc := toEntryS_o _ (by assumption) (by assumption))) ?_ | refine AL.any (h := POp.O Tryz.func74 (hc := toEditionS_o _ (by assumption) (by assumption))) ?_ | refine AL.nil ?_)
    | (refine iAW ?_; first | (refine AW.c0 ?_; constructor))) <;> (try dsimp only))
  all_goals exact Fin.r1 [3, 4, 5] rfl (RV.cell (QOp.quietA TT_ok (by rfl))) ⟨rfl, rfl⟩

end Go.Proofs.YtacbpfbelcdeiaaGreat.Abs
