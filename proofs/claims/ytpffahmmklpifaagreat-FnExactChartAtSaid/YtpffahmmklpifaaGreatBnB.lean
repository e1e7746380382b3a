/- Part B of the walk over abstract states and of the functions' walks. -/
import Derived.Test.YtpffahmmklpifaaGreatWkStep
import Derived.Test.YtpffahmmklpifaaGreatBnA
/- The walks of TwiceArea and TotalArea. -/
namespace Go.Proofs.YtpffahmmklpifaaGreat.Abs
open Go.Proofs Go.RowKit
set_option linter.unusedVariables false
set_option linter.unusedSimpArgs false
set_option maxRecDepth 100000
set_option maxHeartbeats 2000000
attribute [local irreducible] OpA AL AW DL DLM DLR DLS QOp POp VCalls VCallsI
theorem ringSegs_i (l : List TPoint) (hl : l.length ≤ 1048576) : VCalls Tryz.prog 251 [.ro 2 (l.map TPoint.en)] (fun r M => r = .ro 4 ((ringSegs l).map TSegment.en) ∧ M = []) := by
 refine VB Tryz.func251 8 (fun E hE => ?_)
 have hclo : Clo (.ro 2 (l.map TPoint.en)) := clo_list TPoint.clo_en
 have hclA : Clo (.ro 4 ((arnd l).map TSegment.en)) := clo_list TSegment.clo_en
 have hal := arnd_len l
 repeat' ((first
  | (refine iAL ?_; first | refine AL.any ?_ | refine AL.any (h := POp.k Tryz.func182 (hc := isRing_i _ (by assumption))) ?_ | refine AL.any (h := POp.k Tryz.func248 (hc := arnd_i _ (by assumption))) ?_ | refine AL.nil ?_)
  | (refine iAW ?_; first | (refine AW.freezeRet (t := 2) (id := 0) rfl rfl rfl rfl clo_rows_nil ?_; (try simp only [List.take_length]); try dsimp only [dput, List.set, cond_true, cond_false, Nat.zero_add, Nat.add_zero, Nat.reduceAdd, splice, List.take, List.drop, List.length, List.nil_append, List.cons_append, List.append, TPoint.en, TSegment.en, TBox.en, TFeature.en, TMeet.en, TPlace.en, TCover.en, TLabel.en, TPiece.en, TLevel.en, TChart.en, TReason.en, TEdit.en, TEntry.en, TEdition.en, TListing.en, TAtlas.en, TEvent.en, TWindow.en]) | (refine AW.c0 ?_; constructor) | (refine AW.c2 ?_ ?_ <;> (intro h; try simp only [bT, bF] at h)))) <;> (try dsimp only))
 all_goals first | exact Fin.one rfl (RV.tmp (by rfl)) (Clo.ro fun r hr => by simp at hr) ⟨by rw [ringSegs_f (by assumption)]; rfl, rfl⟩ | exact Fin.one rfl (RV.tmp (by rfl)) (clo_list TSegment.clo_en) ⟨by rw [ringSegs_t (by assumption)], rfl⟩

theorem twice_s (l : List TPoint) (hl : l.length ≤ 1048576) : VCalls Tryz.prog 336 [.ro 2 (l.map TPoint.en)] (fun r M => r = I (twice l) ∧ M = []) := by
 refine VB Tryz.func336 47 (fun E hE => ?_)
 have hclo : Clo (.ro 2 (l.map TPoint.en)) := clo_list TPoint.clo_en
 have hclA : Clo (.ro 4 ((arnd l).map TSegment.en)) := clo_list TSegment.clo_en
 have hal := arnd_len l
 have hclR : Clo (.ro 4 ((ringSegs l).map TSegment.en)) := clo_list TSegment.clo_en
 have hrl := ringSegs_le l
 repeat' ((first
  | (refine iAL ?_; first | refine AL.any ?_ | refine AL.any (h := POp.k Tryz.func239 (hc := arnd_s _ (by assumption))) ?_ | refine AL.W ?_ | refine AL.W (h := fun h => by (try rw [h]); exact POp.k Tryz.func172 (hc := isRing_s _ (by assumption))) ?_ | refine AL.nil ?_)
  | ((with_reducible show DL ..); first | refine DL.any ?_ | refine DL.nil ?_)
  | (refine iAW ?_; first | (refine AW.c0 ?_; constructor) | refine AW.dr (id := 6) 28 ?_ | refine AW.cT ?_ | refine AW.cF ?_)
  | (
 refine AW.loopD hE (fun i : Nat => [.ro 2 (l.map TPoint.en), .any, .any, I (accF twS (ringSegs l) i), .ro 4 ((arnd l).map TSegment.en), I (i : Int), .any, .any, .any, .any, .any, .any, .any, .any, .any, .any, .any, .any, .any, .any, .any, .any, .any, .any, .any, .any, .any, .any, .any, .any, .any, .any, .any, .any, .any, .any, .any, .any, .any, .any, .any, .any, .any, .any, .any, .any, .any, .any]) (fun i => []) (fun i => (ringSegs l).length - i) (fun i => i ≤ (ringSegs l).length) 0 (Nat.zero_le _) ?_ (by first | rfl | (simp [fil_zero]; done)) ?_
 (focus ((refine wkj ?_; repeat' with_reducible constructor) <;> first | rfl | (simp_all [accF])))
 intro i hi
 by_cases hlt : i < (ringSegs l).length
 case' pos =>
  have hP := True.intro
  obtain ⟨x, hx⟩ : ∃ x, (ringSegs l)[i]? = some x := ⟨_, List.getElem?_eq_getElem hlt⟩
  have hR : isRing l = true := by
   cases hR : isRing l
   · rw [ringSegs_f hR] at hlt; simp at hlt
   · rfl
  have ht : (decide ((i : Int) < (((arnd l).map TSegment.en).length : Int)) && isRing l) = true := by rw [ringSegs_t hR] at hlt; rw [hR]; simp; omega
  have hac := accF_succ (f := twS) hx
  rw [ringSegs_t hR] at hx
  have hn := next_ix hlt (by omega)
  have hg := map_get (f := TSegment.en) hx
 case' neg =>
  have hQ := True.intro
  have e : i = (ringSegs l).length := by omega
  have ht : (decide ((i : Int) < (((arnd l).map TSegment.en).length : Int)) && isRing l) = false := by
   cases hR : isRing l
   · simp
   · rw [e, ringSegs_t hR]; simp
  subst e)) <;> (try dsimp only))
 all_goals first
  | (have _ := hP; (refine ⟨i + 1, _, hlt, by omega, ?_, rfl, ?_, ?_⟩; (focus (exact wkN)); (focus (exact fitsA)); (focus (exact FitsM.nil _))))
  | (have _ := hQ; exact Fin.one rfl (RV.tmp (by rfl)) (clo_c _) ⟨by rw [accF_all]; rfl, rfl⟩)

theorem twice_i (l : List TPoint) (hl : l.length ≤ 1048576) : VCalls Tryz.prog 329 [.ro 2 (l.map TPoint.en)] (fun r M => r = I (twice l) ∧ M = []) := by
 refine VB Tryz.func329 31 (fun E hE => ?_)
 have hclo : Clo (.ro 2 (l.map TPoint.en)) := clo_list TPoint.clo_en
 have hclA : Clo (.ro 4 ((arnd l).map TSegment.en)) := clo_list TSegment.clo_en
 have hal := arnd_len l
 have hclR : Clo (.ro 4 ((ringSegs l).map TSegment.en)) := clo_list TSegment.clo_en
 have hrl := ringSegs_le l
 repeat' ((first
  | (refine iAL ?_; first | refine AL.any ?_ | refine AL.any (h := POp.k Tryz.func251 (hc := ringSegs_i _ (by assumption))) ?_ | refine AL.nil ?_)
  | (refine iAW ?_; first | (refine AW.c0 ?_; constructor) | refine AW.cT ?_ | refine AW.cF ?_)
  | (
 refine AW.loopD hE (fun i : Nat => [.ro 2 (l.map TPoint.en), .any, .any, I (accF twI (ringSegs l) i), .any, .any, .any, .ro 4 ((ringSegs l).map TSegment.en), I (((ringSegs l).map TSegment.en).length : Int), I (i : Int), .any, .any, .any, .any, .any, .any, .any, .any, .any, .any, .any, .any, .any, .any, .any, .any, .any, .any, .any, .any, .any, .any]) (fun i => []) (fun i => (ringSegs l).length - i) (fun i => i ≤ (ringSegs l).length) 0 (by simp) ?_ (by first | rfl | (simp [fil_zero]; done)) ?_
 (focus ((refine wkj ?_; repeat' with_reducible constructor) <;> first | rfl | (simp_all [accF])))
 intro i hi
 by_cases hlt : i < (ringSegs l).length
 case' pos =>
  have hP := True.intro
  obtain ⟨x, hx⟩ : ∃ x, (ringSegs l)[i]? = some x := ⟨_, List.getElem?_eq_getElem hlt⟩
  have hg := map_get (f := TSegment.en) hx
  have ht := lt_true (f := TSegment.en) hlt
  have hn := next_ix hlt (by omega)
  have hac := accF_succ (f := twI) hx
 case' neg =>
  have hQ := True.intro
  have ht := lt_false (f := TSegment.en) hlt
  have e : i = (ringSegs l).length := by omega
  subst e
  try rw [List.take_length])) <;> (try dsimp only))
 all_goals first
  | (have _ := hP; (refine ⟨i + 1, _, hlt, by omega, ?_, rfl, ?_, ?_⟩; (focus (exact wkN)); (focus (exact fitsA)); (focus (exact FitsM.nil _))))
  | (have _ := hQ; exact Fin.one rfl (RV.tmp (by rfl)) (clo_c _) ⟨by rw [accF_all, tw_fun]; rfl, rfl⟩)

end Go.Proofs.YtpffahmmklpifaaGreat.Abs

/- A ring's area is not nought: plain. -/
namespace Go.Proofs.YtpffahmmklpifaaGreat.Abs
open Go.Proofs Go.RowKit
set_option linter.unusedVariables false
set_option linter.unusedSimpArgs false
set_option maxRecDepth 100000
set_option maxHeartbeats 2000000
attribute [local irreducible] OpA AL AW DL DLM DLR DLS QOp POp VCalls VCallsI
set_option maxHeartbeats 2000000
theorem aff_pos {α β m M h : Int} (h1 : 0 ≤ α * m + β) (h2 : 0 ≤ α * M + β) (hs : 0 < α * m + β ∨ m < h) (ht : 0 < α * M + β ∨ h < M) (hn : 0 < α * m + β ∨ 0 < α * M + β) (hm : m ≤ h) (hM : h ≤ M) : 0 < α * h + β := by
 rcases Int.le_total 0 α with ha | ha
 · have e1 := Int.mul_le_mul_of_nonneg_left hm ha
   have e2 := Int.mul_le_mul_of_nonneg_left hM ha
   rcases hs with hs | hs
   · omega
   · rcases Int.lt_or_eq_of_le ha with hp | hp
     · have := Int.mul_lt_mul_of_pos_left hs hp
       omega
     · subst hp; simp at *; omega
 · have e1 := Int.mul_le_mul_of_nonpos_left ha hm
   have e2 := Int.mul_le_mul_of_nonpos_left ha hM
   rcases ht with ht | ht
   · omega
   · rcases Int.lt_or_eq_of_le ha with hp | hp
     · have := Int.mul_lt_mul_of_neg_left ht hp
       omega
     · subst hp; simp at *; omega

def SN (f : Nat → Nat) : Nat → Nat
 | 0 => 0
 | n + 1 => SN f n + f n
def SI (f : Nat → Int) : Nat → Int
 | 0 => 0
 | n + 1 => SI f n + f n
theorem SN_congr {f g : Nat → Nat} : ∀ {n : Nat}, (∀ i, i < n → f i = g i) → SN f n = SN g n
 | 0, _ => rfl
 | n + 1, h => by rw [SN, SN, SN_congr fun i hi => h i (by omega), h n (by omega)]
theorem SI_congr {f g : Nat → Int} : ∀ {n : Nat}, (∀ i, i < n → f i = g i) → SI f n = SI g n
 | 0, _ => rfl
 | n + 1, h => by rw [SI, SI, SI_congr fun i hi => h i (by omega), h n (by omega)]
theorem SN_add (f g : Nat → Nat) : ∀ n, SN (fun i => f i + g i) n = SN f n + SN g n
 | 0 => rfl
 | n + 1 => by rw [SN, SN, SN, SN_add f g n]; omega
theorem SI_add (f g : Nat → Int) : ∀ n, SI (fun i => f i + g i) n = SI f n + SI g n
 | 0 => rfl
 | n + 1 => by rw [SI, SI, SI, SI_add f g n]; omega
theorem SN_one (g c : Nat) : ∀ n, SN (fun i => if i = g then c else 0) n = if g < n then c else 0
 | 0 => by simp [SN]
 | n + 1 => by
  rw [SN, SN_one g c n]
  by_cases h : n = g
  · subst h; simp
  · rw [if_neg h]
    by_cases h2 : g < n
    · rw [if_pos h2, if_pos (by omega), Nat.add_zero]
    · rw [if_neg h2, if_neg (by omega)]
theorem SN_even {f : Nat → Nat} : ∀ {n : Nat}, (∀ i, i < n → f i % 2 = 0) → SN f n % 2 = 0
 | 0, _ => rfl
 | n + 1, h => by
  have h1 := SN_even (f := f) (n := n) fun i hi => h i (by omega)
  have h2 := h n (by omega)
  rw [SN]
  omega
theorem SN_two' {f : Nat → Nat} {n g v : Nat} (hg : g < n) (hv : v < n) (hne : g ≠ v) (h : ∀ i, i < n → i ≠ g → i ≠ v → f i % 2 = 0) : SN f n % 2 = (f g + f v) % 2 := by
 have e : SN (fun i => (if i = g ∨ i = v then 0 else f i) + ((if i = g then f g else 0) + (if i = v then f v else 0))) n = SN f n := SN_congr fun i _ => by
  by_cases h1 : i = g
  · subst h1; simp [hne]
  · by_cases h2 : i = v
    · subst h2; simp [h1]
    · simp [h1, h2]
 rw [← e, SN_add, SN_add, SN_one, SN_one, if_pos hg, if_pos hv]
 have h0 : SN (fun i => if i = g ∨ i = v then 0 else f i) n % 2 = 0 := SN_even fun i hi => by
  by_cases h1 : i = g ∨ i = v
  · rw [if_pos h1]
  · rw [if_neg h1]; exact h i hi (fun e => h1 (.inl e)) (fun e => h1 (.inr e))
 omega
theorem SN_two {f : Nat → Nat} {n g v : Nat} (hg : g < n) (hv : v < n) (hne : g ≠ v) (h : ∀ i, i < n → i ≠ g → i ≠ v → f i % 2 = 0) (hgv : (f g + f v) % 2 = 0) : SN f n % 2 = 0 := (SN_two' hg hv hne h).trans hgv
def b2n (b : Bool) : Nat := if b then 1 else 0
def nx (n i : Nat) : Nat := (i + 1) % n
def pv (n i : Nat) : Nat := (i + n - 1) % n
theorem nx_lt {n i : Nat} (h : 0 < n) : nx n i < n := Nat.mod_lt _ h
theorem pv_lt {n i : Nat} (h : 0 < n) : pv n i < n := Nat.mod_lt _ h
theorem nx_eq {n i : Nat} (h : i < n) : nx n i = if i + 1 = n then 0 else i + 1 := by
 unfold nx
 split
 · rename_i e; rw [e]; exact Nat.mod_self n
 · exact Nat.mod_eq_of_lt (by omega)
theorem pv_eq {n i : Nat} (h : i < n) : pv n i = if i = 0 then n - 1 else i - 1 := by
 unfold pv
 split
 · rename_i e; subst e; rw [Nat.zero_add]; exact Nat.mod_eq_of_lt (by omega)
 · rw [show i + n - 1 = (i - 1) + n by omega, Nat.add_mod_right]; exact Nat.mod_eq_of_lt (by omega)
theorem nx_pv {n i : Nat} (h : i < n) : nx n (pv n i) = i := by
 have h1 := pv_lt (n := n) (i := i) (by omega)
 rw [nx_eq h1, pv_eq h]
 split <;> split <;> omega
theorem pv_nx {n i : Nat} (h : i < n) : pv n (nx n i) = i := by
 have h1 := nx_lt (n := n) (i := i) (by omega)
 rw [pv_eq h1, nx_eq h]
 split <;> split <;> omega
structure Ply (n : Nat) (t x A B : Nat → Int) : Prop where
 n3 : 3 ≤ n
 ev : ∀ i, i < n → t i % 2 = 0
 inj : ∀ i j, i < n → j < n → t i = t j → i = j
 at0 : ∀ i, i < n → A i * t i + B i = x i
 at1 : ∀ i, i < n → A i * t (nx n i) + B i = x (nx n i)
 sep : ∀ i j h k, i < n → j < n → i ≠ j → min (t i) (t (nx n i)) ≤ h → h ≤ max (t i) (t (nx n i)) → min (t j) (t (nx n j)) ≤ h → h ≤ max (t j) (t (nx n j)) →
  min (t i) (t (nx n i)) ≤ k → k ≤ max (t i) (t (nx n i)) → min (t j) (t (nx n j)) ≤ k → k ≤ max (t j) (t (nx n j)) →
  (j = nx n i → h ≠ t j ∧ k ≠ t j) → (i = nx n j → h ≠ t i ∧ k ≠ t i) → A i * h + B i ≠ A j * h + B j ∧ (A i * h + B i < A j * h + B j ↔ A i * k + B i < A j * k + B j)
section
variable {n : Nat} {t x A B : Nat → Int}
def cr (n : Nat) (t : Nat → Int) (i : Nat) (h : Int) : Bool := decide (min (t i) (t (nx n i)) < h) && decide (h < max (t i) (t (nx n i)))
def lf (n : Nat) (t A B : Nat → Int) (i j : Nat) (h : Int) : Bool := cr n t i h && decide (A i * h + B i < A j * h + B j)
def rk (n : Nat) (t A B : Nat → Int) (j : Nat) (h : Int) : Nat := SN (fun i => b2n (lf n t A B i j h)) n
theorem cr_iff {i : Nat} {h : Int} : cr n t i h = true ↔ min (t i) (t (nx n i)) < h ∧ h < max (t i) (t (nx n i)) := by simp [cr]
theorem lf_self (j : Nat) (h : Int) : lf n t A B j j h = false := by simp [lf]
theorem rk_step (P : Ply n t x A B) {j : Nat} {h : Int} (hj : j < n) (ho : h % 2 = 1) (h1 : cr n t j h = true) (h2 : cr n t j (h + 2) = true) : (rk n t A B j h + rk n t A B j (h + 2)) % 2 = 0 := by
 have hn := P.n3
 obtain ⟨a1, a2⟩ := cr_iff.1 h1
 obtain ⟨b1, b2⟩ := cr_iff.1 h2
 -- an edge without a corner at the height between
 have same : ∀ i, i < n → t i ≠ h + 1 → t (nx n i) ≠ h + 1 → (b2n (lf n t A B i j h) + b2n (lf n t A B i j (h + 2))) % 2 = 0 := fun i hi c1 c2 => by
  by_cases e : i = j
  · subst e; rw [lf_self, lf_self]; rfl
  have d1 := P.ev i hi
  have d2 := P.ev (nx n i) (nx_lt (by omega))
  have ec : cr n t i (h + 2) = cr n t i h := by
   unfold cr
   congr 1 <;> (apply decide_eq_decide.2; omega)
  unfold lf
  rw [ec]
  cases hc : cr n t i h
  · rfl
  · obtain ⟨c3, c4⟩ := cr_iff.1 hc
    obtain ⟨c5, c6⟩ := cr_iff.1 (ec.trans hc)
    have d3 := P.ev j hj
    have := (P.sep i j h (h + 2) hi hj e (by omega) (by omega) (by omega) (by omega) (by omega) (by omega) (by omega) (by omega) (fun _ => by omega) (fun _ => by omega)).2
    rw [decide_eq_decide.2 this]
    cases decide (A i * (h + 2) + B i < A j * (h + 2) + B j) <;> rfl
 unfold rk
 rw [← SN_add]
 by_cases hv : ∃ v, v < n ∧ t v = h + 1
 · obtain ⟨v, hv, ev⟩ := hv
   have hg := pv_lt (n := n) (i := v) (by omega)
   have hgv : nx n (pv n v) = v := nx_pv hv
   have hne : pv n v ≠ v := by rw [pv_eq hv]; split <;> omega
   -- the two edges at the corner
   have inc : ∀ i, i < n → (i = v ∨ nx n i = v) → b2n (lf n t A B i j h) + b2n (lf n t A B i j (h + 2)) = b2n (decide (x v < A j * (h + 1) + B j)) := fun i hi hiv => by
    have hjv : j ≠ v ∧ nx n j ≠ v := ⟨fun e => by subst e; omega, fun e => by rw [e] at a1 a2 b1 b2; omega⟩
    have e : i ≠ j := fun e => by subst e; rcases hiv with e | e; exact hjv.1 e; exact hjv.2 e
    have ht : A i * (h + 1) + B i = x v := by
     rcases hiv with rfl | e2
     · rw [← ev]; exact P.at0 i hi
     · rw [← ev, ← e2]; exact P.at1 i hi
    have hw : ∃ w, w < n ∧ w ≠ v ∧ ((i = v ∧ nx n i = w) ∨ (i = w ∧ nx n i = v)) := by
     have hnn : nx n i ≠ i := by rw [nx_eq hi]; split <;> omega
     rcases hiv with rfl | e2
     · exact ⟨nx n i, nx_lt (by omega), hnn, .inl ⟨rfl, rfl⟩⟩
     · exact ⟨i, hi, fun e3 => hnn (e2.trans e3.symm), .inr ⟨rfl, e2⟩⟩
    obtain ⟨w, hw, hwv, hww⟩ := hw
    have tw : t w ≠ h + 1 := fun e3 => hwv (P.inj w v hw hv (e3.trans ev.symm))
    have dw := P.ev w hw
    have mm : min (t i) (t (nx n i)) = min (h + 1) (t w) ∧ max (t i) (t (nx n i)) = max (h + 1) (t w) := by
     rcases hww with ⟨e1, e2⟩ | ⟨e1, e2⟩
     · rw [e2, e1, ev]; exact ⟨rfl, rfl⟩
     · rw [e2, e1, ev]; exact ⟨by omega, by omega⟩
    have d3 := P.ev j hj
    have sh1 : ∀ k : Int, j = nx n i → t j ≠ h + 1 → k = h + 1 ∨ (k ≠ t j) → k ≠ t j ∨ True := fun _ _ _ _ => .inr trivial
    have tj : t j ≠ h + 1 := fun e3 => hjv.1 (P.inj j v hj hv (e3.trans ev.symm))
    have tj2 : t (nx n j) ≠ h + 1 := fun e3 => hjv.2 (P.inj _ v (nx_lt (by omega)) hv (e3.trans ev.symm))
    have go : ∀ k : Int, cr n t i k = true → k = h ∨ k = h + 2 → (A i * k + B i < A j * k + B j ↔ x v < A j * (h + 1) + B j) := fun k hk hkk => by
     obtain ⟨q1, q2⟩ := cr_iff.1 hk
     rw [mm.1] at q1
     rw [mm.2] at q2
     have := (P.sep i j k (h + 1) hi hj e (by rw [mm.1]; omega) (by rw [mm.2]; omega) (by omega) (by omega) (by rw [mm.1]; omega) (by rw [mm.2]; omega) (by omega) (by omega) (fun _ => by omega) (fun e3 => by
      have d4 := P.ev i hi
      refine ⟨by omega, fun e4 => ?_⟩
      have := P.inj i v hi hv (e4.symm.trans ev.symm)
      exact hjv.2 (e3.symm.trans this))).2
     rw [ht] at this
     exact this
    unfold lf
    rcases Int.lt_or_gt_of_ne tw with hl | hl
    · -- below
      have c1 : cr n t i h = true := cr_iff.2 (by rw [mm.1, mm.2]; omega)
      have c2 : cr n t i (h + 2) = false := by
       cases hc : cr n t i (h + 2)
       · rfl
       · have := cr_iff.1 hc; rw [mm.1, mm.2] at this; omega
      rw [c1, c2, Bool.true_and, Bool.false_and, decide_eq_decide.2 (go h c1 (.inl rfl))]
      rfl
    · have c1 : cr n t i (h + 2) = true := cr_iff.2 (by rw [mm.1, mm.2]; omega)
      have c2 : cr n t i h = false := by
       cases hc : cr n t i h
       · rfl
       · have := cr_iff.1 hc; rw [mm.1, mm.2] at this; omega
      rw [c1, c2, Bool.true_and, Bool.false_and, decide_eq_decide.2 (go (h + 2) c1 (.inr rfl))]
      exact Nat.zero_add _
   refine SN_two hg hv hne (fun i hi h3 h4 => same i hi (fun e => h4 (P.inj i v hi hv (e.trans ev.symm))) (fun e => h3 ?_)) ?_
   · have := P.inj _ v (nx_lt (by omega)) hv (e.trans ev.symm)
     rw [← this, pv_nx hi]
   · rw [inc _ hg (.inr hgv), inc v hv (.inl rfl)]; omega
 · exact SN_even fun i hi => same i hi (fun e => hv ⟨i, hi, e⟩) (fun e => hv ⟨_, nx_lt (by omega), e⟩)
end

section
variable {n : Nat} {t x A B : Nat → Int}
theorem nx_ne {i : Nat} (hn : 3 ≤ n) (hi : i < n) : nx n i ≠ i := by rw [nx_eq hi]; split <;> omega
theorem nx_inj {i j : Nat} (hi : i < n) (hj : j < n) (h : nx n i = nx n j) : i = j := by
 rw [← pv_nx hi, ← pv_nx hj, h]
theorem cmp_at (P : Ply n t x A B) {e q v : Nat} {h : Int} (he : e < n) (hq : q < n) (hv : v < n) (hne : e ≠ q) (hqv : q = v ∨ nx n q = v) (c1 : e ≠ v) (c2 : nx n e ≠ v) (hh : h = t v - 1 ∨ h = t v + 1) (d1 : cr n t e h = true) (d2 : cr n t q h = true) :
 (A e * h + B e < A q * h + B q ↔ A e * t v + B e < x v) ∧ (A q * h + B q < A e * h + B e ↔ x v < A e * t v + B e) := by
 have hn := P.n3
 have n1 : t e ≠ t v := fun e' => c1 (P.inj e v he hv e')
 have n2 : t (nx n e) ≠ t v := fun e' => c2 (P.inj _ v (nx_lt (by omega)) hv e')
 have p1 := P.ev e he
 have p2 := P.ev (nx n e) (nx_lt (by omega))
 have p3 := P.ev q hq
 have p4 := P.ev v hv
 obtain ⟨a1, a2⟩ := cr_iff.1 d1
 obtain ⟨b1, b2⟩ := cr_iff.1 d2
 have hx : A q * t v + B q = x v := by
  rcases hqv with rfl | e2
  · exact P.at0 q hq
  · rw [← e2]; exact P.at1 q hq
 have tq : t q = t v ∨ t (nx n q) = t v := by
  rcases hqv with rfl | e2
  · exact .inl rfl
  · exact .inr (by rw [e2])
 have o1 : h ≠ t e ∧ t v ≠ t e := ⟨by omega, fun e' => n1 e'.symm⟩
 have o2 : q = nx n e → h ≠ t q ∧ t v ≠ t q := fun e' => ⟨by omega, fun e4 => by
  rcases hqv with e5 | e5
  · exact c2 (e'.symm.trans e5)
  · exact c2 (e'.symm.trans (P.inj q v hq hv e4.symm))⟩
 have key := P.sep e q h (t v) he hq hne (by omega) (by omega) (by omega) (by omega) (by omega) (by omega) (by omega) (by omega) (fun e' => by subst e'; exact o2 rfl) (fun _ => o1)
 have key2 := P.sep q e h (t v) hq he hne.symm (by omega) (by omega) (by omega) (by omega) (by omega) (by omega) (by omega) (by omega) (fun _ => o1) (fun e' => by subst e'; exact o2 rfl)
 rw [hx] at key key2
 exact ⟨key.2, key2.2⟩
theorem cr_same (P : Ply n t x A B) {e v : Nat} (he : e < n) (hv : v < n) (c1 : e ≠ v) (c2 : nx n e ≠ v) : cr n t e (t v - 1) = cr n t e (t v + 1) := by
 have hn := P.n3
 have n1 : t e ≠ t v := fun e' => c1 (P.inj e v he hv e')
 have n2 : t (nx n e) ≠ t v := fun e' => c2 (P.inj _ v (nx_lt (by omega)) hv e')
 have p1 := P.ev e he
 have p2 := P.ev (nx n e) (nx_lt (by omega))
 have p4 := P.ev v hv
 unfold cr
 congr 1 <;> (apply decide_eq_decide.2; omega)
def up (n : Nat) (t : Nat → Int) (i : Nat) : Bool := decide (t i < t (nx n i))
theorem adj (P : Ply n t x A B) {i : Nat} (hi : i < n) : ∃ h k, h % 2 = 1 ∧ k % 2 = 1 ∧ cr n t i h = true ∧ cr n t (nx n i) k = true ∧ (rk n t A B i h + b2n (up n t i)) % 2 = (rk n t A B (nx n i) k + b2n (up n t (nx n i))) % 2 := by
 have hn := P.n3
 obtain ⟨v, ev⟩ : ∃ v, v = nx n i := ⟨_, rfl⟩
 obtain ⟨w, ew⟩ : ∃ w, w = nx n v := ⟨_, rfl⟩
 rw [← ev]
 have hv : v < n := ev ▸ nx_lt (by omega)
 have hw : w < n := ew ▸ nx_lt (by omega)
 have hvi : v ≠ i := ev ▸ nx_ne hn hi
 have hwv : w ≠ v := ew ▸ nx_ne hn hv
 have p1 := P.ev i hi
 have p2 := P.ev v hv
 have p3 := P.ev w hw
 have n1 : t i ≠ t v := fun e => hvi (P.inj i v hi hv e).symm
 have n2 : t w ≠ t v := fun e => hwv (P.inj w v hw hv e)
 have ci : ∀ h, cr n t i h = true ↔ min (t i) (t v) < h ∧ h < max (t i) (t v) := fun h => by rw [cr_iff, ← ev]
 have cv : ∀ h, cr n t v h = true ↔ min (t v) (t w) < h ∧ h < max (t v) (t w) := fun h => by rw [cr_iff, ← ew]
 have ui : up n t i = decide (t i < t v) := by unfold up; rw [← ev]
 have uv : up n t v = decide (t v < t w) := by unfold up; rw [← ew]
 have oth : ∀ e, e < n → e ≠ i → e ≠ v → nx n e ≠ v := fun e he h1 _ h3 => h1 (nx_inj he hi (h3.trans ev))
 have no : ∀ (q : Nat) (h : Int), ¬ cr n t q h = true → cr n t q h = false := fun q h hh => by simpa using hh
 -- through
 have thr : ∀ h k : Int, (h = t v - 1 ∧ k = t v + 1 ∨ h = t v + 1 ∧ k = t v - 1) → cr n t i h = true → cr n t v k = true → cr n t i k = false → cr n t v h = false → rk n t A B i h = rk n t A B v k := fun h k hk d1 d2 d3 d4 => by
  unfold rk
  refine SN_congr fun e he => congrArg b2n ?_
  by_cases e1 : e = i
  · subst e1
    rw [lf_self]
    unfold lf
    rw [d3]
    rfl
  by_cases e2 : e = v
  · subst e2
    rw [lf_self]
    unfold lf
    rw [d4]
    rfl
  have e3 := oth e he e1 e2
  have cs := cr_same P he hv e2 e3
  have ce : cr n t e h = cr n t e k := by rcases hk with ⟨rfl, rfl⟩ | ⟨rfl, rfl⟩; exact cs; exact cs.symm
  unfold lf
  rw [ce]
  cases hc : cr n t e k
  · rfl
  · rw [Bool.true_and, Bool.true_and, decide_eq_decide]
    rw [(cmp_at P he hi hv e1 (.inr ev.symm) e2 e3 (by omega) (ce.trans hc) d1).1, (cmp_at P he hv hv e2 (.inl rfl) e2 e3 (by omega) hc d2).1]
 have trn : ∀ h : Int, (h = t v - 1 ∨ h = t v + 1) → h % 2 = 1 → cr n t i h = true → cr n t v h = true → (rk n t A B i h + rk n t A B v h) % 2 = 1 := fun h hk ho d1 d2 => by
  unfold rk
  rw [← SN_add, SN_two' hi hv hvi.symm]
  · rw [lf_self, lf_self]
    unfold lf
    rw [d1, d2]
    obtain ⟨a1, a2⟩ := (ci h).1 d1
    obtain ⟨b1, b2⟩ := (cv h).1 d2
    have q := (P.sep i v h h hi hv hvi.symm (by rw [← ev]; omega) (by rw [← ev]; omega) (by rw [← ew]; omega) (by rw [← ew]; omega) (by rw [← ev]; omega) (by rw [← ev]; omega) (by rw [← ew]; omega) (by rw [← ew]; omega) (fun _ => by omega) (fun _ => by omega)).1
    rcases Int.lt_or_gt_of_ne q with q | q
    · rw [decide_eq_true q, decide_eq_false (by omega)]; rfl
    · rw [decide_eq_true q, decide_eq_false (by omega)]; rfl
  · intro e he e1 e2
    have e3 := oth e he e1 e2
    unfold lf
    cases hc : cr n t e h
    · rfl
    · have q1 : decide (A e * h + B e < A i * h + B i) = decide (A e * t v + B e < x v) := decide_eq_decide.2 (cmp_at P he hi hv e1 (.inr ev.symm) e2 e3 (by omega) hc d1).1
      have q2 : decide (A e * h + B e < A v * h + B v) = decide (A e * t v + B e < x v) := decide_eq_decide.2 (cmp_at P he hv hv e2 (.inl rfl) e2 e3 (by omega) hc d2).1
      rw [Bool.true_and, Bool.true_and, q1, q2]
      omega
 rw [ui, uv]
 rcases Int.lt_or_gt_of_ne n1 with m1 | m1 <;> rcases Int.lt_or_gt_of_ne n2 with m2 | m2
 · -- a top
   have d1 := (ci (t v - 1)).2 (by omega)
   have d2 := (cv (t v - 1)).2 (by omega)
   refine ⟨t v - 1, t v - 1, by omega, by omega, d1, d2, ?_⟩
   have := trn _ (.inl rfl) (by omega) d1 d2
   rw [decide_eq_true m1, decide_eq_false (by omega)]
   simp only [b2n, if_true, Bool.false_eq_true, if_false]
   omega
 · have d1 := (ci (t v - 1)).2 (by omega)
   have d2 := (cv (t v + 1)).2 (by omega)
   refine ⟨t v - 1, t v + 1, by omega, by omega, d1, d2, ?_⟩
   rw [thr _ _ (.inl ⟨rfl, rfl⟩) d1 d2 (no _ _ fun h => by have := (ci _).1 h; omega) (no _ _ fun h => by have := (cv _).1 h; omega), decide_eq_true m1, decide_eq_true m2]
 · have d1 := (ci (t v + 1)).2 (by omega)
   have d2 := (cv (t v - 1)).2 (by omega)
   refine ⟨t v + 1, t v - 1, by omega, by omega, d1, d2, ?_⟩
   rw [thr _ _ (.inr ⟨rfl, rfl⟩) d1 d2 (no _ _ fun h => by have := (ci _).1 h; omega) (no _ _ fun h => by have := (cv _).1 h; omega), decide_eq_false (by omega), decide_eq_false (by omega)]
 · -- a bottom
   have d1 := (ci (t v + 1)).2 (by omega)
   have d2 := (cv (t v + 1)).2 (by omega)
   refine ⟨t v + 1, t v + 1, by omega, by omega, d1, d2, ?_⟩
   have := trn _ (.inr rfl) (by omega) d1 d2
   rw [decide_eq_false (by omega), decide_eq_true m2]
   simp only [b2n, if_true, Bool.false_eq_true, if_false]
   omega
theorem rk_up (P : Ply n t x A B) {j : Nat} {h : Int} (hj : j < n) (ho : h % 2 = 1) (h1 : cr n t j h = true) : ∀ m : Nat, cr n t j (h + 2 * m) = true → rk n t A B j (h + 2 * m) % 2 = rk n t A B j h % 2
 | 0, _ => by simp
 | m + 1, h2 => by
  obtain ⟨a1, a2⟩ := cr_iff.1 h1
  obtain ⟨b1, b2⟩ := cr_iff.1 h2
  have e : h + 2 * ((m + 1 : Nat) : Int) = h + 2 * (m : Int) + 2 := by omega
  have c : cr n t j (h + 2 * (m : Int)) = true := cr_iff.2 (by omega)
  rw [e] at h2 ⊢
  have := rk_step P hj (by omega) c h2
  have := rk_up P hj ho h1 m c
  omega
theorem rk_all (P : Ply n t x A B) {j : Nat} {h k : Int} (hj : j < n) (ho : h % 2 = 1) (ko : k % 2 = 1) (h1 : cr n t j h = true) (h2 : cr n t j k = true) : rk n t A B j h % 2 = rk n t A B j k % 2 := by
 rcases Int.le_total h k with hk | hk
 · have e : k = h + 2 * (((k - h) / 2).toNat : Int) := by omega
   rw [e] at h2 ⊢
   exact (rk_up P hj ho h1 _ h2).symm
 · have e : h = k + 2 * (((h - k) / 2).toNat : Int) := by omega
   rw [e] at h1 ⊢
   exact rk_up P hj ko h2 _ h1
theorem one_sign (P : Ply n t x A B) : ∃ c : Nat, ∀ i, i < n → ∀ h : Int, h % 2 = 1 → cr n t i h = true → (rk n t A B i h + b2n (up n t i)) % 2 = c := by
 have hn := P.n3
 obtain ⟨h0, k0, o0, _, d0, _, _⟩ := adj P (i := 0) (by omega)
 refine ⟨(rk n t A B 0 h0 + b2n (up n t 0)) % 2, fun i => ?_⟩
 induction i with
 | zero =>
  intro hi h ho hc
  have := rk_all P hi ho o0 hc d0
  omega
 | succ i ih =>
  intro hi h ho hc
  obtain ⟨h1, k1, o1, o2, d1, d2, e⟩ := adj P (i := i) (by omega)
  have en : nx n i = i + 1 := by rw [nx_eq (by omega), if_neg (by omega)]
  rw [en] at d2 e
  have := ih (by omega) h1 o1 d1
  have := rk_all P hi ho o2 hc d2
  omega
end

def ls : List Int → Int
 | [] => 0
 | a :: l => a + ls l
theorem ls_append : ∀ (l m : List Int), ls (l ++ m) = ls l + ls m
 | [], m => by simp [ls]
 | a :: l, m => by rw [List.cons_append, ls, ls, ls_append l m]; omega
theorem ls_perm {l m : List Int} (h : l.Perm m) : ls l = ls m := by
 induction h with
 | nil => rfl
 | cons a _ ih => rw [ls, ls, ih]
 | swap a b l => simp only [ls]; omega
 | trans _ _ i1 i2 => exact i1.trans i2
theorem ls_neg (g : Int → Int) : ∀ (l : List Int), ls (l.map fun v => -g v) = -ls (l.map g)
 | [] => rfl
 | a :: l => by rw [List.map_cons, List.map_cons, ls, ls, ls_neg g l]; omega
def psg (k : Nat) : Int := if k % 2 = 0 then 1 else -1
theorem psg_succ (k : Nat) : psg (k + 1) = -psg k := by
 unfold psg
 rcases Nat.mod_two_eq_zero_or_one k with h | h
 · rw [if_neg (by omega), if_pos h]
 · rw [if_pos (by omega), if_neg (by omega)]; rfl
def altL (f : Int → Int) (L : List Int) : Int := ls (L.map fun v => psg (L.countP fun u => decide (u < v)) * f v)
theorem altL_perm {f : Int → Int} {L M : List Int} (h : L.Perm M) : altL f L = altL f M := by
 unfold altL
 rw [ls_perm (h.map _)]
 congr 1
 refine List.map_congr_left fun v _ => ?_
 rw [h.countP_eq]
theorem altL_cons {f : Int → Int} {a : Int} {L : List Int} (h : (a :: L).Pairwise (· < ·)) : altL f (a :: L) = f a - altL f L := by
 obtain ⟨h1, h2⟩ := List.pairwise_cons.1 h
 have e0 : (a :: L).countP (fun u => decide (u < a)) = 0 := by
  rw [List.countP_eq_zero]
  intro u hu
  rcases List.mem_cons.1 hu with rfl | hu
  · simp
  · have := h1 u hu
    simp
    omega
 have e1 : ∀ v ∈ L, psg ((a :: L).countP fun u => decide (u < v)) * f v = -(psg (L.countP fun u => decide (u < v)) * f v) := fun v hv => by
  rw [List.countP_cons_of_pos (by simpa using h1 v hv), psg_succ, Int.neg_mul]
 have e2 : psg 0 * f a = f a := by simp [psg]
 unfold altL
 rw [List.map_cons, ls, e0, List.map_congr_left e1, ls_neg (fun v => psg (L.countP fun u => decide (u < v)) * f v), e2]
 omega
theorem alt_one : ∀ {L : List Int}, L.Pairwise (· < ·) → altL (fun _ => 1) L = ((L.length % 2 : Nat) : Int)
 | [], _ => rfl
 | a :: L, h => by
  rw [altL_cons h, alt_one (List.pairwise_cons.1 h).2, List.length_cons]
  omega
theorem alt_neg : ∀ {L : List Int}, L.Pairwise (· < ·) → L.length % 2 = 0 → altL (fun v => v) L ≤ 0 ∧ (L ≠ [] → altL (fun v => v) L < 0)
 | [], _, _ => ⟨by simp [altL, ls], fun h => absurd rfl h⟩
 | [a], _, h => by simp at h
 | a :: b :: L, h, hl => by
  obtain ⟨h1, h2⟩ := List.pairwise_cons.1 h
  have := h1 b (List.mem_cons_self)
  have := (alt_neg (List.pairwise_cons.1 h2).2 (by simp at hl; omega)).1
  have e : altL (fun v => v) (a :: b :: L) = a - (b - altL (fun v => v) L) := by rw [altL_cons h, altL_cons h2]
  rw [e]
  exact ⟨by omega, fun _ => by omega⟩
theorem sort_of {L : List Int} (h : L.Pairwise (· ≠ ·)) : ∃ M, L.Perm M ∧ M.Pairwise (· < ·) := by
 refine ⟨L.mergeSort (fun a b => decide (a ≤ b)), (List.mergeSort_perm L _).symm, ?_⟩
 have p1 := List.pairwise_mergeSort (le := fun a b : Int => decide (a ≤ b)) (fun a b c h1 h2 => by simp at *; omega) (fun a b => by simp; omega) L
 have p2 : (L.mergeSort (fun a b => decide (a ≤ b))).Pairwise (· ≠ ·) := ((List.mergeSort_perm L _).symm.pairwise_iff (fun h => Ne.symm h)).1 h
 refine (p1.and p2).imp fun h => ?_
 have := h.1
 have := h.2
 simp at *
 omega
theorem alt_even {L : List Int} (h : L.Pairwise (· ≠ ·)) (h1 : altL (fun _ => 1) L = 0) : altL (fun v => v) L ≤ 0 ∧ (L ≠ [] → altL (fun v => v) L < 0) := by
 obtain ⟨M, p, hM⟩ := sort_of h
 rw [altL_perm p, alt_one hM] at h1
 rw [altL_perm p]
 have := alt_neg hM (by omega)
 refine ⟨this.1, fun hn => this.2 fun e => hn ?_⟩
 subst e
 exact List.eq_nil_of_length_eq_zero p.length_eq
theorem SI_cyc (F : Nat → Int) {n : Nat} (hn : 0 < n) : SI (fun i => F (nx n i)) n = SI F n := by
 obtain ⟨m, rfl⟩ : ∃ m, n = m + 1 := ⟨n - 1, by omega⟩
 have sh : ∀ k, SI (fun i => F (i + 1)) k + F 0 = SI F (k + 1) := fun k => by
  induction k with
  | zero => rfl
  | succ k ih => rw [SI, SI, ← ih]; omega
 rw [← sh m, SI]
 congr 1
 · exact SI_congr fun i hi => by rw [nx_eq (by omega), if_neg (by omega)]
 · rw [nx_eq (by omega), if_pos rfl]
theorem SI_sub (f g : Nat → Int) : ∀ n, SI (fun i => f i - g i) n = SI f n - SI g n
 | 0 => rfl
 | n + 1 => by rw [SI, SI, SI, SI_sub f g n]; omega
theorem SI_mul (c : Int) (f : Nat → Int) : ∀ n, SI (fun i => c * f i) n = c * SI f n
 | 0 => by simp [SI]
 | n + 1 => by rw [SI, SI, SI_mul c f n, Int.mul_add]
theorem SI_swap (f : Nat → Nat → Int) (n : Nat) : ∀ K, SI (fun i => SI (fun k => f i k) K) n = SI (fun k => SI (fun i => f i k) n) K
 | 0 => by
  simp only [SI]
  induction n with
  | zero => rfl
  | succ n ih => rw [SI, ih]; rfl
 | K + 1 => by
  rw [SI, ← SI_swap f n K, ← SI_add]
  rfl
theorem SI_filter (c : Nat → Bool) (g : Nat → Int) : ∀ n, SI (fun i => if c i then g i else 0) n = ls (((List.range n).filter c).map g)
 | 0 => rfl
 | n + 1 => by
  rw [SI, SI_filter c g n, List.range_succ, List.filter_append, List.map_append, ls_append]
  cases h : c n <;> simp [h, ls]
theorem SN_filter (c : Nat → Bool) (g : Nat → Int) (v : Int) : ∀ n, SN (fun i => b2n (c i && decide (g i < v))) n = (((List.range n).filter c).map g).countP fun u => decide (u < v)
 | 0 => rfl
 | n + 1 => by
  rw [SN, SN_filter c g v n, List.range_succ, List.filter_append, List.map_append, List.countP_append]
  cases h : c n
  · simp [h, b2n]
  · by_cases h2 : g n < v <;> simp [h, b2n, h2]

section
variable {n : Nat} {t x A B : Nat → Int}
def dirI (n : Nat) (t : Nat → Int) (i : Nat) : Int := if up n t i then 1 else -1
def slab (n : Nat) (t A B : Nat → Int) (H : Int) : Int := SI (fun i => if cr n t i H then dirI n t i * (A i * H + B i) else 0) n
theorem dir_even (P : Ply n t x A B) {H : Int} (ho : H % 2 = 1) : SI (fun i => if cr n t i H then dirI n t i else 0) n = 0 := by
 have hn := P.n3
 have e : SI (fun i => if cr n t i H then dirI n t i else 0) n = SI (fun i => (fun j => if H < t j then (1 : Int) else 0) (nx n i) - (fun j => if H < t j then (1 : Int) else 0) i) n := SI_congr fun i hi => by
  have p1 := P.ev i hi
  have p2 := P.ev (nx n i) (nx_lt (by omega))
  unfold dirI up
  cases hc : cr n t i H
  · have : ¬ (min (t i) (t (nx n i)) < H ∧ H < max (t i) (t (nx n i))) := fun h => by rw [← cr_iff, hc] at h; cases h
    simp only [Bool.false_eq_true, if_false]
    by_cases h1 : H < t i
    · rw [if_pos h1, if_pos (by omega)]; rfl
    · rw [if_neg h1, if_neg (by omega)]; rfl
  · obtain ⟨h1, h2⟩ := cr_iff.1 hc
    simp only [if_true, decide_eq_true_eq]
    by_cases h3 : t i < t (nx n i)
    · rw [if_pos h3, if_pos (by omega), if_neg (by omega)]; rfl
    · rw [if_neg h3, if_neg (by omega), if_pos (by omega)]; rfl
 rw [e, SI_sub, SI_cyc (fun j => if H < t j then (1 : Int) else 0) (by omega)]
 omega
theorem slab_sign (P : Ply n t x A B) : ∃ ε : Int, (ε = 1 ∨ ε = -1) ∧ ∀ H : Int, H % 2 = 1 → slab n t A B H * ε ≤ 0 ∧ ((∃ i, i < n ∧ cr n t i H = true) → slab n t A B H * ε < 0) := by
 obtain ⟨c, hc⟩ := one_sign P
 refine ⟨if c = 0 then -1 else 1, by split <;> simp, fun H ho => ?_⟩
 obtain ⟨ε, hε⟩ : ∃ ε : Int, ε = if c = 0 then -1 else 1 := ⟨_, rfl⟩
 rw [← hε]
 have hd : ∀ i, i < n → cr n t i H = true → dirI n t i = ε * psg (rk n t A B i H) := fun i hi h1 => by
  have := hc i hi H ho h1
  rw [hε]
  unfold dirI psg
  cases hu : up n t i <;> rw [hu] at this <;> simp only [b2n, if_true, Bool.false_eq_true, if_false] at this ⊢ <;> split <;> split <;> omega
 have er : ∀ j, rk n t A B j H = (((List.range n).filter fun i => cr n t i H).map fun i => A i * H + B i).countP fun u => decide (u < A j * H + B j) := fun j => SN_filter (fun i => cr n t i H) (fun i => A i * H + B i) _ n
 obtain ⟨L, hL⟩ : ∃ L, L = ((List.range n).filter fun i => cr n t i H).map fun i => A i * H + B i := ⟨_, rfl⟩
 have gen : ∀ f : Int → Int, SI (fun i => if cr n t i H then dirI n t i * f (A i * H + B i) else 0) n = ε * altL f L := fun f => by
  have e1 : SI (fun i => if cr n t i H then dirI n t i * f (A i * H + B i) else 0) n = SI (fun i => ε * (if cr n t i H then psg (rk n t A B i H) * f (A i * H + B i) else 0)) n := SI_congr fun i hi => by
   cases h1 : cr n t i H
   · simp
   · simp only [if_true]
     rw [hd i hi h1, Int.mul_assoc]
  rw [e1, SI_mul, SI_filter (fun i => cr n t i H) (fun i => psg (rk n t A B i H) * f (A i * H + B i))]
  congr 1
  unfold altL
  rw [hL, List.map_map]
  congr 1
  exact List.map_congr_left fun i _ => by rw [er i]; rfl
 have hp : L.Pairwise (· ≠ ·) := by
  rw [hL, List.pairwise_map]
  refine (List.pairwise_lt_range.filter _).imp_of_mem fun {a b} ha hb hab => ?_
  obtain ⟨a1, a2⟩ := List.mem_filter.1 ha
  obtain ⟨b1, b2⟩ := List.mem_filter.1 hb
  have a1 := List.mem_range.1 a1
  have b1 := List.mem_range.1 b1
  obtain ⟨a3, a4⟩ := cr_iff.1 a2
  obtain ⟨b3, b4⟩ := cr_iff.1 b2
  have p1 := P.ev a a1
  have p2 := P.ev b b1
  exact (P.sep a b H H a1 b1 (by omega) (by omega) (by omega) (by omega) (by omega) (by omega) (by omega) (by omega) (by omega) (fun _ => by omega) (fun _ => by omega)).1
 have z := gen fun _ => 1
 simp only [Int.mul_one] at z
 rw [dir_even P ho] at z
 have z2 : altL (fun _ => 1) L = 0 := by
  rcases Int.mul_eq_zero.1 z.symm with h | h
  · rw [hε] at h; split at h <;> omega
  · exact h
 obtain ⟨s1, s2⟩ := alt_even hp z2
 have es : slab n t A B H * ε = altL (fun v => v) L := by
  unfold slab
  rw [gen fun v => v, hε]
  split <;> simp [Int.neg_mul, Int.mul_neg]
 rw [es]
 refine ⟨s1, fun ⟨i, hi, hci⟩ => s2 fun e => ?_⟩
 have : (A i * H + B i) ∈ L := by rw [hL]; exact List.mem_map_of_mem (List.mem_filter.2 ⟨List.mem_range.2 hi, hci⟩)
 rw [e] at this
 cases this
theorem trap {α β a b lo : Int} (ha : a % 2 = 0) (hb : b % 2 = 0) (hl : lo % 2 = 0) (h1 : lo ≤ a) (h2 : a ≤ b) : ∀ K : Nat, ∀ c : Int, c = max a (min b (lo + 2 * (K : Int))) → 4 * SI (fun k => if a < lo + 2 * (k : Int) + 1 ∧ lo + 2 * (k : Int) + 1 < b then α * (lo + 2 * (k : Int) + 1) + β else 0) K = (α * a + β + (α * c + β)) * (c - a)
 | 0, c, hc => by
  have : c = a := by omega
  subst this
  simp [SI]
 | K + 1, c, hc => by
  have ih := trap (α := α) (β := β) ha hb hl h1 h2 K _ rfl
  rw [SI, Int.mul_add, ih]
  by_cases q1 : lo + 2 * (K : Int) < a
  · rw [if_neg (by omega), show max a (min b (lo + 2 * (K : Int))) = a by omega, show c = a by omega]
    omega
  · by_cases q2 : lo + 2 * (K : Int) < b
    · rw [if_pos (by omega), show max a (min b (lo + 2 * (K : Int))) = lo + 2 * (K : Int) by omega, show c = lo + 2 * (K : Int) + 2 by omega]
      generalize lo + 2 * (K : Int) = u
      grind
    · rw [if_neg (by omega), show max a (min b (lo + 2 * (K : Int))) = b by omega, show c = b by omega]
      omega
theorem edge_sum (P : Ply n t x A B) {i : Nat} (hi : i < n) {lo : Int} {K : Nat} (hl : lo % 2 = 0) (hb : ∀ i, i < n → lo ≤ t i ∧ t i ≤ lo + 2 * (K : Int)) :
 (x i + x (nx n i)) * (t (nx n i) - t i) = 4 * SI (fun k => if cr n t i (lo + 2 * (k : Int) + 1) then dirI n t i * (A i * (lo + 2 * (k : Int) + 1) + B i) else 0) K := by
 have hn := P.n3
 have hj := nx_lt (n := n) (i := i) (by omega)
 have p1 := P.ev i hi
 have p2 := P.ev _ hj
 have q1 := hb i hi
 have q2 := hb _ hj
 rw [← P.at0 i hi, ← P.at1 i hi]
 rcases Int.le_total (t i) (t (nx n i)) with h | h
 · have := trap (α := A i) (β := B i) p1 p2 hl q1.1 h K (t (nx n i)) (by omega)
   rw [← this]
   congr 1
   refine SI_congr fun k _ => ?_
   have hu : t i ≠ t (nx n i) → dirI n t i = 1 := fun hne => by unfold dirI up; rw [decide_eq_true (by omega)]; rfl
   by_cases hc : cr n t i (lo + 2 * (k : Int) + 1) = true
   · have := cr_iff.1 hc
     rw [if_pos (by omega), if_pos hc, hu (by omega), Int.one_mul]
   · rw [if_neg hc, if_neg (fun h2 => hc (cr_iff.2 (by omega)))]
 · have := trap (α := A i) (β := B i) p2 p1 hl q2.1 h K (t i) (by omega)
   have e : (A i * t i + B i + (A i * t (nx n i) + B i)) * (t (nx n i) - t i) = -((A i * t (nx n i) + B i + (A i * t i + B i)) * (t i - t (nx n i))) := by grind
   rw [e, ← this, ← Int.mul_neg, Int.neg_eq_neg_one_mul, ← SI_mul]
   congr 1
   refine SI_congr fun k _ => ?_
   have hu : t i ≠ t (nx n i) → dirI n t i = -1 := fun hne => by unfold dirI up; rw [decide_eq_false (by omega)]; rfl
   by_cases hc : cr n t i (lo + 2 * (k : Int) + 1) = true
   · have := cr_iff.1 hc
     rw [if_pos (by omega), if_pos hc, hu (by omega)]
   · rw [if_neg hc, if_neg (fun h2 => hc (cr_iff.2 (by omega)))]
     rfl
theorem bounded (f : Nat → Int) : ∀ n, ∃ M : Nat, ∀ i, i < n → -(M : Int) ≤ f i ∧ f i ≤ (M : Int)
 | 0 => ⟨0, fun i hi => by omega⟩
 | n + 1 => by
  obtain ⟨M, hM⟩ := bounded f n
  refine ⟨max M (f n).natAbs, fun i hi => ?_⟩
  by_cases e : i = n
  · subst e; omega
  · have := hM i (by omega); omega
theorem SI_neg_lt {f : Nat → Int} : ∀ {n : Nat}, (∀ i, i < n → f i ≤ 0) → SI f n ≤ 0 ∧ ((∃ i, i < n ∧ f i < 0) → SI f n < 0)
 | 0, _ => ⟨Int.le_refl _, fun ⟨i, hi, _⟩ => by omega⟩
 | n + 1, h => by
  have ih := SI_neg_lt (f := f) (n := n) fun i hi => h i (by omega)
  have hl := h n (by omega)
  rw [SI]
  refine ⟨by omega, fun ⟨i, hi, h1⟩ => ?_⟩
  by_cases e : i = n
  · subst e; omega
  · have := ih.2 ⟨i, by omega, h1⟩; omega
theorem area_ne (P : Ply n t x A B) : SI (fun i => (x i + x (nx n i)) * (t (nx n i) - t i)) n ≠ 0 := by
 have hn := P.n3
 obtain ⟨M, hM⟩ := bounded t n
 obtain ⟨ε, hε, hs⟩ := slab_sign P
 have hb : ∀ i, i < n → -2 * (M : Int) ≤ t i ∧ t i ≤ -2 * (M : Int) + 2 * ((2 * M : Nat) : Int) := fun i hi => by have := hM i hi; omega
 have e : SI (fun i => (x i + x (nx n i)) * (t (nx n i) - t i)) n = 4 * SI (fun k => slab n t A B (-2 * (M : Int) + 2 * (k : Int) + 1)) (2 * M) := by
  rw [SI_congr fun i hi => edge_sum P hi (by omega) hb, SI_mul, SI_swap]
  rfl
 rw [e]
 have neg := SI_neg_lt (f := fun k => ε * slab n t A B (-2 * (M : Int) + 2 * (k : Int) + 1)) (n := 2 * M) fun k _ => by
  have := (hs (-2 * (M : Int) + 2 * (k : Int) + 1) (by omega)).1
  rw [Int.mul_comm]
  exact this
 have ex : ∃ k, k < 2 * M ∧ ε * slab n t A B (-2 * (M : Int) + 2 * (k : Int) + 1) < 0 := by
  have h0 := hb 0 (by omega)
  have h1 := hb (nx n 0) (nx_lt (by omega))
  have p0 := P.ev 0 (by omega)
  have p1 := P.ev (nx n 0) (nx_lt (by omega))
  have ne : t 0 ≠ t (nx n 0) := fun e => nx_ne hn (by omega) (P.inj 0 _ (by omega) (nx_lt (by omega)) e).symm
  refine ⟨((min (t 0) (t (nx n 0)) + 2 * (M : Int)) / 2).toNat, by omega, ?_⟩
  have eh : -2 * (M : Int) + 2 * ((((min (t 0) (t (nx n 0)) + 2 * (M : Int)) / 2).toNat : Nat) : Int) + 1 = min (t 0) (t (nx n 0)) + 1 := by omega
  rw [eh, Int.mul_comm]
  exact (hs _ (by omega)).2 ⟨0, by omega, cr_iff.2 (by omega)⟩
 have := neg.2 ex
 rw [SI_mul] at this
 intro h
 have z : SI (fun k => slab n t A B (-2 * (M : Int) + 2 * (k : Int) + 1)) (2 * M) = 0 := by omega
 rw [z] at this
 simp at this
end

theorem aff_sign {α β m M h k : Int} (h1 : m ≤ h) (h2 : h ≤ M) (k1 : m ≤ k) (k2 : k ≤ M) (e : (0 ≤ α * m + β ∧ 0 ≤ α * M + β) ∨ (α * m + β ≤ 0 ∧ α * M + β ≤ 0)) (em : α * m + β ≠ 0 ∨ (m < h ∧ m < k)) (eM : α * M + β ≠ 0 ∨ (h < M ∧ k < M)) (en : α * m + β ≠ 0 ∨ α * M + β ≠ 0) : α * h + β ≠ 0 ∧ (α * h + β < 0 ↔ α * k + β < 0) := by
 rcases e with ⟨e1, e2⟩ | ⟨e1, e2⟩
 · have a := aff_pos e1 e2 (by omega) (by omega) (by omega) h1 h2
   have b := aff_pos e1 e2 (by omega) (by omega) (by omega) k1 k2
   omega
 · have n : ∀ u : Int, -α * u + -β = -(α * u + β) := fun u => by rw [Int.neg_mul]; omega
   have a := aff_pos (α := -α) (β := -β) (m := m) (M := M) (h := h) (by rw [n]; omega) (by rw [n]; omega) (by rw [n]; omega) (by rw [n]; omega) (by rw [n, n]; omega) h1 h2
   have b := aff_pos (α := -α) (β := -β) (m := m) (M := M) (h := k) (by rw [n]; omega) (by rw [n]; omega) (by rw [n]; omega) (by rw [n]; omega) (by rw [n, n]; omega) k1 k2
   rw [n] at a b
   omega
def tP (p : TPoint) : Int := 2 * (1000 * p.y + p.x)
theorem onS_of {a b p : TPoint} (hne : tP a ≠ tP b) (hc : crs a b p = 0) (hb : btw (tP a) (tP b) (tP p)) : onS a b p := by
 have hd : tP b - tP a ≠ 0 := by omega
 have hq : (0 ≤ tP p - tP a ∧ tP p - tP a ≤ tP b - tP a) ∨ (tP b - tP a ≤ tP p - tP a ∧ tP p - tP a ≤ 0) := by
  unfold btw at hb; omega
 have hc2 := hc
 unfold crs at hc2
 refine ⟨hc, ?_, ?_⟩
 · have := btw_scale (dx := b.x - a.x) (dy := tP b - tP a) (p := p.x - a.x) (q := tP p - tP a) (v := b.x - a.x) (w := tP b - tP a) hd (by unfold tP; grind) (by grind) hq
   unfold btw; omega
 · have := btw_scale (dx := b.y - a.y) (dy := tP b - tP a) (p := p.y - a.y) (q := tP p - tP a) (v := b.y - a.y) (w := tP b - tP a) hd (by unfold tP; grind) (by grind) hq
   unfold btw; omega
structure Edg (D : Int) (a b : TPoint) (A B : Int) : Prop where
 ne : tP a ≠ tP b
 e0 : A * tP a + B = D * a.x
 e1 : A * tP b + B = D * b.x
theorem Edg.key {D A B : Int} {a b : TPoint} (E : Edg D a b A B) (p : TPoint) : (tP b - tP a) * (A * tP p + B - D * p.x) = 2000 * D * crs a b p := by
 have h0 := E.e0
 have h1 := E.e1
 have hA : (tP b - tP a) * A = D * (b.x - a.x) := by grind
 have hB : B = D * a.x - A * tP a := by omega
 have e : (tP b - tP a) * (A * tP p + B - D * p.x) = (tP b - tP a) * A * (tP p - tP a) + (tP b - tP a) * D * (a.x - p.x) := by rw [hB]; grind
 rw [e, hA]
 unfold crs tP
 grind
theorem Edg.off {D A B : Int} {a b : TPoint} (E : Edg D a b A B) (hD : 0 < D) {p : TPoint} (hn : ¬ onS a b p) (hb : btw (tP a) (tP b) (tP p)) : A * tP p + B ≠ D * p.x := fun e => by
 have k := E.key p
 rw [e, Int.sub_self, Int.mul_zero] at k
 have hc : crs a b p = 0 := by
  rcases Int.mul_eq_zero.1 k.symm with h | h
  · omega
  · exact h
 exact hn (onS_of E.ne hc hb)
theorem sg_mul' {p q : Int} (h : p * q < 0) : sg p * sg q < 0 := by
 unfold sg
 rcases Int.lt_trichotomy p 0 with hp | hp | hp <;> rcases Int.lt_trichotomy q 0 with hq | hq | hq
 · have := Int.mul_pos_of_neg_of_neg hp hq; omega
 · subst hq; simp at h
 · rw [if_neg (by omega), if_pos hp, if_pos hq]; decide
 · subst hp; simp at h
 · subst hp; simp at h
 · subst hp; simp at h
 · rw [if_pos hp, if_neg (by omega), if_pos hq]; decide
 · subst hq; simp at h
 · have := Int.mul_pos hp hq; omega
theorem sgn_move {T E u v u' v' : Int} (hT : T ≠ 0) (hu : T * u = E * v) (hv : T * u' = E * v') (h : u * u' < 0) : v * v' < 0 := by
 have e : (T * T) * (u * u') = (E * E) * (v * v') := by
  rw [show (T * T) * (u * u') = (T * u) * (T * u') by grind, hu, hv]; grind
 have hTT : 0 < T * T := by
  rcases Int.lt_or_gt_of_ne hT with h | h
  · exact Int.mul_pos_of_neg_of_neg h h
  · exact Int.mul_pos h h
 have h1 : (T * T) * (u * u') < 0 := Int.mul_neg_of_pos_of_neg hTT h
 rw [e] at h1
 rcases Int.lt_or_le (v * v') 0 with h2 | h2
 · exact h2
 · have hE : 0 ≤ E * E := by
    rcases Int.le_total 0 E with h | h
    · exact Int.mul_nonneg h h
    · exact Int.mul_nonneg_of_nonpos_of_nonpos h h
   have := Int.mul_nonneg hE h2
   omega
theorem far {α β m M : Int} (hm : m ≤ M) (p1 : 0 < α * m + β) (p2 : α * M + β < 0) : (∀ u, u ≤ m → 0 < α * u + β) ∧ (∀ u, M ≤ u → α * u + β < 0) := by
 have hα : α < 0 := by
  rcases Int.lt_or_le α 0 with h | h
  · exact h
  · have := Int.mul_le_mul_of_nonneg_left hm h; omega
 exact ⟨fun u hu => by have := Int.mul_le_mul_of_nonpos_left (Int.le_of_lt hα) hu; omega, fun u hu => by have := Int.mul_le_mul_of_nonpos_left (Int.le_of_lt hα) hu; omega⟩
theorem no_change {α β m M : Int} (hm : m ≤ M) (em : α * m + β ≠ 0) (eM : α * M + β ≠ 0) (no : ¬ ∀ u v, u ≤ m → M ≤ v → (α * u + β) * (α * v + β) < 0) : (0 ≤ α * m + β ∧ 0 ≤ α * M + β) ∨ (α * m + β ≤ 0 ∧ α * M + β ≤ 0) := by
 rcases Int.lt_or_gt_of_ne em with s1 | s1 <;> rcases Int.lt_or_gt_of_ne eM with s2 | s2
 · right; omega
 · refine absurd (fun u v hu hv => ?_) no
   have n : ∀ u : Int, -α * u + -β = -(α * u + β) := fun u => by rw [Int.neg_mul]; omega
   obtain ⟨f1, f2⟩ := far (α := -α) (β := -β) hm (by rw [n]; omega) (by rw [n]; omega)
   have g1 := f1 u hu
   have g2 := f2 v hv
   rw [n] at g1 g2
   exact Int.mul_neg_of_neg_of_pos (by omega) (by omega)
 · refine absurd (fun u v hu hv => ?_) no
   obtain ⟨f1, f2⟩ := far hm s1 s2
   exact Int.mul_neg_of_pos_of_neg (f1 u hu) (f2 v hv)
 · left; omega
theorem Edg.apart {D A B A' B' : Int} {a b c d : TPoint} (E : Edg D a b A B) (G : Edg D c d A' B') (hD : 0 < D) (n1 : ¬ onS a b c) (n2 : ¬ onS a b d) (n3 : ¬ onS c d a) (n4 : ¬ onS c d b) (nx : crossB a b c d = false) {h k : Int}
 (h1 : max (min (tP a) (tP b)) (min (tP c) (tP d)) ≤ h) (h2 : h ≤ min (max (tP a) (tP b)) (max (tP c) (tP d))) (k1 : max (min (tP a) (tP b)) (min (tP c) (tP d)) ≤ k) (k2 : k ≤ min (max (tP a) (tP b)) (max (tP c) (tP d))) :
 (A - A') * h + (B - B') ≠ 0 ∧ ((A - A') * h + (B - B') < 0 ↔ (A - A') * k + (B - B') < 0) := by
 have hF : ∀ u, (A - A') * u + (B - B') = A * u + B - (A' * u + B') := fun u => by rw [Int.sub_mul]; omega
 have oc : btw (tP a) (tP b) (tP c) → (A - A') * tP c + (B - B') ≠ 0 := fun hb => by have := E.off hD n1 hb; rw [hF, G.e0]; omega
 have od : btw (tP a) (tP b) (tP d) → (A - A') * tP d + (B - B') ≠ 0 := fun hb => by have := E.off hD n2 hb; rw [hF, G.e1]; omega
 have oa : btw (tP c) (tP d) (tP a) → (A - A') * tP a + (B - B') ≠ 0 := fun hb => by have := G.off hD n3 hb; rw [hF, E.e0]; omega
 have ob : btw (tP c) (tP d) (tP b) → (A - A') * tP b + (B - B') ≠ 0 := fun hb => by have := G.off hD n4 hb; rw [hF, E.e1]; omega
 have ne1 := E.ne
 have ne2 := G.ne
 have kc := E.key c
 have kd := E.key d
 have ka := G.key a
 have kb := G.key b
 obtain ⟨m, hm⟩ : ∃ m, m = max (min (tP a) (tP b)) (min (tP c) (tP d)) := ⟨_, rfl⟩
 obtain ⟨M, hM⟩ : ∃ M, M = min (max (tP a) (tP b)) (max (tP c) (tP d)) := ⟨_, rfl⟩
 rw [← hm] at h1 k1
 rw [← hM] at h2 k2
 have end_ : ∀ u, (u = m ∨ u = M) → (A - A') * u + (B - B') ≠ 0 := fun u hu => by
  have : (u = tP a ∧ btw (tP c) (tP d) (tP a)) ∨ (u = tP b ∧ btw (tP c) (tP d) (tP b)) ∨ (u = tP c ∧ btw (tP a) (tP b) (tP c)) ∨ (u = tP d ∧ btw (tP a) (tP b) (tP d)) := by unfold btw; omega
  rcases this with ⟨rfl, hb⟩ | ⟨rfl, hb⟩ | ⟨rfl, hb⟩ | ⟨rfl, hb⟩
  · exact oa hb
  · exact ob hb
  · exact oc hb
  · exact od hb
 have em := end_ m (.inl rfl)
 have eM := end_ M (.inr rfl)
 -- a change of sign is a crossing
 have no : ∀ u v u' v' : Int, (u = tP a ∧ v = tP b ∨ u = tP b ∧ v = tP a) → (u' = tP c ∧ v' = tP d ∨ u' = tP d ∧ v' = tP c) → ((A - A') * u + (B - B')) * ((A - A') * v + (B - B')) < 0 → ((A - A') * u' + (B - B')) * ((A - A') * v' + (B - B')) < 0 → False := fun u v u' v' q1 q2 q3 q4 => by
  have q3 : ((A - A') * tP a + (B - B')) * ((A - A') * tP b + (B - B')) < 0 := by
   rcases q1 with ⟨rfl, rfl⟩ | ⟨rfl, rfl⟩
   · exact q3
   · rw [Int.mul_comm]; exact q3
  have q4 : ((A - A') * tP c + (B - B')) * ((A - A') * tP d + (B - B')) < 0 := by
   rcases q2 with ⟨rfl, rfl⟩ | ⟨rfl, rfl⟩
   · exact q4
   · rw [Int.mul_comm]; exact q4
  have w1 : crs a b c * crs a b d < 0 := sgn_move (T := tP b - tP a) (E := 2000 * D) (by omega) (by rw [hF, G.e0]; exact kc) (by rw [hF, G.e1]; exact kd) q4
  have w2 : crs c d a * crs c d b < 0 := sgn_move (T := tP c - tP d) (E := 2000 * D) (by omega) (by rw [hF, E.e0, ← ka]; grind) (by rw [hF, E.e1, ← kb]; grind) q3
  have : crossB a b c d = true := by
   unfold crossB
   rw [decide_eq_true (sg_mul' w1), decide_eq_true (sg_mul' w2)]
   rfl
  rw [nx] at this
  cases this
 have same := no_change (α := A - A') (β := B - B') (by omega : m ≤ M) em eM (fun w1 => no (min (tP a) (tP b)) (max (tP a) (tP b)) (min (tP c) (tP d)) (max (tP c) (tP d)) (by omega) (by omega) (w1 _ _ (by omega) (by omega)) (w1 _ _ (by omega) (by omega))) 
 exact aff_sign h1 h2 k1 k2 same (.inl em) (.inl eM) (.inl em)
theorem Edg.next {D A B A' B' : Int} {a b d : TPoint} (E : Edg D a b A B) (G : Edg D b d A' B') (hD : 0 < D) (n1 : ¬ onS a b d) (n2 : ¬ onS b d a) {h k : Int}
 (h1 : max (min (tP a) (tP b)) (min (tP b) (tP d)) ≤ h) (h2 : h ≤ min (max (tP a) (tP b)) (max (tP b) (tP d))) (k1 : max (min (tP a) (tP b)) (min (tP b) (tP d)) ≤ k) (k2 : k ≤ min (max (tP a) (tP b)) (max (tP b) (tP d))) (hh : h ≠ tP b) (hk : k ≠ tP b) :
 (A - A') * h + (B - B') ≠ 0 ∧ ((A - A') * h + (B - B') < 0 ↔ (A - A') * k + (B - B') < 0) := by
 have hF : ∀ u, (A - A') * u + (B - B') = A * u + B - (A' * u + B') := fun u => by rw [Int.sub_mul]; omega
 have od : btw (tP a) (tP b) (tP d) → (A - A') * tP d + (B - B') ≠ 0 := fun hb => by have := E.off hD n1 hb; rw [hF, G.e1]; omega
 have oa : btw (tP b) (tP d) (tP a) → (A - A') * tP a + (B - B') ≠ 0 := fun hb => by have := G.off hD n2 hb; rw [hF, E.e0]; omega
 have zb : (A - A') * tP b + (B - B') = 0 := by rw [hF, E.e1, G.e0]; omega
 have ne1 := E.ne
 have ne2 := G.ne
 rcases (by omega : (tP b < tP a ∧ tP b < tP d) ∨ (tP a < tP b ∧ tP d < tP b)) with ⟨g1, g2⟩ | ⟨g1, g2⟩
 · have eM : (A - A') * (min (tP a) (tP d)) + (B - B') ≠ 0 := by
    rcases Int.le_total (tP a) (tP d) with h | h
    · rw [show min (tP a) (tP d) = tP a by omega]; exact oa (.inl (by omega))
    · rw [show min (tP a) (tP d) = tP d by omega]; exact od (.inr (by omega))
   exact aff_sign (m := tP b) (M := min (tP a) (tP d)) (by omega) (by omega) (by omega) (by omega) (by omega) (.inr (by omega)) (.inl eM) (.inr eM)
 · have em : (A - A') * (max (tP a) (tP d)) + (B - B') ≠ 0 := by
    rcases Int.le_total (tP a) (tP d) with h | h
    · rw [show max (tP a) (tP d) = tP d by omega]; exact od (.inl (by omega))
    · rw [show max (tP a) (tP d) = tP a by omega]; exact oa (.inr (by omega))
   exact aff_sign (m := max (tP a) (tP d)) (M := tP b) (by omega) (by omega) (by omega) (by omega) (by omega) (.inl em) (.inr (by omega)) (.inl em)

theorem addE_len {on : Bool} {e : TPoint} {l : List TPoint} : l.length ≤ (addE on e l).length := by
 unfold addE; split <;> simp
theorem addE_on {on : Bool} {e : TPoint} {l : List TPoint} (h : on = true) : 1 ≤ (addE on e l).length := by
 subst h
 unfold addE
 split
 · simp
 · rename_i h
   cases l with
   | nil => simp at h
   | cons a l => simp
theorem meet_zero {a b c d : TPoint} (hab : a ≠ b) (hcd : c ≠ d) (h : meetI a b c d = 0) : ¬ onS a b c ∧ ¬ onS a b d ∧ ¬ onS c d a ∧ ¬ onS c d b ∧ crossB a b c d = false := by
 rw [← meet_eq hab hcd] at h
 have hz : (shrd a b c d).length = 0 := by
  unfold meetS at h
  split at h
  · assumption
  · split at h <;> omega
 unfold meetS at h
 rw [if_pos hz] at h
 unfold shrd at hz
 have l1 : (addE (onB c d a) a []).length ≤ _ := addE_len (on := onB c d b) (e := b)
 have l2 : (addE (onB c d b) b (addE (onB c d a) a [])).length ≤ _ := addE_len (on := onB a b c) (e := c)
 have l3 : (addE (onB a b c) c (addE (onB c d b) b (addE (onB c d a) a []))).length ≤ _ := addE_len (on := onB a b d) (e := d)
 refine ⟨fun hh => ?_, fun hh => ?_, fun hh => ?_, fun hh => ?_, ?_⟩
 · have : 1 ≤ (addE (onB a b c) c (addE (onB c d b) b (addE (onB c d a) a []))).length := addE_on (onB_iff.2 hh); omega
 · have : 1 ≤ (addE (onB a b d) d (addE (onB a b c) c (addE (onB c d b) b (addE (onB c d a) a [])))).length := addE_on (onB_iff.2 hh); omega
 · have : 1 ≤ (addE (onB c d a) a []).length := addE_on (onB_iff.2 hh); omega
 · have : 1 ≤ (addE (onB c d b) b (addE (onB c d a) a [])).length := addE_on (onB_iff.2 hh); omega
 · cases hc : crossB a b c d
   · rfl
   · rw [if_pos hc] at h; omega
theorem crs_cyc (a b c : TPoint) : crs a b c = crs b c a := by unfold crs; grind
theorem meet_next {a b d : TPoint} (hab : a ≠ b) (hbd : b ≠ d) (h : meetI a b b d = 1 ∨ meetI b d a b = 1) : ¬ onS a b d ∧ ¬ onS b d a := by
 have go : crs a b d = 0 → btw (plc a b b) (plc a b a) (plc a b d) ∨ btw (plc a b b) (plc a b d) (plc a b a) → meetI a b b d = 1 → False := fun hc hb h => by
  have n1 : plc a b a ≠ plc a b b := fun e => hab (plc_inj hab (crs_a a b) (crs_b a b) e)
  have n2 : plc a b b ≠ plc a b d := fun e => hbd (plc_inj hab (crs_b a b) hc e)
  rw [meetI_line hab hbd (crs_b a b) hc] at h
  unfold btw at hb
  split at h
  · omega
  · split at h <;> omega
 have go2 : crs b d a = 0 → btw (plc b d b) (plc b d a) (plc b d d) ∨ btw (plc b d b) (plc b d d) (plc b d a) → meetI b d a b = 1 → False := fun hc hb h => by
  have n1 : plc b d a ≠ plc b d b := fun e => hab (plc_inj hbd hc (crs_a b d) e)
  have n2 : plc b d b ≠ plc b d d := fun e => hbd (plc_inj hbd (crs_a b d) (crs_b b d) e)
  rw [meetI_line hbd hab hc (crs_a b d)] at h
  unfold btw at hb
  split at h
  · omega
  · split at h <;> omega
 have sw : ∀ {u v w : Int}, btw u v w → btw v u w := fun h => by unfold btw at *; omega
 refine ⟨fun hh => ?_, fun hh => ?_⟩
 · rcases h with h | h
   · exact go hh.1 (.inl (sw ((on_plc hab (crs_a a b) (crs_b a b) hh.1).1 (onB_iff.2 hh)))) h
   · have c2 : crs b d a = 0 := (crs_cyc a b d).symm.trans hh.1
     exact go2 c2 (.inl (sw ((on_plc hbd c2 (crs_a b d) (crs_b b d)).1 (onB_iff.2 hh)))) h
 · rcases h with h | h
   · have c2 : crs a b d = 0 := (crs_cyc a b d).trans hh.1
     exact go c2 (.inr ((on_plc hab (crs_b a b) c2 (crs_a a b)).1 (onB_iff.2 hh))) h
   · exact go2 hh.1 (.inr ((on_plc hbd (crs_a b d) (crs_b b d) hh.1).1 (onB_iff.2 hh))) h
def ptA (l : List TPoint) (i : Nat) : TPoint := l.getD i ⟨0, 0⟩
theorem sAt_pt {l : List TPoint} {i : Nat} (h : i < l.length) : sAt l i = ⟨ptA l i, ptA l (nx l.length i)⟩ := by
 obtain ⟨a, b, h1, h2, h3⟩ := arnd_get h
 rw [sAt_of h3]
 unfold ptA nx
 rw [List.getD_eq_getElem?_getD, List.getD_eq_getElem?_getD, h1, h2]
 rfl
theorem ring_edges {l : List TPoint} (h : isRing l = true) : 3 ≤ l.length ∧ (∀ i, i < l.length → isp (ptA l i).x (ptA l i).y = true ∧ ptA l i ≠ ptA l (nx l.length i)) ∧
 ∀ i k, i < l.length → k < i → meetI (ptA l i) (ptA l (nx l.length i)) (ptA l k) (ptA l (nx l.length k)) = wantN l.length i k := by
 refine ⟨(isRing_len h).1, ?_⟩
 simp only [isRing, Bool.and_eq_true] at h
 have hr := h.2
 simp only [rgOk, List.all_eq_true, List.mem_range] at hr
 have hs : ∀ i, i < l.length → isSeg (sAt l i) = true := fun i hi => by
  have := hr i hi
  simp only [rgAt, Bool.and_eq_true] at this
  exact this.1
 refine ⟨fun i hi => ?_, fun i k hi hk => ?_⟩
 · have h1 := hs i hi
   have h2 := (isSeg_bd h1).1
   have h3 := isSeg_ne h1
   rw [sAt_pt hi] at h2 h3
   exact ⟨h2, h3⟩
 · have h1 := hr i hi
   simp only [rgAt, rgIn, Bool.and_eq_true, List.all_eq_true, List.mem_range, beq_iff_eq] at h1
   have h2 := h1.2 k hk
   rw [hmI_eq (hs i hi) (hs k (by omega)), sAt_pt hi, sAt_pt (show k < l.length by omega)] at h2
   exact h2
def PR (f : Nat → Int) : Nat → Int
 | 0 => 1
 | n + 1 => PR f n * f n
theorem PR_pos {f : Nat → Int} : ∀ {n : Nat}, (∀ i, i < n → 0 < f i) → 0 < PR f n
 | 0, _ => by simp [PR]
 | n + 1, h => Int.mul_pos (PR_pos fun i hi => h i (by omega)) (h n (by omega))
theorem PR_dvd {f : Nat → Int} {i : Nat} : ∀ {n : Nat}, i < n → ∃ c, PR f n = f i * c
 | 0, h => by omega
 | n + 1, h => by
  by_cases e : i = n
  · subst e; exact ⟨PR f i, Int.mul_comm _ _⟩
  · obtain ⟨c, hc⟩ := PR_dvd (f := f) (i := i) (n := n) (by omega)
    exact ⟨c * f n, by rw [PR, hc, Int.mul_assoc]⟩
theorem ring_ply {l : List TPoint} (h : isRing l = true) : ∃ D : Int, 0 < D ∧ ∃ A B, Ply l.length (fun i => tP (ptA l i)) (fun i => D * (ptA l i).x) A B := by
 obtain ⟨hn, hc, hm⟩ := ring_edges h
 obtain ⟨n, hnn⟩ : ∃ n, n = l.length := ⟨_, rfl⟩
 rw [← hnn] at hn hc hm ⊢
 -- the corners' heights are different
 have tinj : ∀ i j, i < n → j < n → tP (ptA l i) = tP (ptA l j) → ptA l i = ptA l j := fun i j hi hj e => by
  have b1 := isp_bd (hc i hi).1
  have b2 := isp_bd (hc j hj).1
  unfold tP at e
  exact TPoint.ext' (by omega) (by omega)
 have ne_lt : ∀ i k, i < n → k < i → ptA l i ≠ ptA l k := fun i k hi hk e => by
  have nk := (hc k (by omega)).2
  have ni := (hc i hi).2
  by_cases w : k + 1 = i
  · rw [nx_eq (by omega), if_neg (by omega), w] at nk
    exact nk e.symm
  · by_cases w2 : k = 0 ∧ i + 1 = n
    · rw [nx_eq hi, if_pos w2.2, ← w2.1] at ni
      exact ni e
    · have := hm i k hi hk
      rw [wantN, if_neg (by omega)] at this
      refine (meet_zero ni nk this).1 ?_
      rw [← e, ← onB_iff]
      have q := (on_plc ni (crs_a _ _) (crs_b _ _) (crs_a (ptA l i) (ptA l (nx n i)))).2
      exact q (by unfold btw; omega)
 have pinj : ∀ i j, i < n → j < n → ptA l i = ptA l j → i = j := fun i j hi hj e => by
  rcases Nat.lt_trichotomy i j with w | w | w
  · exact absurd e.symm (ne_lt j i hj w)
  · exact w
  · exact absurd e (ne_lt i j hi w)
 have tne : ∀ i, i < n → tP (ptA l i) ≠ tP (ptA l (nx n i)) := fun i hi e => (hc i hi).2 (tinj i _ hi (nx_lt (by omega)) e)
 obtain ⟨D, hD⟩ : ∃ D, D = PR (fun i => (tP (ptA l (nx n i)) - tP (ptA l i)) * (tP (ptA l (nx n i)) - tP (ptA l i))) n := ⟨_, rfl⟩
 have hD0 : 0 < D := by
  rw [hD]
  refine PR_pos fun i hi => ?_
  have := tne i hi
  rcases (by omega : tP (ptA l (nx n i)) - tP (ptA l i) < 0 ∨ 0 < tP (ptA l (nx n i)) - tP (ptA l i)) with h | h
  · exact Int.mul_pos_of_neg_of_neg h h
  · exact Int.mul_pos h h
 have hq : ∀ i, ∃ q, i < n → D = (tP (ptA l (nx n i)) - tP (ptA l i)) * q := fun i => by
  by_cases hi : i < n
  · obtain ⟨c, hc⟩ := PR_dvd (f := fun i => (tP (ptA l (nx n i)) - tP (ptA l i)) * (tP (ptA l (nx n i)) - tP (ptA l i))) hi
    exact ⟨(tP (ptA l (nx n i)) - tP (ptA l i)) * c, fun _ => by rw [hD, hc, Int.mul_assoc]⟩
  · exact ⟨0, fun h => absurd h hi⟩
 obtain ⟨q, hq⟩ : ∃ q : Nat → Int, ∀ i, i < n → D = (tP (ptA l (nx n i)) - tP (ptA l i)) * q i := ⟨fun i => Classical.choose (hq i), fun i => Classical.choose_spec (hq i)⟩
 refine ⟨D, hD0, fun i => q i * ((ptA l (nx n i)).x - (ptA l i).x), fun i => D * (ptA l i).x - q i * ((ptA l (nx n i)).x - (ptA l i).x) * tP (ptA l i), ?_⟩
 have edg : ∀ i, i < n → Edg D (ptA l i) (ptA l (nx n i)) (q i * ((ptA l (nx n i)).x - (ptA l i).x)) (D * (ptA l i).x - q i * ((ptA l (nx n i)).x - (ptA l i).x) * tP (ptA l i)) := fun i hi => ⟨tne i hi, by omega, by have := hq i hi; grind⟩
 have sep : ∀ i k h m, i < n → k < i → min (tP (ptA l i)) (tP (ptA l (nx n i))) ≤ h → h ≤ max (tP (ptA l i)) (tP (ptA l (nx n i))) → min (tP (ptA l k)) (tP (ptA l (nx n k))) ≤ h → h ≤ max (tP (ptA l k)) (tP (ptA l (nx n k))) →
  min (tP (ptA l i)) (tP (ptA l (nx n i))) ≤ m → m ≤ max (tP (ptA l i)) (tP (ptA l (nx n i))) → min (tP (ptA l k)) (tP (ptA l (nx n k))) ≤ m → m ≤ max (tP (ptA l k)) (tP (ptA l (nx n k))) →
  (k = nx n i → h ≠ tP (ptA l k) ∧ m ≠ tP (ptA l k)) → (i = nx n k → h ≠ tP (ptA l i) ∧ m ≠ tP (ptA l i)) →
  ∀ u v, u = (q i * ((ptA l (nx n i)).x - (ptA l i).x) - q k * ((ptA l (nx n k)).x - (ptA l k).x)) → v = (D * (ptA l i).x - q i * ((ptA l (nx n i)).x - (ptA l i).x) * tP (ptA l i) - (D * (ptA l k).x - q k * ((ptA l (nx n k)).x - (ptA l k).x) * tP (ptA l k))) →
  u * h + v ≠ 0 ∧ (u * h + v < 0 ↔ u * m + v < 0) ∧ (u * m + v ≠ 0) := fun i k h m hi hk s1 s2 s3 s4 s5 s6 s7 s8 o1 o2 u v hu hv => by
  have ei := edg i hi
  have ek := edg k (by omega)
  have w := hm i k hi hk
  suffices hs : ∀ h m, min (tP (ptA l i)) (tP (ptA l (nx n i))) ≤ h → h ≤ max (tP (ptA l i)) (tP (ptA l (nx n i))) → min (tP (ptA l k)) (tP (ptA l (nx n k))) ≤ h → h ≤ max (tP (ptA l k)) (tP (ptA l (nx n k))) →
   min (tP (ptA l i)) (tP (ptA l (nx n i))) ≤ m → m ≤ max (tP (ptA l i)) (tP (ptA l (nx n i))) → min (tP (ptA l k)) (tP (ptA l (nx n k))) ≤ m → m ≤ max (tP (ptA l k)) (tP (ptA l (nx n k))) →
   (k = nx n i → h ≠ tP (ptA l k) ∧ m ≠ tP (ptA l k)) → (i = nx n k → h ≠ tP (ptA l i) ∧ m ≠ tP (ptA l i)) → u * h + v ≠ 0 ∧ (u * h + v < 0 ↔ u * m + v < 0) from
   ⟨(hs h m s1 s2 s3 s4 s5 s6 s7 s8 o1 o2).1, (hs h m s1 s2 s3 s4 s5 s6 s7 s8 o1 o2).2, (hs m h s5 s6 s7 s8 s1 s2 s3 s4 (fun e => ⟨(o1 e).2, (o1 e).1⟩) (fun e => ⟨(o2 e).2, (o2 e).1⟩)).1⟩
  clear s1 s2 s3 s4 s5 s6 s7 s8 o1 o2 h m
  intro h m s1 s2 s3 s4 s5 s6 s7 s8 o1 o2
  rw [hu, hv]
  by_cases w1 : k + 1 = i
  · -- k, then i
    have en : nx n k = i := by rw [nx_eq (by omega), if_neg (by omega), w1]
    rw [wantN, if_pos (.inl w1), en] at w
    obtain ⟨z1, z2⟩ := meet_next (by have := (hc k (by omega)).2; rw [en] at this; exact this) (hc i hi).2 (.inr w)
    have o := o2 en.symm
    rw [en] at ek s3 s4 s7 s8
    have r := ek.next ei hD0 z1 z2 (h := h) (k := m) (by omega) (by omega) (by omega) (by omega) o.1 o.2
    have r2 := ek.next ei hD0 z1 z2 (h := m) (k := h) (by omega) (by omega) (by omega) (by omega) o.2 o.1
    rw [en]
    have fl : ∀ (a a' b b' y : Int), (a - a') * y + (b - b') = -((a' - a) * y + (b' - b)) := fun a a' b b' y => by grind
    rw [fl _ _ _ _ h, fl _ _ _ _ m]
    omega
  · by_cases w2 : k = 0 ∧ i + 1 = n
    · have en : nx n i = k := by rw [nx_eq hi, if_pos w2.2, w2.1]
      rw [wantN, if_pos (.inr w2), en] at w
      obtain ⟨z1, z2⟩ := meet_next (by have := (hc i hi).2; rw [en] at this; exact this) (hc k (by omega)).2 (.inl w)
      have o := o1 en.symm
      rw [en] at ei s1 s2 s5 s6
      have r := ei.next ek hD0 z1 z2 (h := h) (k := m) (by omega) (by omega) (by omega) (by omega) o.1 o.2
      rw [en]
      exact r
    · rw [wantN, if_neg (by omega)] at w
      obtain ⟨z1, z2, z3, z4, z5⟩ := meet_zero (hc i hi).2 (hc k (by omega)).2 w
      exact ei.apart ek hD0 z1 z2 z3 z4 z5 (by omega) (by omega) (by omega) (by omega)
 refine ⟨hn, fun i hi => by unfold tP; omega, fun i j hi hj e => pinj i j hi hj (tinj i j hi hj e), fun i hi => (edg i hi).e0, fun i hi => (edg i hi).e1, fun i j h k hi hj hne s1 s2 s3 s4 s5 s6 s7 s8 o1 o2 => ?_⟩
 have fl : ∀ (a a' b b' y : Int), (a - a') * y + (b - b') = a * y + b - (a' * y + b') := fun a a' b b' y => by grind
 rcases Nat.lt_or_gt_of_ne hne with w | w
 · have r := sep j i h k hj w s3 s4 s1 s2 s7 s8 s5 s6 o2 o1 _ _ rfl rfl
   rw [fl, fl] at r
   omega
 · have r := sep i j h k hi w s1 s2 s3 s4 s5 s6 s7 s8 o1 o2 _ _ rfl rfl
   rw [fl, fl] at r
   omega
def area2 (l : List TPoint) : Int := SI (fun i => (ptA l i).x * (ptA l (nx l.length i)).y - (ptA l i).y * (ptA l (nx l.length i)).x) l.length
theorem ring_area {l : List TPoint} (h : isRing l = true) : area2 l ≠ 0 := fun h0 => by
 obtain ⟨D, hD, A, B, P⟩ := ring_ply h
 refine area_ne P ?_
 have hn := P.n3
 have e : SI (fun i => (D * (ptA l i).x + D * (ptA l (nx l.length i)).x) * (tP (ptA l (nx l.length i)) - tP (ptA l i))) l.length =
  SI (fun i => 2000 * D * ((ptA l i).x * (ptA l (nx l.length i)).y - (ptA l i).y * (ptA l (nx l.length i)).x) + ((fun j => 2 * D * ((ptA l j).x * (ptA l j).x) + 2000 * D * ((ptA l j).x * (ptA l j).y)) (nx l.length i) - (fun j => 2 * D * ((ptA l j).x * (ptA l j).x) + 2000 * D * ((ptA l j).x * (ptA l j).y)) i)) l.length := SI_congr fun i _ => by
  dsimp only
  unfold tP
  grind
 rw [e, SI_add, SI_sub, SI_cyc (fun j => 2 * D * ((ptA l j).x * (ptA l j).x) + 2000 * D * ((ptA l j).x * (ptA l j).y)) (by omega), SI_mul]
 unfold area2 at h0
 rw [h0]
 omega

end Go.Proofs.YtpffahmmklpifaaGreat.Abs

/- The walks of a line's segments. -/
namespace Go.Proofs.YtpffahmmklpifaaGreat.Abs
open Go.Proofs Go.RowKit
set_option linter.unusedVariables false
set_option linter.unusedSimpArgs false
set_option maxRecDepth 100000
set_option maxHeartbeats 2000000
attribute [local irreducible] OpA AL AW DL DLM DLR DLS QOp POp VCalls VCallsI
theorem segs_s (l : List TPoint) (hl : l.length ≤ 1048576) : VCalls Tryz.prog 173 [.ro 2 (l.map TPoint.en)] (fun r M => r = .ro 4 ((segs l).map TSegment.en) ∧ M = []) := by
 refine VB Tryz.func173 29 (fun E hE => ?_)
 have hclo : Clo (.ro 2 (l.map TPoint.en)) := clo_list TPoint.clo_en
 repeat' ((first
  | (refine iAL ?_; first | refine AL.any ?_ | refine AL.W ?_ | refine AL.W (h := fun h => by (try rw [h]); exact POp.k Tryz.func238 (hc := isLine_s _ (by assumption))) ?_ | refine AL.nil ?_)
  | ((with_reducible show DLM ..); first | refine DLM.any ?_ | refine DLM.mk ?_ | refine DLM.nil ?_)
  | (refine iAW ?_; first | (refine AW.freezeRet (t := 2) (id := 0) rfl rfl rfl rfl (clo_rows TSegment.clo_en) ?_; (try simp only [List.take_length]); try dsimp only [dput, List.set, cond_true, cond_false, Nat.zero_add, Nat.add_zero, Nat.reduceAdd, splice, List.take, List.drop, List.length, List.nil_append, List.cons_append, List.append, TPoint.en, TSegment.en, TBox.en, TFeature.en, TMeet.en, TPlace.en, TCover.en, TLabel.en, TPiece.en, TLevel.en, TChart.en, TReason.en, TEdit.en, TEntry.en, TEdition.en, TListing.en, TAtlas.en, TEvent.en, TWindow.en]) | (refine AW.c0 ?_; constructor) | refine AW.drM (id := 5) 12 11 ?_ | refine AW.cT ?_ | refine AW.cF ?_)
  | (
 refine AW.loopD hE (fun i : Nat => [.ro 2 (l.map TPoint.en), .any, .any, .own 0 i, I ((i : Int) + 1), .any, .any, .any, .any, .any, .any, .any, .any, .any, .any, .any, .any, .any, .any, .any, .any, .any, .any, .any, .any, .any, .any, .any, .any, .any]) (fun i => [some ⟨200, 4, i, false, ((segs l).take i).map TSegment.en⟩]) (fun i => (segs l).length - i) (fun i => i ≤ (segs l).length) 0 (Nat.zero_le _) ?_ (by first | rfl | (simp [fil_zero]; done)) ?_
 (focus (exact wkI))
 intro i hi
 have hsl := segs_le l
 by_cases hlt : i < (segs l).length
 case' pos =>
  have hP := True.intro
  obtain ⟨a, b, hL, hi1, ha, hb, hs⟩ := segs_get hlt
  have ht : (decide ((i : Int) + 1 < ((l.map TPoint.en).length : Int)) && isLine l) = true := by simp [hL]; omega
  have e1 : IntKind.i64.wrap ((i : Int) + 1 - 1) = (i : Int) := by rw [w64 (by omega) (by omega)]; omega
  have h0 : 0 ≤ IntKind.i64.wrap ((i : Int) + 1 - 1) := by omega
  have hga : (l.map TPoint.en)[(IntKind.i64.wrap ((i : Int) + 1 - 1)).toNat]? = some a.en := by rw [e1]; exact map_get ha
  have hgb : (l.map TPoint.en)[((i : Int) + 1).toNat]? = some b.en := by rw [show ((i : Int) + 1).toNat = i + 1 by omega, List.getElem?_map, hb]; rfl
  have h01 : 0 ≤ (i : Int) + 1 := by omega
  have hn : IntKind.i64.wrap ((i : Int) + 1 + 1) = ((i + 1 : Nat) : Int) + 1 := by rw [w64 (by omega) (by omega)]; omega
  have hm := map_take_succ (f := TSegment.en) hs
 case' neg =>
  have hQ := True.intro
  have e : i = (segs l).length := by omega
  have hsl := segs_le l
  have ht : (decide ((i : Int) + 1 < ((l.map TPoint.en).length : Int)) && isLine l) = false := by
   cases hL : isLine l
   · simp_all
   · have := segs_len hL; have := isLine_len hL; simp; omega
  subst e)) <;> (try dsimp only))
 all_goals first
  | (have _ := hP; (refine ⟨i + 1, _, hlt, by omega, ?_, by rw [hm] <;> rfl, ?_, ?_⟩; (focus (exact wkN)); (focus (exact fitsA)); (focus (exact fits_row (clo_rows TSegment.clo_en)))))
  | (have _ := hQ; exact Fin.one rfl (RV.tmp (by rfl)) (clo_list TSegment.clo_en) ⟨rfl, rfl⟩)

theorem segs_i (l : List TPoint) (hl : l.length ≤ 1048576) : VCalls Tryz.prog 246 [.ro 2 (l.map TPoint.en)] (fun r M => r = .ro 4 ((segs l).map TSegment.en) ∧ M = []) := by
 refine VB Tryz.func246 29 (fun E hE => ?_)
 have hclo : Clo (.ro 2 (l.map TPoint.en)) := clo_list TPoint.clo_en
 repeat' ((first
  | (refine iAL ?_; first | refine AL.any ?_ | refine AL.any (h := POp.k Tryz.func245 (hc := isLine_i _ (by assumption))) ?_ | refine AL.nil ?_)
  | ((with_reducible show DLM ..); first | refine DLM.any ?_ | refine DLM.mk ?_ | refine DLM.nil ?_)
  | (refine iAW ?_; first | (refine AW.freezeRet (t := 2) (id := 0) rfl rfl rfl rfl clo_rows_nil ?_; (try simp only [List.take_length]); try dsimp only [dput, List.set, cond_true, cond_false, Nat.zero_add, Nat.add_zero, Nat.reduceAdd, splice, List.take, List.drop, List.length, List.nil_append, List.cons_append, List.append, TPoint.en, TSegment.en, TBox.en, TFeature.en, TMeet.en, TPlace.en, TCover.en, TLabel.en, TPiece.en, TLevel.en, TChart.en, TReason.en, TEdit.en, TEntry.en, TEdition.en, TListing.en, TAtlas.en, TEvent.en, TWindow.en]) | (refine AW.freezeRet (t := 2) (id := 0) rfl rfl rfl rfl (clo_rows TSegment.clo_en) ?_; (try simp only [List.take_length]); try dsimp only [dput, List.set, cond_true, cond_false, Nat.zero_add, Nat.add_zero, Nat.reduceAdd, splice, List.take, List.drop, List.length, List.nil_append, List.cons_append, List.append, TPoint.en, TSegment.en, TBox.en, TFeature.en, TMeet.en, TPlace.en, TCover.en, TLabel.en, TPiece.en, TLevel.en, TChart.en, TReason.en, TEdit.en, TEntry.en, TEdition.en, TListing.en, TAtlas.en, TEvent.en, TWindow.en]) | (refine AW.c0 ?_; constructor) | refine AW.drM (id := 7) 12 11 ?_ | refine AW.cT ?_ | refine AW.cF ?_ | (refine AW.c2 ?_ ?_ <;> (intro h; try simp only [bT, bF] at h)))
  | (
 refine AW.loopD hE (fun i : Nat => [.ro 2 (l.map TPoint.en), .any, .any, .own 0 i, I ((i : Int) + 1), .any, .any, .any, .any, .any, .any, .any, .any, .any, .any, .any, .any, .any, .any, .any, .any, .any, .any, .any, .any, .any, .any, .any, .any, .any]) (fun i => [some ⟨200, 4, i, false, ((segs l).take i).map TSegment.en⟩]) (fun i => (segs l).length - i) (fun i => i ≤ (segs l).length) 0 (Nat.zero_le _) ?_ (by first | rfl | (simp [fil_zero]; done)) ?_
 (focus (exact wkI))
 intro i hi
 have hsl := segs_le l
 by_cases hlt : i < (segs l).length
 case' pos =>
  have hP := True.intro
  obtain ⟨a, b, hL, hi1, ha, hb, hs⟩ := segs_get hlt
  have ht : decide ((i : Int) + 1 < ((l.map TPoint.en).length : Int)) = true := by simp []; omega
  have e1 : IntKind.i64.wrap ((i : Int) + 1 - 1) = (i : Int) := by rw [w64 (by omega) (by omega)]; omega
  have h0 : 0 ≤ IntKind.i64.wrap ((i : Int) + 1 - 1) := by omega
  have hga : (l.map TPoint.en)[(IntKind.i64.wrap ((i : Int) + 1 - 1)).toNat]? = some a.en := by rw [e1]; exact map_get ha
  have hgb : (l.map TPoint.en)[((i : Int) + 1).toNat]? = some b.en := by rw [show ((i : Int) + 1).toNat = i + 1 by omega, List.getElem?_map, hb]; rfl
  have h01 : 0 ≤ (i : Int) + 1 := by omega
  have hn : IntKind.i64.wrap ((i : Int) + 1 + 1) = ((i + 1 : Nat) : Int) + 1 := by rw [w64 (by omega) (by omega)]; omega
  have hm := map_take_succ (f := TSegment.en) hs
 case' neg =>
  have hQ := True.intro
  have e : i = (segs l).length := by omega
  have hsl := segs_le l
  have ht : decide ((i : Int) + 1 < ((l.map TPoint.en).length : Int)) = false := by
   cases hL : isLine l
   · simp_all
   · have := segs_len hL; have := isLine_len hL; simp; omega
  subst e)) <;> (try dsimp only))
 all_goals first
  | (have _ := hP; (refine ⟨i + 1, _, hlt, by omega, ?_, by rw [hm] <;> rfl, ?_, ?_⟩; (focus (exact wkN)); (focus (exact fitsA)); (focus (exact fits_row (clo_rows TSegment.clo_en)))))
  | (have _ := hQ; exact Fin.one rfl (RV.tmp (by rfl)) (clo_list TSegment.clo_en) ⟨rfl, rfl⟩)
  | (exact Fin.one rfl (RV.tmp (by rfl)) (Clo.ro fun r hr => by simp at hr) ⟨by rw [segs_nil (by assumption)]; rfl, rfl⟩)

def wantL (i k : Nat) : Int := if k + 1 = i then 1 else 0
def gAt (l : List TPoint) (i : Nat) : TSegment := (segs l).getD i ⟨⟨0, 0⟩, ⟨0, 0⟩⟩
theorem gAt_of {l : List TPoint} {i : Nat} {x : TSegment} (h : (segs l)[i]? = some x) : gAt l i = x := by simp [gAt, List.getD_eq_getElem?_getD, h]
def smIn (l : List TPoint) (i n : Nat) : Bool := (List.range n).all fun k => hmI (gAt l i) (gAt l k) == wantL i k
def smOk (l : List TPoint) (n : Nat) : Bool := (List.range n).all fun i => smIn l i i
theorem smIn_succ (l : List TPoint) (i k : Nat) : smIn l i (k + 1) = (smIn l i k && (hmI (gAt l i) (gAt l k) == wantL i k)) := by simp [smIn, List.range_succ]
theorem smOk_succ (l : List TPoint) (i : Nat) : smOk l (i + 1) = (smOk l i && smIn l i i) := by simp [smOk, List.range_succ]
theorem smIn_not {l : List TPoint} {i k n : Nat} (h : (hmI (gAt l i) (gAt l k) == wantL i k) = false) (hk : k < n) : smIn l i n = false := by
 simp only [smIn, List.all_eq_false, List.mem_range]
 exact ⟨k, hk, by simp [h]⟩
theorem smOk_not {l : List TPoint} {i n : Nat} (h : smIn l i i = false) (hi : i < n) : smOk l n = false := by
 simp only [smOk, List.all_eq_false, List.mem_range]
 exact ⟨i, hi, by simp [h]⟩
def isSimple (l : List TPoint) : Bool := isLine l && smOk l (segs l).length
theorem wantL_s {i k : Nat} (hk : k < i) (hi : i ≤ 1048576) : ((IntKind.i64.wrap ((k : Int) + 1) == (i : Int)) = true ∧ wantL i k = 1) ∨ ((IntKind.i64.wrap ((k : Int) + 1) == (i : Int)) = false ∧ wantL i k = 0) := by
 rw [w64 (n := (k : Int) + 1) (by omega) (by omega)]
 unfold wantL
 simp only [beq_iff_eq, beq_eq_false_iff_ne, ne_eq]
 by_cases q1 : k + 1 = i
 · exact .inl ⟨by omega, by simp [q1]⟩
 · exact .inr ⟨by omega, by simp [q1]⟩
theorem wantL_i {i k : Nat} (hk : k < i) (hi : i ≤ 1048576) : (((k : Int) == IntKind.i64.wrap ((i : Int) - 1)) = true ∧ wantL i k = 1) ∨ (((k : Int) == IntKind.i64.wrap ((i : Int) - 1)) = false ∧ wantL i k = 0) := by
 have e1 : ((k : Int) == IntKind.i64.wrap ((i : Int) - 1)) = (IntKind.i64.wrap ((k : Int) + 1) == (i : Int)) := by
  rw [w64 (n := (k : Int) + 1) (by omega) (by omega), w64 (n := (i : Int) - 1) (by omega) (by omega), Bool.eq_iff_iff]
  simp only [beq_iff_eq]
  omega
 rw [e1]
 exact wantL_s hk hi
def nmAt (s : ByteArray) (i : Nat) : Bool := match s[i]? with
 | none => false
 | some b => !(decide (((b.toNat : Nat) : Int) < 97) || decide (((b.toNat : Nat) : Int) > 122))
def nmTo (s : ByteArray) (n : Nat) : Bool := (List.range n).all (nmAt s)
theorem nmTo_succ (s : ByteArray) (i : Nat) : nmTo s (i + 1) = (nmTo s i && nmAt s i) := by simp [nmTo, List.range_succ]
theorem nmTo_not {s : ByteArray} {i n : Nat} (h : nmAt s i = false) (hi : i < n) : nmTo s n = false := by
 simp only [nmTo, List.all_eq_false, List.mem_range]
 exact ⟨i, hi, by simp [h]⟩
theorem byte_get {s : ByteArray} {i : Nat} (h : i < s.size) : ∃ b : UInt8, s[i]? = some b ∧ s[((i : Nat) : Int).toNat]? = some b := ⟨s[i], by simp [h], by rw [Int.toNat_natCast]; simp [h]⟩
theorem nmAt_some {s : ByteArray} {i : Nat} {b : UInt8} (h : s[i]? = some b) : nmAt s i = !(decide (((b.toNat : Nat) : Int) < 97) || decide (((b.toNat : Nat) : Int) > 122)) := by simp [nmAt, h]
theorem bytes_lt {s : ByteArray} {i : Nat} (h : i < s.size) : decide ((i : Int) < (s.size : Int)) = true := by simp; omega
theorem bytes_ge {s : ByteArray} {i : Nat} (h : ¬ i < s.size) : decide ((i : Int) < (s.size : Int)) = false := by simp; omega
def isName (s : ByteArray) : Bool := nmTo s s.size && inr s.size 1 8
abbrev noName (s : ByteArray) : Bool := s.toList == (⟨#[]⟩ : ByteArray).toList
def kindOk (x : TFeature) : Bool := if (x.kind == 1) = true then ((x.points.length : Int) == 1) && isp (x.points.getD 0 ⟨0, 0⟩).x (x.points.getD 0 ⟨0, 0⟩).y else if (x.kind == 2) = true then isSimple x.points else if (x.kind == 3) = true then isRing x.points else false
theorem len1 (l : List TPoint) : ((((l.map TPoint.en).length : Int) == 1) = true ∧ ((l.length : Int) == 1) = true ∧ (l.map TPoint.en)[((0 : Int)).toNat]? = some (l.getD 0 ⟨0, 0⟩).en) ∨ ((((l.map TPoint.en).length : Int) == 1) = false ∧ ((l.length : Int) == 1) = false) := by
 rw [List.length_map]
 cases h : ((l.length : Int) == 1)
 · exact .inr ⟨rfl, rfl⟩
 · refine .inl ⟨rfl, rfl, ?_⟩
   cases l with
   | nil => simp at h
   | cons a l => rfl
theorem feat_cases (x : TFeature) : inr x.id 1 99 = false ∨ (inr x.id 1 99 = true ∧ inr x.rank 0 9 = false) ∨ (inr x.id 1 99 = true ∧ inr x.rank 0 9 = true ∧ noName x.name = false ∧ isName x.name = false) ∨
 (inr x.id 1 99 = true ∧ inr x.rank 0 9 = true ∧ noName x.name = true) ∨ (inr x.id 1 99 = true ∧ inr x.rank 0 9 = true ∧ noName x.name = false ∧ isName x.name = true) := by
 cases inr x.id 1 99 <;> cases inr x.rank 0 9 <;> cases noName x.name <;> cases isName x.name <;> simp
def isFeat (x : TFeature) : Bool := inr x.id 1 99 && inr x.rank 0 9 && (noName x.name || isName x.name) && kindOk x
def TFeature.gd (x : TFeature) : Prop := x.points.length ≤ 1048576 ∧ x.name.size ≤ maxLen
def prevF (l : List TFeature) (i : Nat) : TFeature := l.getD (i - 1) ⟨0, 0, 0, ⟨#[]⟩, []⟩
def srcAt (l : List TFeature) (i : Nat) : Bool := match l[i]? with
 | none => false
 | some x => isFeat x && (i == 0 || decide ((prevF l i).id < x.id))
def srcOk (l : List TFeature) (n : Nat) : Bool := (List.range n).all (srcAt l)
theorem srcOk_succ (l : List TFeature) (i : Nat) : srcOk l (i + 1) = (srcOk l i && srcAt l i) := by simp [srcOk, List.range_succ]
theorem srcOk_not {l : List TFeature} {i n : Nat} (h : srcAt l i = false) (hi : i < n) : srcOk l n = false := by
 simp only [srcOk, List.all_eq_false, List.mem_range]
 exact ⟨i, hi, by simp [h]⟩
def isSource (l : List TFeature) : Bool := srcOk l l.length && decide ((l.length : Int) ≤ 16)
def partsOf (x : TFeature) : List TSegment := if isFeat x = true then (if (x.kind == 2) = true then segs x.points else if (x.kind == 3) = true then ringSegs x.points else []) else []
theorem partsOf_le (x : TFeature) : (partsOf x).length ≤ 10 := by
 have h1 := segs_le x.points
 have h2 := ringSegs_le x.points
 unfold partsOf
 repeat' split
 all_goals first | omega | simp
theorem src_cases {l : List TFeature} {i : Nat} {x : TFeature} (hx : l[i]? = some x) (hl : l.length ≤ 1048576) :
 (isFeat x = false ∧ srcAt l i = false) ∨ (isFeat x = true ∧ decide ((i : Int) > 0) = false ∧ srcAt l i = true) ∨
 (isFeat x = true ∧ decide ((i : Int) > 0) = true ∧ 0 ≤ IntKind.i64.wrap ((i : Int) - 1) ∧ (l.map TFeature.en)[(IntKind.i64.wrap ((i : Int) - 1)).toNat]? = some (prevF l i).en ∧ srcAt l i = decide ((prevF l i).id < x.id)) := by
 have hi := (List.getElem?_eq_some_iff.1 hx).1
 cases hI : isFeat x
 · exact .inl ⟨rfl, by simp [srcAt, hx, hI]⟩
 · rcases Nat.eq_zero_or_pos i with h0 | h0
   · subst h0
     exact .inr (.inl ⟨rfl, by simp, by simp [srcAt, hx, hI]⟩)
   · have e : IntKind.i64.wrap ((i : Int) - 1) = ((i - 1 : Nat) : Int) := by rw [w64 (by omega) (by omega)]; omega
     refine .inr (.inr ⟨rfl, decide_eq_true (by omega), by omega, ?_, ?_⟩)
     · rw [e, Int.toNat_natCast, List.getElem?_map, List.getElem?_eq_getElem (show i - 1 < l.length by omega)]
       simp [prevF, List.getD_eq_getElem?_getD, List.getElem?_eq_getElem (show i - 1 < l.length by omega)]
     · have : (i == 0) = false := by simp; omega
       simp [srcAt, hx, hI, this]

theorem isSimple_s (l : List TPoint) (hl : l.length ≤ 1048576) : VCalls Tryz.prog 171 [.ro 2 (l.map TPoint.en)] (fun r M => r = B (isSimple l) ∧ M = []) := by
 refine VB Tryz.func171 36 (fun E hE => ?_)
 have hclo : Clo (.ro 2 (l.map TPoint.en)) := clo_list TPoint.clo_en
 have hclS : Clo (.ro 4 ((segs l).map TSegment.en)) := clo_list TSegment.clo_en
 have hsl := segs_le l
 have hclo : Clo (.ro 2 (l.map TPoint.en)) := clo_list TPoint.clo_en
 have hclS : Clo (.ro 4 ((segs l).map TSegment.en)) := clo_list TSegment.clo_en
 have hsl := segs_le l
 repeat' ((first
  | (refine iAL ?_; first | refine AL.any ?_ | refine AL.any (h := POp.k Tryz.func173 (hc := segs_s _ (by assumption))) ?_ | refine AL.nil ?_)
  | (refine iAW ?_; first | (refine AW.c0 ?_; constructor) | (refine AW.loopD hE (fun i : Nat => [.ro 2 (l.map TPoint.en), .any, .any, .ro 4 ((segs l).map TSegment.en), I (i : Int), .any, .any, .any, .any, .any, .any, .any, .any, .any, .any, .any, .any, .any, .any, .any, .any, .any, .any, .any, .any, .any, .any, .any, .any, .any, .any, .any, .any, .any, .any, .any, .any]) (fun i => []) (fun i => (segs l).length - i) (fun i => i ≤ (segs l).length ∧ smOk l i = true) 0 ⟨Nat.zero_le _, by simp [smOk]⟩ ?_ (by first | rfl | (simp; done)) ?_))) <;> (try dsimp only))
 · (refine wkj ?_; repeat' with_reducible constructor) <;> first | rfl | (simp; done)
 · intro i hv_i
   have hclo : Clo (.ro 2 (l.map TPoint.en)) := clo_list TPoint.clo_en
   have hclS : Clo (.ro 4 ((segs l).map TSegment.en)) := clo_list TSegment.clo_en
   have hsl := segs_le l
   by_cases hlt_i : i < (segs l).length
   · skip
     obtain ⟨x, hx⟩ : ∃ x, (segs l)[i]? = some x := ⟨_, List.getElem?_eq_getElem hlt_i⟩
     have hgx := map_get (f := TSegment.en) hx
     have hti := lt_true (f := TSegment.en) hlt_i
     have hni := next_ix hlt_i (by omega)
     have hro := smOk_succ l i
     have hsx := gAt_of hx
     repeat' ((first
      | (refine iAL ?_; first | refine AL.any ?_ | refine AL.any (h := POp.k Tryz.func173 (hc := segs_s _ (by assumption))) ?_ | refine AL.any (h := POp.k Tryz.func238 (hc := isLine_s _ (by assumption))) ?_ | refine AL.nil ?_)
      | ((with_reducible show DL ..); first | refine DL.any ?_ | refine DL.any (h := POp.k Tryz.func223 (hc := meet_s x y)) ?_ | refine DL.nil ?_)
      | (refine iAW ?_; first | (refine AW.c0 ?_; constructor) | (refine AW.loopD hE (fun k : Nat => [.ro 2 (l.map TPoint.en), .any, .any, .ro 4 ((segs l).map TSegment.en), I (i : Int), I (k : Int), .any, .any, .any, .any, .any, .any, .any, .any, .any, .any, .any, .any, .any, .any, .any, .any, .any, .any, .any, .any, .any, .any, .any, .any, .any, .any, .any, .any, .any, .any, .any]) (fun k => []) (fun k => i - k) (fun k => k ≤ i ∧ smIn l i k = true) 0 ⟨Nat.zero_le _, by simp [smIn]⟩ ?_ (by first | rfl | (simp; done)) ?_) | refine AW.dr (id := 11) 10 ?_ | refine AW.cT ?_ | refine AW.cF ?_ | (refine AW.c2 ?_ ?_ <;> (intro h; try simp only [bT, bF] at h)))
      | with_reducible refine ifP ?_
      | with_reducible refine ifN ?_) <;> (try dsimp only))
     · (refine wkj ?_; repeat' with_reducible constructor) <;> first | rfl | (simp; done)
     · intro k hv_k
       have hclo : Clo (.ro 2 (l.map TPoint.en)) := clo_list TPoint.clo_en
       have hclS : Clo (.ro 4 ((segs l).map TSegment.en)) := clo_list TSegment.clo_en
       have hsl := segs_le l
       by_cases hlt_k : k < i
       · skip
         obtain ⟨y, hy⟩ : ∃ y, (segs l)[k]? = some y := ⟨_, List.getElem?_eq_getElem (by omega)⟩
         have hgy := map_get (f := TSegment.en) hy
         have htk : decide ((k : Int) < (i : Int)) = true := by simp; omega
         have hnk := next_ix hlt_k (by omega)
         have hsy := gAt_of hy
         have hrk : smIn l i (k + 1) = (smIn l i k && (hmI x y == wantL i k)) := by rw [smIn_succ, hsx, hsy]
         rcases wantL_s (i := i) (k := k) hlt_k (by omega) with ⟨w1, wN⟩ | ⟨w1, wN⟩
         all_goals
          repeat' ((first
           | (refine iAL ?_; first | refine AL.any ?_ | refine AL.any (h := POp.k Tryz.func173 (hc := segs_s _ (by assumption))) ?_ | refine AL.any (h := POp.k Tryz.func238 (hc := isLine_s _ (by assumption))) ?_ | refine AL.nil ?_)
           | ((with_reducible show DL ..); first | refine DL.any ?_ | refine DL.any (h := POp.k Tryz.func223 (hc := meet_s x y)) ?_ | refine DL.nil ?_)
           | (refine iAW ?_; first | (refine AW.c0 ?_; constructor) | refine AW.dr (id := 11) 10 ?_ | refine AW.cT ?_ | refine AW.cF ?_ | (refine AW.c2 ?_ ?_ <;> (intro h; try simp only [bT, bF] at h)))
           | with_reducible refine ifP ?_
           | with_reducible refine ifN ?_) <;> (try dsimp only))
          all_goals first
           | (refine ⟨k + 1, _, ⟨hlt_k, by simp_all⟩, by omega, ?_, rfl, ?_, ?_⟩; (focus ((refine wkj ?_; repeat' with_reducible constructor) <;> (simp_all))); (focus (exact fitsA)); (focus (exact FitsM.nil _)))
           | exact Fin.one rfl (RV.tmp (by rfl)) (clo_c _) ⟨by have e1 := smIn_not (l := l) (i := i) (k := k) (n := i) (by simp_all) hlt_k; have e2 := smOk_not (l := l) (i := i) (n := (segs l).length) (by simp_all) (by omega); simp_all [isSimple], rfl⟩
       · have e_k : k = i := by omega
         have htk : decide ((k : Int) < (i : Int)) = false := by simp; omega
         have e2 := e_k.symm
         subst e2
         repeat' ((first
          | (refine iAL ?_; first | refine AL.any ?_ | refine AL.any (h := POp.k Tryz.func173 (hc := segs_s _ (by assumption))) ?_ | refine AL.any (h := POp.k Tryz.func238 (hc := isLine_s _ (by assumption))) ?_ | refine AL.nil ?_)
          | ((with_reducible show DL ..); first | refine DL.any ?_ | refine DL.any (h := POp.k Tryz.func223 (hc := meet_s x y)) ?_ | refine DL.nil ?_)
          | (refine iAW ?_; first | (refine AW.c0 ?_; constructor) | refine AW.dr (id := 11) 10 ?_ | refine AW.cT ?_ | refine AW.cF ?_ | (refine AW.c2 ?_ ?_ <;> (intro h; try simp only [bT, bF] at h)))
          | with_reducible refine ifP ?_
          | with_reducible refine ifN ?_) <;> (try dsimp only))
         all_goals first
          | (refine ⟨i + 1, _, ⟨hlt_i, by simp_all⟩, by omega, ?_, rfl, ?_, ?_⟩; (focus ((refine wkj ?_; repeat' with_reducible constructor) <;> (simp_all))); (focus (exact fitsA)); (focus (exact FitsM.nil _)))
   · have e_i : i = (segs l).length := by omega
     have hti := lt_false (f := TSegment.en) (show ¬ i < (segs l).length by omega)
     have e2 := e_i.symm
     subst e2
     repeat' ((first
      | (refine iAL ?_; first | refine AL.any ?_ | refine AL.any (h := POp.k Tryz.func173 (hc := segs_s _ (by assumption))) ?_ | refine AL.any (h := POp.k Tryz.func238 (hc := isLine_s _ (by assumption))) ?_ | refine AL.nil ?_)
      | ((with_reducible show DL ..); first | refine DL.any ?_ | refine DL.any (h := POp.k Tryz.func223 (hc := meet_s x y)) ?_ | refine DL.nil ?_)
      | (refine iAW ?_; first | (refine AW.c0 ?_; constructor) | refine AW.dr (id := 11) 10 ?_ | refine AW.cT ?_ | refine AW.cF ?_ | (refine AW.c2 ?_ ?_ <;> (intro h; try simp only [bT, bF] at h)))
      | with_reducible refine ifP ?_
      | with_reducible refine ifN ?_) <;> (try dsimp only))
     all_goals first
      | exact Fin.one rfl (RV.tmp (by rfl)) (clo_c _) ⟨by simp_all [isSimple], rfl⟩

theorem isSimple_i (l : List TPoint) (hl : l.length ≤ 1048576) : VCalls Tryz.prog 181 [.ro 2 (l.map TPoint.en)] (fun r M => r = B (isSimple l) ∧ M = []) := by
 refine VB Tryz.func181 37 (fun E hE => ?_)
 have hclo : Clo (.ro 2 (l.map TPoint.en)) := clo_list TPoint.clo_en
 have hclS : Clo (.ro 4 ((segs l).map TSegment.en)) := clo_list TSegment.clo_en
 have hsl := segs_le l
 have hclo : Clo (.ro 2 (l.map TPoint.en)) := clo_list TPoint.clo_en
 have hclS : Clo (.ro 4 ((segs l).map TSegment.en)) := clo_list TSegment.clo_en
 have hsl := segs_le l
 repeat' ((first
  | (refine iAL ?_; first | refine AL.any ?_ | refine AL.any (h := POp.k Tryz.func245 (hc := isLine_i _ (by assumption))) ?_ | refine AL.any (h := POp.k Tryz.func246 (hc := segs_i _ (by assumption))) ?_ | refine AL.nil ?_)
  | (refine iAW ?_; first | (refine AW.c0 ?_; constructor) | (refine AW.loopD hE (fun i : Nat => [.ro 2 (l.map TPoint.en), .any, .any, .ro 4 ((segs l).map TSegment.en), .any, .any, .any, .any, .any, .any, .any, .any, .any, I (((segs l).map TSegment.en).length : Int), I (i : Int), .any, .any, .any, .any, .any, .any, .any, .any, .any, .any, .any, .any, .any, .any, .any, .any, .any, .any, .any, .any, .any, .any, .any]) (fun i => []) (fun i => (segs l).length - i) (fun i => i ≤ (segs l).length ∧ smOk l i = true) 0 ⟨Nat.zero_le _, by simp [smOk]⟩ ?_ (by first | rfl | (simp; done)) ?_) | (refine AW.c2 ?_ ?_ <;> (intro h; try simp only [bT, bF] at h)))) <;> (try dsimp only))
 any_goals first | exact Fin.one rfl (RV.tmp (by rfl)) (clo_c _) ⟨by simp_all [isSimple], rfl⟩
 · (refine wkj ?_; repeat' with_reducible constructor) <;> first | rfl | (simp; done)
 · intro i hv_i
   have hclo : Clo (.ro 2 (l.map TPoint.en)) := clo_list TPoint.clo_en
   have hclS : Clo (.ro 4 ((segs l).map TSegment.en)) := clo_list TSegment.clo_en
   have hsl := segs_le l
   by_cases hlt_i : i < (segs l).length
   · skip
     obtain ⟨x, hx⟩ : ∃ x, (segs l)[i]? = some x := ⟨_, List.getElem?_eq_getElem hlt_i⟩
     have hgx := map_get (f := TSegment.en) hx
     have hti := lt_true (f := TSegment.en) hlt_i
     have hni := next_ix hlt_i (by omega)
     have hro := smOk_succ l i
     have hsx := gAt_of hx
     repeat' ((first
      | (refine iAL ?_; first | refine AL.any ?_ | refine AL.any (h := POp.k Tryz.func245 (hc := isLine_i _ (by assumption))) ?_ | refine AL.any (h := POp.k Tryz.func246 (hc := segs_i _ (by assumption))) ?_ | refine AL.nil ?_)
      | ((with_reducible show DL ..); first | refine DL.any ?_ | refine DL.any (h := POp.k Tryz.func247 (hc := meet_i x y)) ?_ | refine DL.nil ?_)
      | (refine iAW ?_; first | (refine AW.c0 ?_; constructor) | (refine AW.loopD hE (fun k : Nat => [.ro 2 (l.map TPoint.en), .any, .any, .ro 4 ((segs l).map TSegment.en), I (i : Int), .any, .any, .any, .any, .any, .any, .any, .any, I (((segs l).map TSegment.en).length : Int), I (i : Int), .any, .any, I (i : Int), I (k : Int), .any, .any, .any, .any, .any, .any, .any, .any, .any, .any, .any, .any, .any, .any, .any, .any, .any, .any, .any]) (fun k => []) (fun k => i - k) (fun k => k ≤ i ∧ smIn l i k = true) 0 ⟨Nat.zero_le _, by simp [smIn]⟩ ?_ (by first | rfl | (simp; done)) ?_) | refine AW.dr (id := 13) 10 ?_ | refine AW.cT ?_ | refine AW.cF ?_ | (refine AW.c2 ?_ ?_ <;> (intro h; try simp only [bT, bF] at h)))
      | with_reducible refine ifP ?_
      | with_reducible refine ifN ?_) <;> (try dsimp only))
     · (refine wkj ?_; repeat' with_reducible constructor) <;> first | rfl | (simp; done)
     · intro k hv_k
       have hclo : Clo (.ro 2 (l.map TPoint.en)) := clo_list TPoint.clo_en
       have hclS : Clo (.ro 4 ((segs l).map TSegment.en)) := clo_list TSegment.clo_en
       have hsl := segs_le l
       by_cases hlt_k : k < i
       · skip
         obtain ⟨y, hy⟩ : ∃ y, (segs l)[k]? = some y := ⟨_, List.getElem?_eq_getElem (by omega)⟩
         have hgy := map_get (f := TSegment.en) hy
         have htk : decide ((k : Int) < (i : Int)) = true := by simp; omega
         have hnk := next_ix hlt_k (by omega)
         have hsy := gAt_of hy
         have hrk : smIn l i (k + 1) = (smIn l i k && (hmI x y == wantL i k)) := by rw [smIn_succ, hsx, hsy]
         rcases wantL_i (i := i) (k := k) hlt_k (by omega) with ⟨w1, wN⟩ | ⟨w1, wN⟩
         all_goals
          repeat' ((first
           | (refine iAL ?_; first | refine AL.any ?_ | refine AL.any (h := POp.k Tryz.func245 (hc := isLine_i _ (by assumption))) ?_ | refine AL.any (h := POp.k Tryz.func246 (hc := segs_i _ (by assumption))) ?_ | refine AL.nil ?_)
           | ((with_reducible show DL ..); first | refine DL.any ?_ | refine DL.any (h := POp.k Tryz.func247 (hc := meet_i x y)) ?_ | refine DL.nil ?_)
           | (refine iAW ?_; first | (refine AW.c0 ?_; constructor) | refine AW.dr (id := 13) 10 ?_ | refine AW.cT ?_ | refine AW.cF ?_ | (refine AW.c2 ?_ ?_ <;> (intro h; try simp only [bT, bF] at h)))
           | with_reducible refine ifP ?_
           | with_reducible refine ifN ?_) <;> (try dsimp only))
          all_goals first
           | (refine ⟨k + 1, _, ⟨hlt_k, by simp_all⟩, by omega, ?_, rfl, ?_, ?_⟩; (focus ((refine wkj ?_; repeat' with_reducible constructor) <;> (simp_all))); (focus (exact fitsA)); (focus (exact FitsM.nil _)))
           | exact Fin.one rfl (RV.tmp (by rfl)) (clo_c _) ⟨by have e1 := smIn_not (l := l) (i := i) (k := k) (n := i) (by simp_all) hlt_k; have e2 := smOk_not (l := l) (i := i) (n := (segs l).length) (by simp_all) (by omega); simp_all [isSimple], rfl⟩
       · have e_k : k = i := by omega
         have htk : decide ((k : Int) < (i : Int)) = false := by simp; omega
         have e2 := e_k.symm
         subst e2
         repeat' ((first
          | (refine iAL ?_; first | refine AL.any ?_ | refine AL.any (h := POp.k Tryz.func245 (hc := isLine_i _ (by assumption))) ?_ | refine AL.any (h := POp.k Tryz.func246 (hc := segs_i _ (by assumption))) ?_ | refine AL.nil ?_)
          | ((with_reducible show DL ..); first | refine DL.any ?_ | refine DL.any (h := POp.k Tryz.func247 (hc := meet_i x y)) ?_ | refine DL.nil ?_)
          | (refine iAW ?_; first | (refine AW.c0 ?_; constructor) | refine AW.dr (id := 13) 10 ?_ | refine AW.cT ?_ | refine AW.cF ?_ | (refine AW.c2 ?_ ?_ <;> (intro h; try simp only [bT, bF] at h)))
          | with_reducible refine ifP ?_
          | with_reducible refine ifN ?_) <;> (try dsimp only))
         all_goals first
          | (refine ⟨i + 1, _, ⟨hlt_i, by simp_all⟩, by omega, ?_, rfl, ?_, ?_⟩; (focus ((refine wkj ?_; repeat' with_reducible constructor) <;> (simp_all))); (focus (exact fitsA)); (focus (exact FitsM.nil _)))
   · have e_i : i = (segs l).length := by omega
     have hti := lt_false (f := TSegment.en) (show ¬ i < (segs l).length by omega)
     have e2 := e_i.symm
     subst e2
     repeat' ((first
      | (refine iAL ?_; first | refine AL.any ?_ | refine AL.any (h := POp.k Tryz.func245 (hc := isLine_i _ (by assumption))) ?_ | refine AL.any (h := POp.k Tryz.func246 (hc := segs_i _ (by assumption))) ?_ | refine AL.nil ?_)
      | ((with_reducible show DL ..); first | refine DL.any ?_ | refine DL.any (h := POp.k Tryz.func247 (hc := meet_i x y)) ?_ | refine DL.nil ?_)
      | (refine iAW ?_; first | (refine AW.c0 ?_; constructor) | refine AW.dr (id := 13) 10 ?_ | refine AW.cT ?_ | refine AW.cF ?_ | (refine AW.c2 ?_ ?_ <;> (intro h; try simp only [bT, bF] at h)))
      | with_reducible refine ifP ?_
      | with_reducible refine ifN ?_) <;> (try dsimp only))
     all_goals first
      | exact Fin.one rfl (RV.tmp (by rfl)) (clo_c _) ⟨by simp_all [isSimple], rfl⟩

theorem isName_s (s : ByteArray) (hs : s.size ≤ maxLen) : VCalls Tryz.prog 169 [S s] (fun r M => r = B (isName s) ∧ M = []) := by
 refine VB Tryz.func169 22 (fun E hE => ?_)
 rw [maxLen_eq] at hs
 repeat' ((first
  | (refine iAL ?_; first | refine AL.any ?_ | refine AL.any (h := POp.k Tryz.func96 (hc := inr_s _ _ _)) ?_ | refine AL.W ?_ | refine AL.nil ?_)
  | (refine iAW ?_; first | (refine AW.c0 ?_; constructor) | refine AW.cT ?_ | refine AW.cF ?_ | (refine AW.c2 ?_ ?_ <;> (intro h; try simp only [bT, bF] at h)))
  | (
 refine AW.loopD hE (fun i : Nat => [S s, .any, .any, I (i : Int), .any, .any, .any, .any, .any, .any, .any, .any, .any, .any, .any, .any, .any, .any, .any, .any, .any, .any, .any]) (fun i => []) (fun i => s.size - i) (fun i => i ≤ s.size ∧ nmTo s i = true) 0 ⟨Nat.zero_le _, by simp [nmTo]⟩ ?_ (by first | rfl | (simp [fil_zero]; done)) ?_
 (focus (exact wkI))
 intro i hi
 by_cases hlt : i < s.size
 case' pos =>
  have hP := True.intro
  obtain ⟨b, hb, hb'⟩ := byte_get hlt
  have ht := bytes_lt hlt
  have hn := next_ix hlt (by omega)
  have hc := nmAt_some hb
  have hsu := nmTo_succ s i
 case' neg =>
  have hQ := True.intro
  have e : i = s.size := by omega
  have ht := bytes_ge hlt
  subst e)) <;> (try dsimp only))
 all_goals first
  | (have _ := hP; (refine ⟨i + 1, _, ⟨hlt, by simp_all⟩, by omega, ?_, rfl, ?_, ?_⟩; (focus (exact wkN)); (focus (exact fitsA)); (focus (exact FitsM.nil _))))
  | (have _ := hP; exact Fin.one rfl (RV.tmp (by rfl)) (clo_c _) ⟨by have hn := nmTo_not (n := s.size) (by simp_all : nmAt s i = false) hlt; simp_all [isName], rfl⟩)
  | (have _ := hQ; exact Fin.one rfl (RV.tmp (by rfl)) (clo_c _) ⟨by simp_all [isName], rfl⟩)

theorem isName_i (s : ByteArray) (hs : s.size ≤ maxLen) : VCalls Tryz.prog 179 [S s] (fun r M => r = B (isName s) ∧ M = []) := by
 refine VB Tryz.func179 22 (fun E hE => ?_)
 rw [maxLen_eq] at hs
 repeat' ((first
  | (refine iAL ?_; first | refine AL.any ?_ | refine AL.any (h := POp.k Tryz.func145 (hc := inr_v _ _ _)) ?_ | refine AL.W ?_ | refine AL.nil ?_)
  | (refine iAW ?_; first | (refine AW.c0 ?_; constructor) | refine AW.cT ?_ | refine AW.cF ?_ | (refine AW.c2 ?_ ?_ <;> (intro h; try simp only [bT, bF] at h)))
  | (
 refine AW.loopD hE (fun i : Nat => [S s, .any, .any, .any, .any, I (s.size : Int), I (i : Int), .any, .any, .any, .any, .any, .any, .any, .any, .any, .any, .any, .any, .any, .any, .any, .any]) (fun i => []) (fun i => s.size - i) (fun i => i ≤ s.size ∧ nmTo s i = true) 0 ⟨Nat.zero_le _, by simp [nmTo]⟩ ?_ (by first | rfl | (simp [fil_zero]; done)) ?_
 (focus (exact wkI))
 intro i hi
 by_cases hlt : i < s.size
 case' pos =>
  have hP := True.intro
  obtain ⟨b, hb, hb'⟩ := byte_get hlt
  have ht := bytes_lt hlt
  have hn := next_ix hlt (by omega)
  have hc := nmAt_some hb
  have hsu := nmTo_succ s i
 case' neg =>
  have hQ := True.intro
  have e : i = s.size := by omega
  have ht := bytes_ge hlt
  subst e)) <;> (try dsimp only))
 all_goals first
  | (have _ := hP; (refine ⟨i + 1, _, ⟨hlt, by simp_all⟩, by omega, ?_, rfl, ?_, ?_⟩; (focus (exact wkN)); (focus (exact fitsA)); (focus (exact FitsM.nil _))))
  | (have _ := hP; exact Fin.one rfl (RV.tmp (by rfl)) (clo_c _) ⟨by have hn := nmTo_not (n := s.size) (by simp_all : nmAt s i = false) hlt; simp_all [isName], rfl⟩)
  | (have _ := hQ; exact Fin.one rfl (RV.tmp (by rfl)) (clo_c _) ⟨by simp_all [isName], rfl⟩)

theorem isFeat_s (x : TFeature) (hg : x.gd) : VCalls Tryz.prog 109 [.agg x.en] (fun r M => r = B (isFeat x) ∧ M = []) := by
 refine VB Tryz.func109 48 (fun E hE => ?_)
 obtain ⟨hp1, hn1⟩ := id hg
 have hclP : Clo (.ro 2 (x.points.map TPoint.en)) := clo_list TPoint.clo_en
 have hcle : Clo (.agg x.en) := Clo.agg x.clo_en
 rcases feat_cases x with h1 | ⟨h1, h2⟩ | ⟨h1, h2, h3, h4⟩ | ⟨h1, h2, h3⟩ | ⟨h1, h2, h3, h4⟩
 all_goals rcases len1 x.points with ⟨h5, h6, hg0⟩ | ⟨h5, h6⟩
 repeat' ((first
  | (refine iAL ?_; first | refine AL.any ?_ | refine AL.any (h := POp.k Tryz.func96 (hc := inr_s _ _ _)) ?_ | refine AL.any (h := POp.k Tryz.func171 (hc := isSimple_s _ (by assumption))) ?_ | refine AL.any (h := POp.k Tryz.func172 (hc := isRing_s _ (by assumption))) ?_ | refine AL.U ?_ | refine AL.F ?_ | refine AL.T ?_ | refine AL.T (h := POp.k Tryz.func96 (hc := inr_s _ _ _)) ?_ | refine AL.T (h := POp.k Tryz.func169 (hc := isName_s _ (by assumption))) ?_ | refine AL.T (h := POp.k Tryz.func170 (hc := by first | exact isp_s_t _ _ (by assumption) | exact isp_s_f _ _ (by assumption) | exact isp_s _ _)) ?_ | refine AL.nil ?_)
  | (refine iAW ?_; first | (refine AW.c0 ?_; constructor) | refine AW.cT ?_ | refine AW.cF ?_ | (refine AW.c2 ?_ ?_ <;> (intro h; try simp only [bT, bF] at h)))) <;> (try dsimp only))
 all_goals exact Fin.one rfl (RV.tmp (by rfl)) (clo_c _) ⟨by first | (simp_all [isFeat, kindOk, noName]; done), rfl⟩

theorem isFeat_i (x : TFeature) (hg : x.gd) : VCalls Tryz.prog 119 [.agg x.en] (fun r M => r = B (isFeat x) ∧ M = []) := by
 refine VB Tryz.func119 48 (fun E hE => ?_)
 obtain ⟨hp1, hn1⟩ := id hg
 have hclP : Clo (.ro 2 (x.points.map TPoint.en)) := clo_list TPoint.clo_en
 have hcle : Clo (.agg x.en) := Clo.agg x.clo_en
 rcases feat_cases x with h1 | ⟨h1, h2⟩ | ⟨h1, h2, h3, h4⟩ | ⟨h1, h2, h3⟩ | ⟨h1, h2, h3, h4⟩
 all_goals rcases len1 x.points with ⟨h5, h6, hg0⟩ | ⟨h5, h6⟩
 repeat' ((first
  | (refine iAL ?_; first | refine AL.any ?_ | refine AL.any (h := POp.k Tryz.func145 (hc := inr_v _ _ _)) ?_ | refine AL.any (h := POp.k Tryz.func181 (hc := isSimple_i _ (by assumption))) ?_ | refine AL.any (h := POp.k Tryz.func182 (hc := isRing_i _ (by assumption))) ?_ | refine AL.U ?_ | refine AL.F ?_ | refine AL.T ?_ | refine AL.T (h := POp.k Tryz.func145 (hc := inr_v _ _ _)) ?_ | refine AL.T (h := POp.k Tryz.func179 (hc := isName_i _ (by assumption))) ?_ | refine AL.T (h := POp.k Tryz.func180 (hc := by first | exact isp_v_t _ _ (by assumption) | exact isp_v_f _ _ (by assumption) | exact isp_v _ _)) ?_ | refine AL.nil ?_)
  | (refine iAW ?_; first | (refine AW.c0 ?_; constructor) | refine AW.cT ?_ | refine AW.cF ?_ | (refine AW.c2 ?_ ?_ <;> (intro h; try simp only [bT, bF] at h)))) <;> (try dsimp only))
 all_goals exact Fin.one rfl (RV.tmp (by rfl)) (clo_c _) ⟨by first | (simp_all [isFeat, kindOk, noName]; done), rfl⟩

theorem isSource_s (l : List TFeature) (hl : l.length ≤ 1048576) (hp : ∀ x ∈ l, x.gd) : VCalls Tryz.prog 78 [.ro 5 (l.map TFeature.en)] (fun r M => r = B (isSource l) ∧ M = []) := by
 refine VB Tryz.func78 36 (fun E hE => ?_)
 have hclo : Clo (.ro 5 (l.map TFeature.en)) := clo_list TFeature.clo_en
 repeat' ((first
  | (refine iAL ?_; first | refine AL.any ?_ | refine AL.U ?_ | refine AL.F ?_ | refine AL.T ?_ | refine AL.nil ?_)
  | ((with_reducible show DL ..); first | refine DL.any ?_ | refine DL.any (h := POp.k Tryz.func109 (hc := isFeat_s x (by assumption))) ?_ | refine DL.U ?_ | refine DL.F ?_ | refine DL.T ?_ | refine DL.nil ?_)
  | (refine iAW ?_; first | (refine AW.c0 ?_; constructor) | refine AW.dr (id := 4) 21 ?_ | refine AW.cT ?_ | refine AW.cF ?_ | (refine AW.c2 ?_ ?_ <;> (intro h; try simp only [bT, bF] at h)))
  | (
 refine AW.loopD hE (fun i : Nat => [.ro 5 (l.map TFeature.en), .any, .any, I (i : Int), .any, .any, .any, .any, .any, .any, .any, .any, .any, .any, .any, .any, .any, .any, .any, .any, .any, .any, .any, .any, .any, .any, .any, .any, .any, .any, .any, .any, .any, .any, .any, .any, .any]) (fun i => []) (fun i => l.length - i) (fun i => i ≤ l.length ∧ srcOk l i = true) 0 (by simp [srcOk]) ?_ (by first | rfl | (simp [fil_zero]; done)) ?_
 (focus (exact wkI))
 intro i hi
 by_cases hlt : i < l.length
 case' pos =>
  have hP := True.intro
  obtain ⟨x, hx⟩ : ∃ x, l[i]? = some x := ⟨_, List.getElem?_eq_getElem hlt⟩
  have hg := map_get (f := TFeature.en) hx
  have ht := lt_true (f := TFeature.en) hlt
  have hn := next_ix hlt (by omega)
  have hgx := hp x (List.mem_of_getElem? hx)
  have hclP : Clo (.ro 2 (x.points.map TPoint.en)) := clo_list TPoint.clo_en
  have hcle : Clo (.agg x.en) := Clo.agg x.clo_en
  have hsu := srcOk_succ l i
  rcases src_cases hx hl with ⟨hI, hk⟩ | ⟨hI, hz, hk⟩ | ⟨hI, hz, h0, hp0, hk⟩
 case' neg =>
  have hQ := True.intro
  have ht := lt_false (f := TFeature.en) hlt
  have e : i = l.length := by omega
  subst e
  try rw [List.take_length])) <;> (try dsimp only))
 all_goals first
  | (have _ := hP; (refine ⟨i + 1, _, ⟨hlt, by simp_all <;> omega⟩, by omega, ?_, rfl, ?_, ?_⟩; (focus (exact wkN)); (focus (exact fitsA)); (focus (exact FitsM.nil _))))
  | (have _ := hP; exact Fin.one rfl (RV.tmp (by rfl)) (clo_c _) ⟨by have hn := srcOk_not (n := l.length) (by simp_all <;> omega : srcAt l i = false) hlt; simp_all [isSource], rfl⟩)
  | (have _ := hQ; exact Fin.one rfl (RV.tmp (by rfl)) (clo_c _) ⟨by first | (simp_all [isSource]; done) | (simp_all [isSource] <;> omega), rfl⟩)

theorem isSource_i (l : List TFeature) (hl : l.length ≤ 1048576) (hp : ∀ x ∈ l, x.gd) : VCalls Tryz.prog 80 [.ro 5 (l.map TFeature.en)] (fun r M => r = B (isSource l) ∧ M = []) := by
 refine VB Tryz.func80 33 (fun E hE => ?_)
 have hclo : Clo (.ro 5 (l.map TFeature.en)) := clo_list TFeature.clo_en
 repeat' ((first
  | (refine iAL ?_; first | refine AL.any ?_ | refine AL.U ?_ | refine AL.F ?_ | refine AL.T ?_ | refine AL.nil ?_)
  | ((with_reducible show DL ..); first | refine DL.any ?_ | refine DL.any (h := POp.k Tryz.func119 (hc := isFeat_i x (by assumption))) ?_ | refine DL.U ?_ | refine DL.F ?_ | refine DL.T ?_ | refine DL.nil ?_)
  | (refine iAW ?_; first | (refine AW.c0 ?_; constructor) | refine AW.dr (id := 6) 15 ?_ | refine AW.cT ?_ | refine AW.cF ?_ | (refine AW.c2 ?_ ?_ <;> (intro h; try simp only [bT, bF] at h)))
  | (
 refine AW.loopD hE (fun i : Nat => [.ro 5 (l.map TFeature.en), .any, .any, .any, .any, .any, .any, .any, .ro 5 (l.map TFeature.en), I ((l.map TFeature.en).length : Int), I (i : Int), .any, .any, .any, .any, .any, .any, .any, .any, .any, .any, .any, .any, .any, .any, .any, .any, .any, .any, .any, .any, .any, .any, .any]) (fun i => []) (fun i => l.length - i) (fun i => i ≤ l.length ∧ srcOk l i = true) 0 (by simp [srcOk]) ?_ (by first | rfl | (simp [fil_zero]; done)) ?_
 (focus (exact wkI))
 intro i hi
 by_cases hlt : i < l.length
 case' pos =>
  have hP := True.intro
  obtain ⟨x, hx⟩ : ∃ x, l[i]? = some x := ⟨_, List.getElem?_eq_getElem hlt⟩
  have hg := map_get (f := TFeature.en) hx
  have ht := lt_true (f := TFeature.en) hlt
  have hn := next_ix hlt (by omega)
  have hgx := hp x (List.mem_of_getElem? hx)
  have hclP : Clo (.ro 2 (x.points.map TPoint.en)) := clo_list TPoint.clo_en
  have hcle : Clo (.agg x.en) := Clo.agg x.clo_en
  have hsu := srcOk_succ l i
  rcases src_cases hx hl with ⟨hI, hk⟩ | ⟨hI, hz, hk⟩ | ⟨hI, hz, h0, hp0, hk⟩
 case' neg =>
  have hQ := True.intro
  have ht := lt_false (f := TFeature.en) hlt
  have e : i = l.length := by omega
  subst e
  try rw [List.take_length])) <;> (try dsimp only))
 all_goals first
  | (have _ := hP; (refine ⟨i + 1, _, ⟨hlt, by simp_all <;> omega⟩, by omega, ?_, rfl, ?_, ?_⟩; (focus (exact wkN)); (focus (exact fitsA)); (focus (exact FitsM.nil _))))
  | (have _ := hP; exact Fin.one rfl (RV.tmp (by rfl)) (clo_c _) ⟨by have hn := srcOk_not (n := l.length) (by simp_all <;> omega : srcAt l i = false) hlt; simp_all [isSource], rfl⟩)
  | (have _ := hQ; exact Fin.one rfl (RV.tmp (by rfl)) (clo_c _) ⟨by first | (simp_all [isSource]; done) | (simp_all [isSource] <;> omega), rfl⟩)
  | (exact Fin.one rfl (RV.tmp (by rfl)) (clo_c _) ⟨by simp_all [isSource] <;> omega, rfl⟩)

theorem ringSegs_s (l : List TPoint) (hl : l.length ≤ 1048576) : VCalls Tryz.prog 174 [.ro 2 (l.map TPoint.en)] (fun r M => r = .ro 4 ((ringSegs l).map TSegment.en) ∧ M = []) := by
 refine VB Tryz.func174 8 (fun E hE => ?_)
 have hclo : Clo (.ro 2 (l.map TPoint.en)) := clo_list TPoint.clo_en
 have hclS : Clo (.ro 4 ((segs l).map TSegment.en)) := clo_list TSegment.clo_en
 have hsl := segs_le l
 have hclA : Clo (.ro 4 ((arnd l).map TSegment.en)) := clo_list TSegment.clo_en
 repeat' ((first
  | (refine iAL ?_; first | refine AL.any ?_ | refine AL.any (h := POp.k Tryz.func172 (hc := isRing_s _ (by assumption))) ?_ | refine AL.any (h := POp.k Tryz.func239 (hc := arnd_s _ (by assumption))) ?_ | refine AL.nil ?_)
  | (refine iAW ?_; first | (refine AW.freezeRet (t := 2) (id := 0) rfl rfl rfl rfl clo_rows_nil ?_; (try simp only [List.take_length]); try dsimp only [dput, List.set, cond_true, cond_false, Nat.zero_add, Nat.add_zero, Nat.reduceAdd, splice, List.take, List.drop, List.length, List.nil_append, List.cons_append, List.append, TPoint.en, TSegment.en, TBox.en, TFeature.en, TMeet.en, TPlace.en, TCover.en, TLabel.en, TPiece.en, TLevel.en, TChart.en, TReason.en, TEdit.en, TEntry.en, TEdition.en, TListing.en, TAtlas.en, TEvent.en, TWindow.en]) | (refine AW.c0 ?_; constructor) | (refine AW.c2 ?_ ?_ <;> (intro h; try simp only [bT, bF] at h)))) <;> (try dsimp only))
 all_goals first | exact Fin.one rfl (RV.tmp (by rfl)) (Clo.ro fun r hr => by simp at hr) ⟨by rw [ringSegs_f (by assumption)]; rfl, rfl⟩ | exact Fin.one rfl (RV.tmp (by rfl)) (clo_list TSegment.clo_en) ⟨by rw [ringSegs_t (by assumption)], rfl⟩

theorem parts_s (x : TFeature) (hg : x.gd) : VCalls Tryz.prog 110 [.agg x.en] (fun r M => r = .ro 4 ((partsOf x).map TSegment.en) ∧ M = []) := by
 refine VB Tryz.func110 19 (fun E hE => ?_)
 obtain ⟨hp1, hn1⟩ := id hg
 have hclP : Clo (.ro 2 (x.points.map TPoint.en)) := clo_list TPoint.clo_en
 have hcle : Clo (.agg x.en) := Clo.agg x.clo_en
 have hclS : Clo (.ro 4 ((segs x.points).map TSegment.en)) := clo_list TSegment.clo_en
 have hclR : Clo (.ro 4 ((ringSegs x.points).map TSegment.en)) := clo_list TSegment.clo_en
 repeat' ((first
  | (refine iAL ?_; first | refine AL.any ?_ | refine AL.any (h := POp.k Tryz.func109 (hc := isFeat_s x (by assumption))) ?_ | refine AL.any (h := POp.k Tryz.func173 (hc := segs_s _ (by assumption))) ?_ | refine AL.any (h := POp.k Tryz.func174 (hc := ringSegs_s _ (by assumption))) ?_ | refine AL.nil ?_)
  | (refine iAW ?_; first | (refine AW.freezeRet (t := 2) (id := 1) rfl rfl rfl rfl clo_rows_nil ?_; (try simp only [List.take_length]); try dsimp only [dput, List.set, cond_true, cond_false, Nat.zero_add, Nat.add_zero, Nat.reduceAdd, splice, List.take, List.drop, List.length, List.nil_append, List.cons_append, List.append, TPoint.en, TSegment.en, TBox.en, TFeature.en, TMeet.en, TPlace.en, TCover.en, TLabel.en, TPiece.en, TLevel.en, TChart.en, TReason.en, TEdit.en, TEntry.en, TEdition.en, TListing.en, TAtlas.en, TEvent.en, TWindow.en]) | (refine AW.c0 ?_; constructor) | (refine AW.c2 ?_ ?_ <;> (intro h; try simp only [bT, bF] at h)))) <;> (try dsimp only))
 all_goals first | exact Fin.one rfl (RV.tmp (by rfl)) hclS ⟨by unfold partsOf; simp_all, rfl⟩ | exact Fin.one rfl (RV.tmp (by rfl)) hclR ⟨by unfold partsOf; simp_all, rfl⟩ | exact Fin.one rfl (RV.tmp (by rfl)) (Clo.ro clo_rows_nil) ⟨by unfold partsOf; simp_all, rfl⟩

theorem parts_i (x : TFeature) (hg : x.gd) : VCalls Tryz.prog 184 [.agg x.en] (fun r M => r = .ro 4 ((partsOf x).map TSegment.en) ∧ M = []) := by
 refine VB Tryz.func184 17 (fun E hE => ?_)
 obtain ⟨hp1, hn1⟩ := id hg
 have hclP : Clo (.ro 2 (x.points.map TPoint.en)) := clo_list TPoint.clo_en
 have hcle : Clo (.agg x.en) := Clo.agg x.clo_en
 have hclS : Clo (.ro 4 ((segs x.points).map TSegment.en)) := clo_list TSegment.clo_en
 have hclR : Clo (.ro 4 ((ringSegs x.points).map TSegment.en)) := clo_list TSegment.clo_en
 repeat' ((first
  | (refine iAL ?_; first | refine AL.any ?_ | refine AL.any (h := POp.k Tryz.func119 (hc := isFeat_i x (by assumption))) ?_ | refine AL.any (h := POp.k Tryz.func246 (hc := segs_i _ (by assumption))) ?_ | refine AL.any (h := POp.k Tryz.func251 (hc := ringSegs_i _ (by assumption))) ?_ | refine AL.nil ?_)
  | (refine iAW ?_; first | (refine AW.freezeRet (t := 2) (id := 1) rfl rfl rfl rfl clo_rows_nil ?_; (try simp only [List.take_length]); try dsimp only [dput, List.set, cond_true, cond_false, Nat.zero_add, Nat.add_zero, Nat.reduceAdd, splice, List.take, List.drop, List.length, List.nil_append, List.cons_append, List.append, TPoint.en, TSegment.en, TBox.en, TFeature.en, TMeet.en, TPlace.en, TCover.en, TLabel.en, TPiece.en, TLevel.en, TChart.en, TReason.en, TEdit.en, TEntry.en, TEdition.en, TListing.en, TAtlas.en, TEvent.en, TWindow.en]) | (refine AW.c0 ?_; constructor) | (refine AW.c2 ?_ ?_ <;> (intro h; try simp only [bT, bF] at h)))) <;> (try dsimp only))
 all_goals first | exact Fin.one rfl (RV.tmp (by rfl)) hclS ⟨by unfold partsOf; simp_all, rfl⟩ | exact Fin.one rfl (RV.tmp (by rfl)) hclR ⟨by unfold partsOf; simp_all, rfl⟩ | exact Fin.one rfl (RV.tmp (by rfl)) (Clo.ro clo_rows_nil) ⟨by unfold partsOf; simp_all, rfl⟩

def isBoxB (b : TBox) : Bool := isp b.low.x b.low.y && isp b.high.x b.high.y && decide (b.low.x ≤ b.high.x) && decide (b.low.y ≤ b.high.y)
def comX (a b : TBox) : Int := wsub (wmin a.high.x b.high.x) (wmax a.low.x b.low.x)
def comY (a b : TBox) : Int := wsub (wmin a.high.y b.high.y) (wmax a.low.y b.low.y)
theorem isBox_bd {b : TBox} (h : isBoxB b = true) : 0 ≤ b.low.x ∧ b.low.x ≤ b.high.x ∧ b.high.x ≤ 200 ∧ 0 ≤ b.low.y ∧ b.low.y ≤ b.high.y ∧ b.high.y ≤ 200 := by
 simp only [isBoxB, Bool.and_eq_true, decide_eq_true_eq] at h
 have h1 := isp_bd h.1.1.1
 have h2 := isp_bd h.1.1.2
 omega
def box0 : TBox := ⟨⟨0, 0⟩, ⟨0, 0⟩⟩
theorem fitsM_none {n : Nat} {M : Mem} (hm : FitsM n M) : FitsM n (none :: M) := fun b' hb r hr x hx => by
 rcases List.mem_cons.1 hb with e | hb
 · cases e
 · exact hm b' hb r hr x hx

theorem isBox_s (b : TBox) : VCalls Tryz.prog 241 [.agg b.en] (fun r M => r = B (isBoxB b) ∧ M = []) := by
 refine VB Tryz.func241 28 (fun E hE => ?_)
 dsimp only [TPoint.en, TBox.en]
 repeat' ((first
  | (refine iAL ?_; first | refine AL.any ?_ | refine AL.any (h := POp.k Tryz.func170 (hc := by first | exact isp_s_t _ _ (by assumption) | exact isp_s_f _ _ (by assumption) | exact isp_s _ _)) ?_ | refine AL.W ?_ | refine AL.W (h := fun h => by (try rw [h]); exact POp.k Tryz.func170 (hc := by first | exact isp_s_t _ _ (by assumption) | exact isp_s_f _ _ (by assumption) | exact isp_s _ _)) ?_ | refine AL.nil ?_)
  | (refine iAW ?_; (refine AW.c0 ?_; constructor))) <;> (try dsimp only))
 all_goals exact Fin.one rfl (RV.tmp (by rfl)) (clo_c _) ⟨by first | rfl | (simp only [isBoxB, Bool.and_assoc]; done), rfl⟩

theorem isBox_i (b : TBox) : VCalls Tryz.prog 250 [.agg b.en] (fun r M => r = B (isBoxB b) ∧ M = []) := by
 refine VB Tryz.func250 28 (fun E hE => ?_)
 dsimp only [TPoint.en, TBox.en]
 repeat' ((first
  | (refine iAL ?_; first | refine AL.any ?_ | refine AL.any (h := POp.k Tryz.func180 (hc := by first | exact isp_v_t _ _ (by assumption) | exact isp_v_f _ _ (by assumption) | exact isp_v _ _)) ?_ | refine AL.W ?_ | refine AL.W (h := fun h => by (try rw [h]); exact POp.k Tryz.func180 (hc := by first | exact isp_v_t _ _ (by assumption) | exact isp_v_f _ _ (by assumption) | exact isp_v _ _)) ?_ | refine AL.nil ?_)
  | (refine iAW ?_; (refine AW.c0 ?_; constructor))) <;> (try dsimp only))
 all_goals exact Fin.one rfl (RV.tmp (by rfl)) (clo_c _) ⟨by first | rfl | (simp only [isBoxB, Bool.and_assoc]; done), rfl⟩

theorem com_i (a b : TBox) : VCalls Tryz.prog 286 [.agg a.en, .agg b.en] (fun r M => r = .tup [I (comX a b), I (comY a b)] ∧ M = []) := by
 refine VB Tryz.func286 34 (fun E hE => ?_)
 dsimp only [TPoint.en, TBox.en]
 repeat' ((first
  | (refine iAL ?_; first | refine AL.any ?_ | refine AL.nil ?_)
  | ((with_reducible show DL ..); first | refine DL.any ?_ | refine DL.nil ?_)
  | (refine iAW ?_; first | (refine AW.c0 ?_; constructor) | refine AW.dr (id := 1) 31 ?_)) <;> (try dsimp only))
 all_goals exact Fin.two rfl (RV.tmp (by rfl)) (RV.tmp (by rfl)) (clo_of (by rfl)) ⟨by rfl, rfl⟩

theorem src_feat {l : List TFeature} {i : Nat} {x : TFeature} (hS : isSource l = true) (hx : l[i]? = some x) : isFeat x = true := by
 simp only [isSource, Bool.and_eq_true, srcOk, List.all_eq_true, List.mem_range] at hS
 have h := hS.1 i (List.getElem?_eq_some_iff.1 hx).1
 simp only [srcAt, hx, Bool.and_eq_true] at h
 exact h.1
theorem src_len {l : List TFeature} (hS : isSource l = true) : l.length ≤ 16 := by
 simp only [isSource, Bool.and_eq_true, decide_eq_true_eq] at hS
 omega
def modW (v : Int) : Int := if v.tmod 2147483647 < 0 then wadd (v.tmod 2147483647) 2147483647 else v.tmod 2147483647
def hstep (d v : Int) : Int := (wadd (wadd (wmul d 1000003) (modW v)) 13).tmod 2147483647
def hsh (l : List Int) : Int := l.foldl hstep 11
abbrev enI (n : Int) : List AV := [I n]
theorem clo_enI (n : Int) : ∀ x ∈ enI n, Clo x := clo_cons (clo_c _) clo_nil
def fndTo (l : List TFeature) (k : Int) (i : Nat) : Bool := (l.take i).all fun f => !(f.id == k)
theorem fndTo_succ {l : List TFeature} {k : Int} {i : Nat} {x : TFeature} (h : l[i]? = some x) : fndTo l k (i + 1) = (fndTo l k i && !(x.id == k)) := by simp [fndTo, take_succ_of h]
def fnd (l : List TFeature) (k : Int) : Int := match l.findIdx? fun f => f.id == k with
 | some i => (i : Int)
 | none => -1
theorem fnd_some {l : List TFeature} {k : Int} {i : Nat} {x : TFeature} (h : l[i]? = some x) (hx : (x.id == k) = true) (ht : fndTo l k i = true) : fnd l k = (i : Int) := by
 have hi := (List.getElem?_eq_some_iff.1 h).1
 have e : l.findIdx? (fun f => f.id == k) = some i := by
  rw [List.findIdx?_eq_some_iff_getElem]
  refine ⟨hi, ?_, fun j hj => ?_⟩
  · rw [(List.getElem?_eq_some_iff.1 h).2]; exact hx
  · simp only [fndTo, List.all_eq_true] at ht
    have := ht l[j] (by rw [List.mem_take_iff_getElem]; exact ⟨j, by omega, rfl⟩)
    simpa using this
 rw [fnd, e]
theorem fnd_none {l : List TFeature} {k : Int} (ht : fndTo l k l.length = true) : fnd l k = -1 := by
 have e : l.findIdx? (fun f => f.id == k) = none := by
  rw [List.findIdx?_eq_none_iff]
  rw [fndTo, List.take_length, List.all_eq_true] at ht
  intro x hx
  have := ht x hx
  simpa using this
 rw [fnd, e]
theorem src_inc {l : List TFeature} (hS : isSource l = true) : ∀ (i j : Nat) (x y : TFeature), i < j → l[i]? = some x → l[j]? = some y → x.id < y.id := by
 have step : ∀ (i : Nat) (x y : TFeature), l[i]? = some x → l[i + 1]? = some y → x.id < y.id := fun i x y hx hy => by
  simp only [isSource, Bool.and_eq_true, srcOk, List.all_eq_true, List.mem_range] at hS
  have h := hS.1 (i + 1) (List.getElem?_eq_some_iff.1 hy).1
  simp only [srcAt, hy, Bool.and_eq_true, Bool.or_eq_true, decide_eq_true_eq] at h
  rcases h.2 with h | h
  · simp at h
  · simpa [prevF, List.getD_eq_getElem?_getD, hx] using h
 intro i j
 induction j with
 | zero => intro x y h; omega
 | succ j ih =>
  intro x y h hx hy
  rcases Nat.lt_or_ge i j with hij | hij
  · have hj : j < l.length := by have := (List.getElem?_eq_some_iff.1 hy).1; omega
    have h1 := ih x l[j] hij hx (List.getElem?_eq_getElem hj)
    have h2 := step j l[j] y (List.getElem?_eq_getElem hj) hy
    omega
  · have e : i = j := by omega
    subst e
    exact step i x y hx hy
theorem fnd_src {l : List TFeature} {i : Nat} {x : TFeature} (hS : isSource l = true) (hx : l[i]? = some x) : fnd l x.id = (i : Int) := by
 refine fnd_some hx (by simp) ?_
 rw [fndTo, List.all_eq_true]
 intro y hy
 rw [List.mem_take_iff_getElem] at hy
 obtain ⟨j, hj, rfl⟩ := hy
 have := src_inc hS j i l[j] x (by omega) (List.getElem?_eq_getElem (by omega)) hx
 simp
 omega
def featD : TFeature := ⟨0, 0, 0, ⟨#[]⟩, []⟩
theorem find_s (l : List TFeature) (k : Int) (hl : l.length ≤ 1048576) : VCalls Tryz.prog 146 [.ro 5 (l.map TFeature.en), I k] (fun r M => r = I (fnd l k) ∧ M = []) := by
 refine VB Tryz.func146 18 (fun E hE => ?_)
 have hclo : Clo (.ro 5 (l.map TFeature.en)) := clo_list TFeature.clo_en
 repeat' ((first
  | (refine iAL ?_; first | refine AL.any ?_ | refine AL.nil ?_)
  | (refine iAW ?_; first | (refine AW.c0 ?_; constructor) | refine AW.cT ?_ | refine AW.cF ?_ | (refine AW.c2 ?_ ?_ <;> (intro h; try simp only [bT, bF] at h)))
  | (
 refine AW.loopD hE (fun i : Nat => [.ro 5 (l.map TFeature.en), I k, .any, .any, .any, I (i : Int), .any, .any, .any, .any, .any, .any, .any, .any, .any, .any, .any, .any, .any, .any]) (fun i => []) (fun i => l.length - i) (fun i => i ≤ l.length ∧ fndTo l k i = true) 0 (by simp [fndTo]) ?_ (by first | rfl | (simp [fil_zero]; done)) ?_
 (focus (exact wkI))
 intro i hi
 by_cases hlt : i < l.length
 case' pos =>
  have hP := True.intro
  obtain ⟨x, hx⟩ : ∃ x, l[i]? = some x := ⟨_, List.getElem?_eq_getElem hlt⟩
  have hg := map_get (f := TFeature.en) hx
  have ht := lt_true (f := TFeature.en) hlt
  have hn := next_ix hlt (by omega)
  have hsu := fndTo_succ (k := k) hx
  have hfs := fnd_some (k := k) hx
 case' neg =>
  have hQ := True.intro
  have ht := lt_false (f := TFeature.en) hlt
  have e : i = l.length := by omega
  subst e
  try rw [List.take_length])) <;> (try dsimp only))
 all_goals first
  | (have _ := hP; (refine ⟨i + 1, _, ⟨hlt, by simp_all⟩, by omega, ?_, rfl, ?_, ?_⟩; (focus (exact wkN)); (focus (exact fitsA)); (focus (exact FitsM.nil _))))
  | (have _ := hP; exact Fin.one rfl (RV.tmp (by rfl)) (clo_c _) ⟨by rw [hfs (by assumption) hi.2], rfl⟩)
  | (have _ := hQ; exact Fin.one rfl (RV.tmp (by rfl)) (clo_c _) ⟨by rw [fnd_none (by simpa using hi.2)], rfl⟩)

theorem find1_i (f : TFeature) (k : Int) : VCalls Tryz.prog 221 [.agg f.en, .rop 1 [[I k]] 0 0] (fun r M => r = B (f.id == k) ∧ M = []) := by
 refine VB Tryz.func221 6 (fun E hE => ?_)
 dsimp only [TFeature.en]
 repeat' ((first
  | (refine iAL ?_; first | refine AL.any ?_ | refine AL.nil ?_)
  | (refine iAW ?_; (refine AW.c0 ?_; constructor))) <;> (try dsimp only))
 all_goals exact Fin.one rfl (RV.tmp (by rfl)) (clo_c _) ⟨by rfl, rfl⟩

theorem index_i (l : List TFeature) (k : Int) (hl : l.length ≤ 1048576) : VCalls Tryz.prog 220 [.ro 5 (l.map TFeature.en), .fn 221 [.rop 1 [[I k]] 0 0]] (fun r M => r = I (fnd l k) ∧ M = []) := by
 refine VB Tryz.func220 17 (fun E hE => ?_)
 have hclo : Clo (.ro 5 (l.map TFeature.en)) := clo_list TFeature.clo_en
 have hcr : Clo (.rop 1 [[I k]] 0 0) := Clo.rop (clo_rows_b rfl)
 have hcf : Clo (.fn 221 [.rop 1 [[I k]] 0 0]) := Clo.fn (fun y hy => by rw [List.mem_singleton.1 hy]; exact Clo.rop (clo_rows_b rfl))
 repeat' ((first
  | (refine iAL ?_; first | refine AL.any ?_ | refine AL.nil ?_)
  | (refine iAW ?_; first | (refine AW.c0 ?_; constructor) | refine AW.cT ?_ | refine AW.cF ?_ | (refine AW.c2 ?_ ?_ <;> (intro h; try simp only [bT, bF] at h)))
  | refine AL.any (h := POp.kc Tryz.func221 (hc := find1_i x k)) ?_
  | (
 refine AW.loopD hE (fun i : Nat => [.ro 5 (l.map TFeature.en), .fn 221 [.rop 1 [[I k]] 0 0], .any, .any, .any, .any, .any, I ((l.map TFeature.en).length : Int), I (i : Int), .any, .any, .any, .any, .any, .any, .any, .any, .any, .any]) (fun i => []) (fun i => l.length - i) (fun i => i ≤ l.length ∧ fndTo l k i = true) 0 (by simp [fndTo]) ?_ (by first | rfl | (simp [fil_zero]; done)) ?_
 (focus (exact wkI))
 intro i hi
 by_cases hlt : i < l.length
 case' pos =>
  have hP := True.intro
  obtain ⟨x, hx⟩ : ∃ x, l[i]? = some x := ⟨_, List.getElem?_eq_getElem hlt⟩
  have hg := map_get (f := TFeature.en) hx
  have ht := lt_true (f := TFeature.en) hlt
  have hn := next_ix hlt (by omega)
  have hsu := fndTo_succ (k := k) hx
  have hfs := fnd_some (k := k) hx
  have hcle : Clo (.agg x.en) := Clo.agg x.clo_en
  have hclP : Clo (.ro 2 (x.points.map TPoint.en)) := clo_list TPoint.clo_en
 case' neg =>
  have hQ := True.intro
  have ht := lt_false (f := TFeature.en) hlt
  have e : i = l.length := by omega
  subst e
  try rw [List.take_length])) <;> (try dsimp only))
 all_goals first
  | (have _ := hP; (refine ⟨i + 1, _, ⟨hlt, by simp_all⟩, by omega, ?_, rfl, ?_, ?_⟩; (focus (exact wkN)); (focus (exact fitsA)); (focus (exact FitsM.nil _))))
  | (have _ := hP; exact Fin.one rfl (RV.tmp (by rfl)) (clo_c _) ⟨by rw [hfs (by assumption) hi.2], rfl⟩)
  | (have _ := hQ; exact Fin.one rfl (RV.tmp (by rfl)) (clo_c _) ⟨by rw [fnd_none (by simpa using hi.2)], rfl⟩)

theorem find_i (l : List TFeature) (k : Int) (hl : l.length ≤ 1048576) : VCalls Tryz.prog 149 [.ro 5 (l.map TFeature.en), I k] (fun r M => r = I (fnd l k) ∧ M = []) := by
 refine VB Tryz.func149 6 (fun E hE => ?_)
 have hclo : Clo (.ro 5 (l.map TFeature.en)) := clo_list TFeature.clo_en
 have hcr : Clo (.rop 1 [[I k]] 0 0) := Clo.rop (clo_rows_b rfl)
 have hcf : Clo (.fn 221 [.rop 1 [[I k]] 0 0]) := Clo.fn (fun y hy => by rw [List.mem_singleton.1 hy]; exact Clo.rop (clo_rows_b rfl))
 repeat' ((first
  | (refine iAL ?_; first | refine AL.any (h := POp.bxf) ?_ | refine AL.any ?_ | refine AL.any (h := POp.k Tryz.func220 (hc := index_i _ _ (by assumption))) ?_ | refine AL.nil ?_)
  | (refine iAW ?_; (refine AW.c0 ?_; constructor))) <;> (try dsimp only))
 all_goals exact Fin.one rfl (RV.tmp (by rfl)) (clo_c _) ⟨by rfl, rfl⟩

end Go.Proofs.YtpffahmmklpifaaGreat.Abs

/- Pieces of lists that stay; a row of ours cut short. -/
namespace Go.Proofs.YtpffahmmklpifaaGreat.Abs
open Go.Proofs Go.RowKit
set_option linter.unusedVariables false
set_option linter.unusedSimpArgs false
set_option maxRecDepth 100000
set_option maxHeartbeats 2000000
section
variable {P : Program} {o : Oper} {tm : List AV} {M : Mem}
theorem elem_of {t e : TypeId} (h : P.underlying t = some (.slice e)) : P.elem t = e := by simp [Program.elem, h]
theorem Addr.add_block (a : Addr) (n : Nat) : (a.add n).block = a.block := by unfold Addr.add; split <;> rfl
theorem QOp.cut_l {x y : Operand} {t e : TypeId} {sz : Nat} {es : List (List AV)} {k : IntKind} {n : Int} {es2 : List (List AV)} (ho : o.op = .slice t x (some y) none none) (ht : slk P t = some (e, sz)) (hx : evA tm x = some (.ro sz es)) (hy : sc tm y = some (.int k n)) (h0 : 0 ≤ n) (h1 : n ≤ (es.length : Int)) (he : es.drop n.toNat = es2) :
 QOp P o tm M (.ro sz es2) := he ▸ fun base w0 a w Fx β hh hs => by
 have hrep := hs.ev hx
 generalize hu : a.eval x = u at hrep
 cases hrep with
 | @ro _ _ A cap f hc hm hA hl h1c h =>
  have hun := (slk_inv ht).1
  obtain ⟨i0, hi0, hs0⟩ := info_size (slk_inv ht).2
  have hun2 : P.underlying t = some (.slice (P.elem t)) := by rw [elem_of hun]; exact hun
  refine ⟨sliced A n.toNat es.length cap sz, fun w' _ => ?_, ?_⟩
  · simp [execOp, ho, hu, hs.sc hy, run_sliceAt_slice w' t _ _ _ _ hun2, run_slice_l w' t A es.length cap hun2 k n h0 h1, elem_of hun, sizeOf, typeInfo, hi0, hs0, Result.andThen]
  · have e1 : es.length - n.toNat = (es.drop n.toNat).length := by simp
    unfold sliced
    rw [e1]
    refine .ro (fun i j => f (i + n.toNat) j) (by rw [← e1]; omega) (by rw [← e1]; omega) (fun hp => ?_) (fun i r hr => hl (i + n.toNat) r (by rw [List.getElem?_drop] at hr; rw [Nat.add_comm]; exact hr)) (fun i j => h1c _ _) (fun i r j z hr hz => h (i + n.toNat) r j z (by rw [List.getElem?_drop] at hr; rw [Nat.add_comm]; exact hr) hz)
    have hlt : n.toNat < es.length := by rw [← e1] at hp; omega
    obtain ⟨ad, rfl, hF, hcell⟩ := hA (by omega)
    rw [if_neg (by omega)]
    refine ⟨ad.add (n.toNat * sz), rfl, by rw [Addr.add_block]; exact hF, fun i r j hr hj => ?_⟩
    rw [Addr.add_add, show n.toNat * sz + (i * sz + j) = (i + n.toNat) * sz + j by rw [Nat.add_mul]; omega]
    exact hcell (i + n.toNat) r j (by rw [List.getElem?_drop] at hr; rw [Nat.add_comm]; exact hr) hj
theorem QOp.cut_h {x y : Operand} {t e : TypeId} {sz : Nat} {es : List (List AV)} {k : IntKind} {n : Int} {es2 : List (List AV)} (ho : o.op = .slice t x none (some y) none) (ht : slk P t = some (e, sz)) (hx : evA tm x = some (.ro sz es)) (hy : sc tm y = some (.int k n)) (h0 : 0 ≤ n) (h1 : n ≤ (es.length : Int)) (he : es.take n.toNat = es2) :
 QOp P o tm M (.ro sz es2) := he ▸ fun base w0 a w Fx β hh hs => by
 have hrep := hs.ev hx
 generalize hu : a.eval x = u at hrep
 cases hrep with
 | @ro _ _ A cap f hc hm hA hl h1c h =>
  have hun := (slk_inv ht).1
  obtain ⟨i0, hi0, hs0⟩ := info_size (slk_inv ht).2
  have hun2 : P.underlying t = some (.slice (P.elem t)) := by rw [elem_of hun]; exact hun
  refine ⟨sliced A 0 n.toNat cap sz, fun w' _ => ?_, ?_⟩
  · simp [execOp, ho, hu, hs.sc hy, run_sliceAt_slice w' t _ _ _ _ hun2, run_slice_h w' t A es.length cap hun2 k n h0 (by omega), elem_of hun, sizeOf, typeInfo, hi0, hs0, Result.andThen]
  · have e1 : n.toNat - 0 = (es.take n.toNat).length := by simp; omega
    have tk : ∀ {i : Nat} {r : List AV}, (es.take n.toNat)[i]? = some r → es[i]? = some r := fun {i r} hr => by
     rw [List.getElem?_take] at hr
     split at hr
     · exact hr
     · cases hr
    unfold sliced
    rw [e1, Nat.sub_zero]
    refine .ro f (by rw [← e1]; omega) (by rw [← e1]; omega) (fun hp => ?_) (fun i r hr => hl i r (tk hr)) h1c (fun i r j z hr hz => h i r j z (tk hr) hz)
    have hlt : 0 < es.length := by rw [← e1] at hp; omega
    obtain ⟨ad, rfl, hF, hcell⟩ := hA hlt
    refine ⟨ad, ?_, hF, fun i r j hr hj => hcell i r j (tk hr) hj⟩
    split
    · rfl
    · simp [Addr.add]
end

section
variable {P : Program} {E : Env} {tm : List AV} {M : Mem} {o : Oper} {w : World} {Fx : Nat → Prop} {β : List Hd} {G : List (Option Nat)}
theorem CellsD.take {pv : Nat → Prop} {hb : Option Nat} {sz : Nat} {es : List (List AV)} {xs : List Value} (h : CellsD w Fx β G pv hb sz es xs) (k : Nat) : CellsD w Fx β G pv hb sz (es.take k) (xs.take (k * sz)) := by
 have hl := h.len
 obtain ⟨h1, h2, pc, h3, h4, h5⟩ := h
 have tk : ∀ {i : Nat} {r : List AV}, (es.take k)[i]? = some r → i < k ∧ es[i]? = some r := fun {i r} hr => by
  rw [List.getElem?_take] at hr
  split at hr
  · exact ⟨by assumption, hr⟩
  · cases hr
 have tx : ∀ {i j : Nat}, i < k → j < sz → (xs.take (k * sz))[i * sz + j]? = xs[i * sz + j]? := fun {i j} hi hj => by
  have : (i + 1) * sz ≤ k * sz := Nat.mul_le_mul_right _ hi
  rw [List.getElem?_take, if_pos (by rw [Nat.add_mul] at this; omega)]
 refine ⟨?_, fun i r hr => ⟨(h2 i r (tk hr).2).1, fun j x hx => ?_⟩, pc, h3, h4, fun i r j d hr hx => ?_⟩
 · rw [List.length_take, List.length_take, hl]
   rcases Nat.le_total k es.length with h | h
   · rw [Nat.min_eq_left h, Nat.min_eq_left (Nat.mul_le_mul_right _ h)]
   · rw [Nat.min_eq_right h, Nat.min_eq_right (Nat.mul_le_mul_right _ h)]
 · obtain ⟨u, hu, ho, hR⟩ := (h2 i r (tk hr).2).2 j x hx
   exact ⟨u, by rw [tx (tk hr).1 (by rw [← (h2 i r (tk hr).2).1]; exact (List.getElem?_eq_some_iff.1 hx).1)]; exact hu, ho, hR⟩
 · obtain ⟨u, hu, hR⟩ := h5 i r j d (tk hr).2 hx
   exact ⟨u, by rw [tx (tk hr).1 (by rw [← (h2 i r (tk hr).2).1]; exact (List.getElem?_eq_some_iff.1 hx).1)]; exact hu, hR⟩
end

section
variable {P : Program} {E : Env} {tm : List AV} {M : Mem} {o : Oper}
theorem POp.lit0 {t : TypeId} {sz : Nat} {es : List (List AV)} (h : RowRun P o E tm M t sz es) (hc : ∀ r ∈ es, ∀ x ∈ r, Clo x) : POp P o E tm M (.ro sz es) M := by
 intro a w K Q Fx β hh hsl hk
 obtain ⟨v, w', xs, hrun, hg, hown, hfr, hcell⟩ := h a w Fx β hh hsl
 obtain ⟨h1, hx⟩ := hh.addRow hg hown hfr hcell
 have hM : (M ++ [some ⟨t, sz, 0, false, es⟩])[M.length]? = some (some ⟨t, sz, 0, false, es⟩) := by simp
 have hv : (β ++ [Hd.flat v])[M.length]? = some (Hd.flat v) := by rw [← hh.len]; simp
 obtain ⟨h2, m2, hrep⟩ := h1.freeze hM hv rfl hc
 obtain ⟨h3, m3⟩ := hh.step (w' := w') ⟨hg.os, hg.tape, hg.output, hg.size, fun k hk => hg.block k hk (by simp)⟩
 have hF : ∀ k, (Hd.flat v).has k → w.heap.size ≤ k := fun k hk => by
  rcases hk with hk | hk
  · exact hfr k hk
  · exact hk.elim
 have m4 : Mv w' Fx β (gens M) w' (fun k => Fx k ∨ (Hd.flat v).has k) β (gens M) := ⟨fun k h => .inl h, fun _ _ => rfl, Nat.le_refl _, fun id g' _ h => ⟨g', h, Nat.le_refl _, fun _ => rfl⟩⟩
 have h4 : HS E.base E.w0 w' (fun k => Fx k ∨ (Hd.flat v).has k) β M := by
  refine ⟨h3.bel, h3.bs, h2.fx, h3.len, fun id b hb => ?_, h3.inj⟩
  obtain ⟨u, hu, hk'⟩ := h3.blk id b hb
  refine ⟨u, hu, hk'.mv m4 (Nat.le_refl _) (fun _ _ => rfl) (fun k hk2 hF2 => ?_)⟩
  rcases hF2 with hF2 | hF2
  · exact (hk'.1 k hk2).2.2 hF2
  · obtain ⟨u0, hu0, hk0⟩ := hh.blk id b hb
    rw [hu] at hu0
    obtain rfl := Option.some.inj hu0
    have := (hk0.1 k hk2).2.1
    have := hF k hF2
    omega
 unfold Oper.wp
 rw [hrun, Oper.upon_value]
 refine hk _ _ _ _ h4 ⟨m3.trans m4, hg.size, fun k hk => ?_, fun id b u k g1 g2 g3 => .inr ⟨id, b, u, g1, g2, g3⟩⟩ ((Clo.ro hc _ _ _ _ _ hrep.cr).of_clo)
 rcases hk with hk | hk
 · exact .inl hk
 · exact .inr (.inl (hF k hk))
end

end Go.Proofs.YtpffahmmklpifaaGreat.Abs

/- The walk of a number put into a list in its order. -/
namespace Go.Proofs.YtpffahmmklpifaaGreat.Abs
open Go.Proofs Go.RowKit
set_option linter.unusedVariables false
set_option linter.unusedSimpArgs false
set_option maxRecDepth 100000
set_option maxHeartbeats 2000000
attribute [local irreducible] OpA AL AW DL DLM DLR DLS QOp POp VCalls VCallsI
def posI (l : List Int) (x : Int) : Nat := (l.takeWhile fun y => decide (y < x)).length
theorem posI_le : ∀ (l : List Int) (x : Int), posI l x ≤ l.length
 | [], _ => Nat.le_refl _
 | y :: l, x => by
  unfold posI
  rw [List.takeWhile_cons]
  split
  · have := posI_le l x
    unfold posI at this
    simp only [List.length_cons]
    omega
  · exact Nat.zero_le _
theorem posI_lt : ∀ {l : List Int} {x : Int} {i : Nat}, i < posI l x → ∃ y, l[i]? = some y ∧ decide (y < x) = true
 | [], x, i, h => by simp [posI] at h
 | y :: l, x, i, h => by
  unfold posI at h
  rw [List.takeWhile_cons] at h
  split at h
  · rename_i hy
    cases i with
    | zero => exact ⟨y, rfl, hy⟩
    | succ i =>
     simp only [List.length_cons] at h
     exact posI_lt (l := l) (x := x) (i := i) (by unfold posI; omega)
  · simp at h
theorem posI_at : ∀ {l : List Int} {x y : Int}, l[posI l x]? = some y → decide (y < x) = false
 | [], x, y, h => by simp at h
 | z :: l, x, y, h => by
  unfold posI at h
  rw [List.takeWhile_cons] at h
  split at h
  · simp only [List.length_cons, List.getElem?_cons_succ] at h
    exact posI_at (l := l) (x := x) h
  · rename_i hz
    simp only [List.length_nil, List.getElem?_cons_zero, Option.some.injEq] at h
    subst h
    simpa using hz
def putI (l : List Int) (x : Int) : List Int := if l[posI l x]? = some x then l else l.take (posI l x) ++ [x] ++ l.drop (posI l x)
theorem putI_y {l : List Int} {x y : Int} (h : l[posI l x]? = some y) (e : (y == x) = true) : putI l x = l := by
 unfold putI
 rw [if_pos (by rw [h]; simpa using e)]
theorem putI_n {l : List Int} {x y : Int} (h : l[posI l x]? = some y) (e : (y == x) = false) : putI l x = l.take (posI l x) ++ [x] ++ l.drop (posI l x) := by
 unfold putI
 rw [if_neg (by rw [h]; simpa using e)]
theorem putI_end {l : List Int} {x : Int} (h : posI l x = l.length) : putI l x = l.take l.length ++ [x] ++ l.drop l.length := by
 unfold putI
 rw [h, if_neg (by rw [List.getElem?_eq_none (Nat.le_refl _)]; simp)]
theorem put14_s (l : List Int) (x : Int) (hl : l.length ≤ 1048576) : VCalls Tryz.prog 54 [.ro 1 (l.map enI), I x] (fun r M => r = .own 0 0 ∧ M = [some ⟨3, 1, 0, false, (putI l x).map enI⟩]) := by
 refine VB Tryz.func54 45 (fun E hE => ?_)
 have hclo : Clo (.ro 1 (l.map enI)) := clo_list (fun n => clo_cons (clo_c _) clo_nil)
 repeat' ((first
  | (refine iAL ?_; first | refine AL.any ?_ | refine AL.F ?_ | refine AL.T ?_ | refine AL.nil ?_)
  | ((with_reducible show DLR ..); first | refine DLR.any ?_ | refine DLR.row rfl (fun Y => RowRun.empty (by rfl) (by rfl) (by first | exact rwk22 | exact rwk23 | exact rwk24 | exact rwk31 | exact rwk32 | exact rwk33 | exact rwk56)) rfl rfl ?_ | refine DLR.append rfl (by rfl) (by first | exact rwk22 | exact rwk23 | exact rwk24 | exact rwk31 | exact rwk32 | exact rwk33 | exact rwk56) (by rfl) rfl rfl rfl rfl rfl rfl (by rfl) (by first | (simp <;> omega) | omega) (by first | (simp [maxLen] <;> omega) | (simp_all [maxLen] <;> omega)) ?_ | refine DLR.nil ?_)
  | (refine iAW ?_; first | (refine AW.c0 ?_; constructor) | refine AW.drawnR (id := 6) 11 1 [some 0, none, none, none, some 0, none, none, some 0, none, none, none] [some Rsv] rfl (by kernel_rfl) (by kernel_rfl) (by kernel_rfl) (by rfl) ?_ | refine AW.cT ?_ | refine AW.cF ?_)
  | ((with_reducible show DLR ..); first | refine DLR.any (h := fun Y => POp.quiet (QOp.cut_h (by rfl) slk56 (by rfl) (by rfl) (by first | decide | omega) (by first | assumption | omega) (by assumption))) ?_ | refine DLR.any (h := fun Y => POp.quiet (QOp.cut_l (by rfl) slk56 (by rfl) (by rfl) (by first | decide | omega) (by first | assumption | omega) (by assumption))) ?_ | refine DLR.any (h := fun Y => POp.lit0 (RowRun.literal (by rfl) rwk56 (by rfl) (by rfl) (by rfl) (by rfl) (by rfl) (by rfl)) (clo_rows_b rfl)) ?_)
  | (
 refine AW.loopD hE (fun i : Nat => [.ro 1 (l.map enI), I x, .any, .any, .any, I (i : Int), .any, .any, .any, .any, .any, .any, .any, .any, .any, .any, .any, .any, .any, .any, .any, .any, .any, .any, .any, .any, .any, .any, .any, .any, .any, .any, .any, .any, .any, .any, .any, .any, .any, .any, .any, .any, .any, .any, .any, .any, .any]) (fun i => []) (fun i => (posI l x) - i) (fun i => i ≤ posI l x) 0 (Nat.zero_le _) ?_ (by first | rfl | (simp [fil_zero]; done)) ?_
 (focus (exact wkI))
 intro i hi
 by_cases hlt : i < (posI l x)
 case' pos =>
  have hP := True.intro
  obtain ⟨y, hy, hyl⟩ := posI_lt hlt
  have hN := (List.getElem?_eq_some_iff.1 hy).1
  have hg := map_get (f := enI) hy
  have ht := lt_true (f := enI) hN
  have hn := next_ix hN (by omega)
 case' neg =>
  have hQ := True.intro
  have e : i = (posI l x) := by omega
  subst e
  have hle := posI_le l x
  obtain ⟨K, hK⟩ : ∃ K, K = posI l x := ⟨_, rfl⟩
  rw [← hK] at hle ⊢
  have hK1 : ((K : Nat) : Int) ≤ ((l.map enI).length : Int) := by rw [List.length_map]; omega
  have hd0 : (l.map enI).drop ((K : Nat) : Int).toNat = (l.drop K).map enI := by rw [Int.toNat_natCast, List.map_drop]
  have ht0 : (l.map enI).take ((K : Nat) : Int).toNat = (l.take K).map enI := by rw [Int.toNat_natCast, List.map_take]
  have hc1 : Clo (.ro 1 ((l.take K).map enI)) := clo_list (fun n => clo_cons (clo_c _) clo_nil)
  have hc2 : Clo (.ro 1 ((l.drop K).map enI)) := clo_list (fun n => clo_cons (clo_c _) clo_nil)
  have hl1 : (l.take K).length ≤ 1048576 := by rw [List.length_take]; omega
  have hl2 : (l.drop K).length ≤ 1048576 := by rw [List.length_drop]; omega
  have hap : (l.take K ++ [x] ++ l.drop K).map enI = (l.take K).map enI ++ [[I x]] ++ (l.drop K).map enI := by rw [List.map_append, List.map_append]; rfl
  have hdc : DCl ((l.take K).map enI ++ [[I x]] ++ (l.drop K).map enI) := hap ▸ DCl.map (fun _ => rfl)
  rcases Nat.lt_or_ge K l.length with hlt2 | hlt2
  rotate_left 1
  have hpe : putI l x = l.take K ++ [x] ++ l.drop K := by
   have e2 : posI l x = l.length := by omega
   rw [putI_end e2, hK, e2]
  have ht : decide (((K : Nat) : Int) < ((l.map enI).length : Int)) = false := by rw [List.length_map]; simp; omega
  rotate_left 1
  obtain ⟨y, hy⟩ : ∃ y, l[K]? = some y := ⟨_, List.getElem?_eq_getElem hlt2⟩
  have hyl := posI_at (l := l) (x := x) (y := y) (by rw [← hK]; exact hy)
  have hN := (List.getElem?_eq_some_iff.1 hy).1
  have hg := map_get (f := enI) hy
  have ht := lt_true (f := enI) hN
  rcases Bool.eq_false_or_eq_true (y == x) with hyx | hyx
  have hpe : putI l x = l := putI_y (by rw [← hK]; exact hy) hyx
  rotate_left 1
  have hpe : putI l x = l.take K ++ [x] ++ l.drop K := by rw [putI_n (by rw [← hK]; exact hy) hyx, ← hK]
  rotate_left 1)) <;> (try dsimp only))
 all_goals first
  | (have _ := hP; (refine ⟨i + 1, _, hlt, by omega, ?_, rfl, ?_, ?_⟩; (focus (exact wkN)); (focus (exact fitsA)); (focus (exact FitsM.nil _))))
  | (have _ := hQ; first | exact Fin.r1 [0] rfl (RV.tmp (by rfl)) ⟨rfl, by rw [hpe, hap] <;> rfl⟩ (hok := ⟨⟨_, rfl, hdc⟩, trivial⟩) | exact Fin.r1 [0] rfl (RV.tmp (by rfl)) ⟨rfl, by rw [hpe] <;> rfl⟩)

theorem put14_s' (l : List Int) (x : Int) (hl : l.length ≤ 1048576) : VCalls Tryz.prog 54 [.ro 1 (l.map enI), I x] (fun r M => r = .ro 1 ((putI l x).map enI) ∧ M = []) := VCalls.frz (put14_s l x hl) vwlT
end Go.Proofs.YtpffahmmklpifaaGreat.Abs
