/- The laws' converters, what they make as rows of our own; the marks and their tests. -/
import Derived.Test.YtpffahmmklpifaaGreatWkStep
import Derived.Test.YtpffahmmklpifaaGreatWkTo
import Derived.Test.YtpffahmmklpifaaGreatWkEq
namespace Go.Proofs.YtpffahmmklpifaaGreat.Abs
open Go.Proofs Go.RowKit
set_option linter.unusedVariables false
set_option linter.unusedSimpArgs false
set_option maxRecDepth 100000
set_option maxHeartbeats 2000000
attribute [local irreducible] OpA AL AW DL DLM DLR DLS QOp POp VCalls VCallsI
def ctL {α : Type} (ct : α → Nat) : List α → Nat
  | [] => 0
  | x :: l => ct x + ctL ct l
def mkL {α : Type} (mk : Int → α → α) (ct : α → Nat) : Int → List α → List α
  | _, [] => []
  | k, x :: l => mk k x :: mkL mk ct (k + (ct x : Nat)) l
def mkd {α : Type} (mk : Int → α → α) (ct : α → Nat) (k : Int) (l : List α) (i : Nat) : List α := mkL mk ct k (l.take i) ++ l.drop i
section
variable {α : Type} {mk : Int → α → α} {ct : α → Nat} {l : List α} {i : Nat} {x : α}
theorem ctL_app : ∀ (a b : List α), ctL ct (a ++ b) = ctL ct a + ctL ct b
  | [], b => by simp [ctL]
  | x :: a, b => by rw [List.cons_append, ctL, ctL, ctL_app a b]; omega
theorem mkL_len : ∀ (k : Int) (l : List α), (mkL mk ct k l).length = l.length
  | _, [] => rfl
  | k, x :: l => by rw [mkL, List.length_cons, List.length_cons, mkL_len]
theorem mkL_app : ∀ (k : Int) (a b : List α), mkL mk ct k (a ++ b) = mkL mk ct k a ++ mkL mk ct (k + (ctL ct a : Nat)) b
  | k, [], b => by simp [mkL, ctL]
  | k, x :: a, b => by
    rw [List.cons_append, mkL, mkL, mkL_app, List.cons_append, ctL]
    have e : k + ((ct x : Nat) : Int) + ((ctL ct a : Nat) : Int) = k + ((ct x + ctL ct a : Nat) : Int) := by omega
    rw [e]
theorem ctL_take (h : l[i]? = some x) : ctL ct (l.take (i + 1)) = ctL ct (l.take i) + ct x := by rw [take_succ_of h, ctL_app, ctL, ctL]; omega
theorem ctL_le (h : l[i]? = some x) : ctL ct (l.take i) + ct x ≤ ctL ct l := by
  rw [← ctL_take h]
  have := ctL_app (ct := ct) (l.take (i + 1)) (l.drop (i + 1))
  rw [List.take_append_drop] at this
  omega
theorem len_ctL (h1 : ∀ x, 1 ≤ ct x) : ∀ l : List α, l.length ≤ ctL ct l
  | [] => Nat.le_refl _
  | x :: l => by rw [List.length_cons, ctL]; have := len_ctL h1 l; have := h1 x; omega
theorem mkd_zero {k : Int} : mkd mk ct k l 0 = l := by simp [mkd, mkL]
theorem mkd_all {k : Int} : mkd mk ct k l l.length = mkL mk ct k l := by simp [mkd]
theorem mkd_len {k : Int} (h : i ≤ l.length) : (mkd mk ct k l i).length = l.length := by
  simp [mkd, mkL_len]
  omega
theorem mkd_get {k : Int} (h : l[i]? = some x) : (mkd mk ct k l i)[i]? = some x := by
  have hlt : i < l.length := (List.getElem?_eq_some_iff.1 h).1
  rw [mkd, List.getElem?_append_right (by rw [mkL_len, List.length_take]; omega), mkL_len, List.length_take, List.getElem?_drop, ← h]
  congr 1
  omega
theorem mkd_succ {k : Int} (h : l[i]? = some x) : mkd mk ct k l (i + 1) = (mkd mk ct k l i).set i (mk (k + (ctL ct (l.take i) : Nat)) x) := by
  have hlt : i < l.length := (List.getElem?_eq_some_iff.1 h).1
  have hl : (mkL mk ct k (l.take i)).length = i := by rw [mkL_len, List.length_take]; omega
  have hd : l.drop i = x :: l.drop (i + 1) := by
    rw [List.getElem?_eq_getElem hlt] at h
    rw [List.drop_eq_getElem_cons hlt, Option.some.inj h]
  rw [mkd, mkd, List.set_append, if_neg (by omega), hl, Nat.sub_self, hd, List.set_cons_zero, take_succ_of h, mkL_app, mkL, mkL, List.append_assoc]
  rfl
end
theorem set_self_of {α : Type} {A : List α} {i : Nat} {r : α} (h : A[i]? = some r) : A.set i r = A := by
  obtain ⟨hlt, rfl⟩ := List.getElem?_eq_some_iff.1 h
  exact List.set_getElem_self hlt
theorem toNat_ix (i : Nat) : ((i : Int)).toNat = i := Int.toNat_natCast i
def dgt (n : Nat) : UInt8 := UInt8.ofNat (48 + n % 10)
def dgs (n : Nat) (out : ByteArray) : ByteArray := if h : n = 0 then out else dgs (n / 10) (⟨#[dgt n]⟩ ++ out)
termination_by n
decreasing_by omega
def mtx (k : Int) : ByteArray := if k ≤ 0 then ⟨#[109, 48]⟩ else ⟨#[109]⟩ ++ dgs k.toNat ⟨#[]⟩
theorem dgs_zero (out : ByteArray) : dgs 0 out = out := by unfold dgs; simp
theorem dgs_pos {n : Nat} (h : n ≠ 0) (out : ByteArray) : dgs n out = dgs (n / 10) (⟨#[dgt n]⟩ ++ out) := by rw [dgs]; simp [h]
theorem dgt_val (n : Nat) : (((dgt n).toNat : Nat) : Int) = 48 + ((n % 10 : Nat) : Int) := by
  unfold dgt
  have h1 : n % 10 < 10 := Nat.mod_lt _ (by omega)
  have h2 : (UInt8.ofNat (48 + n % 10)).toNat = 48 + n % 10 := by simp; omega
  rw [h2]
  omega
def TFeature.eo (a : TFeature) : List AV := [I a.id, I a.kind, I a.rank, S a.name, .own 0 0]
def TFeature.rw (a : TFeature) : Mem := [some ⟨141, 2, 0, false, a.points.map TPoint.en⟩]
def TEntry.eo (a : TEntry) : List AV := [I a.feature.id, I a.feature.kind, I a.feature.rank, S a.feature.name, .own 0 0, I a.tick, I a.who, B a.gone]
def TEntry.rw (a : TEntry) : Mem := [some ⟨141, 2, 0, false, a.feature.points.map TPoint.en⟩]
def TEdition.eo (a : TEdition) : List AV := [I a.tick, .own 0 0, I a.seal_]
def TEdition.rw (a : TEdition) : Mem := [some ⟨81, 5, 0, false, a.source.map TFeature.ed⟩]
def TAtlas.eo (a : TAtlas) : List AV := [.own 0 0, .own 1 0, .own 2 0, I a.cover.w, I a.cover.h, S a.cover.cells, I a.now]
def TAtlas.rw (a : TAtlas) : Mem := [some ⟨135, 8, 0, false, a.log.map TEntry.ed⟩, some ⟨47, 3, 0, false, a.levels.map TLevel.en⟩, some ⟨151, 3, 0, false, a.editions.map TEdition.ed⟩]
end Go.Proofs.YtpffahmmklpifaaGreat.Abs
