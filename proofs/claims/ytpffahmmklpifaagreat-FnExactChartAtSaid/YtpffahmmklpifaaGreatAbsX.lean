/- Equality of structs whose cells are plain (integers, bools, strings). -/
import Derived.Test.YtpffahmmklpifaaGreatAbsW
import Derived.ChangeKeysEq
namespace Go.Proofs.YtpffahmmklpifaaGreat.Abs
open Go.RowKit
set_option linter.unusedVariables false
set_option linter.unusedSimpArgs false

def eqV : Value → Value → Bool
 | .bool a, .bool b => a == b
 | .int _ a, .int _ b => a == b
 | .string a, .string b => a.toList == b.toList
 | _, _ => false
def eqVs : List Value → List Value → Bool
 | [], _ => true
 | a :: as, b :: bs => eqV a b && eqVs as bs
 | _ :: _, [] => false
def isK : TK → Value → Bool
 | .bool, .bool _ => true
 | .int k, .int k' _ => decide (k = k')
 | .string, .string _ => true
 | _, _ => false
def kOk : List TK → List Value → Bool
 | [], [] => true
 | k :: ks, v :: vs => isK k v && kOk ks vs
 | _, _ => false
theorem kOk_len : ∀ {ks : List TK} {us : List Value}, kOk ks us = true → us.length = ks.length
 | [], [], _ => rfl
 | [], _ :: _, h => by simp [kOk] at h
 | _ :: _, [], h => by simp [kOk] at h
 | k :: ks, u :: us, h => by
  simp only [kOk, Bool.and_eq_true] at h
  simp [kOk_len h.2]
theorem kOk_split : ∀ {ks ls : List TK} {us : List Value}, kOk (ks ++ ls) us = true → kOk ks (us.take ks.length) = true ∧ kOk ls (us.drop ks.length) = true
 | [], ls, us, h => by simpa [kOk] using h
 | k :: ks, ls, [], h => by simp [kOk] at h
 | k :: ks, ls, u :: us, h => by
  simp only [List.cons_append, kOk, Bool.and_eq_true] at h
  obtain ⟨a, b⟩ := kOk_split h.2
  simp only [List.length_cons, List.take_succ_cons, List.drop_succ_cons, kOk, Bool.and_eq_true]
  exact ⟨⟨h.1, a⟩, b⟩
theorem eqVs_split (n : Nat) : ∀ (us vs : List Value), us.length = vs.length → eqVs us vs = (eqVs (us.take n) (vs.take n) && eqVs (us.drop n) (vs.drop n)) := by
 induction n with
 | zero => intro us vs _; simp [eqVs]
 | succ n ih =>
  intro us vs h
  cases us with
  | nil => simp [eqVs]
  | cons u us =>
   cases vs with
   | nil => simp at h
   | cons v vs =>
    simp only [List.take_succ_cons, List.drop_succ_cons, eqVs, ih us vs (by simpa using h), Bool.and_assoc]

def flatF (g : TypeId → Option (List TK)) (c : TypeId → Nat) : List Field → Nat → Option (List TK)
 | [], _ => some []
 | f :: fs, off => if f.name ≠ "_" ∧ f.offset = off then
  match g f.type with
  | some ks => if c f.type = ks.length then (flatF g c fs (off + ks.length)).map (ks ++ ·) else none
  | none => none
  else none
def flatK (P : Program) : Nat → TypeId → Option (List TK)
 | 0, _ => none
 | d + 1, t => match P.underlying t with
  | some .bool => some [.bool]
  | some (.int k) => some [.int k]
  | some .string => some [.string]
  | some (.struct fs) => if P.stoodInHeld t then none else flatF (flatK P d) P.cellsOf fs.toList 0
  | _ => none
def ofT (P : Program) (t : TypeId) (us : List Value) : Value := match P.underlying t with
 | some (.struct _) => .agg us.toArray
 | _ => us.headD .nilFunc

section
variable {P : Program}
theorem kOk_one {k : TK} {us : List Value} (h : kOk [k] us = true) : ∃ u, us = [u] ∧ isK k u = true := by
 cases us with
 | nil => simp [kOk] at h
 | cons u us =>
  simp only [kOk, Bool.and_eq_true] at h
  cases us with
  | nil => exact ⟨u, rfl, h.1⟩
  | cons _ _ => simp [kOk] at h
theorem part_flat {d : Nat} {t : TypeId} {ks : List TK} (h : flatK P d t = some ks) (w : World) {xs : Array Value} {off : Nat} (hc : P.cellsOf t = ks.length) (hx : kOk ks ((xs.toList.drop off).take ks.length) = true) :
 (part t xs off).run P w = .ok (ofT P t ((xs.toList.drop off).take ks.length)) w := by
 cases d with
 | zero => simp [flatK] at h
 | succ d =>
  unfold flatK at h
  have plain : ∀ k, ks = [k] → P.plainKey t = true → (∀ u, isK k u = true → ofT P t [u] = u) → (part t xs off).run P w = .ok (ofT P t ((xs.toList.drop off).take ks.length)) w := by
   intro k hk hp hu
   subst hk
   obtain ⟨u, e, hk⟩ := kOk_one hx
   rw [e, hu u hk]
   exact run_part_plain w hp (getElem?_of_chunk e)
  split at h
  · rename_i hu
    obtain rfl := Option.some.inj h
    exact plain _ rfl (by simp [Program.plainKey, hu]) (fun u _ => by simp [ofT, hu])
  · rename_i hu
    obtain rfl := Option.some.inj h
    exact plain _ rfl (by simp [Program.plainKey, hu]) (fun u _ => by simp [ofT, hu])
  · rename_i hu
    obtain rfl := Option.some.inj h
    exact plain _ rfl (by simp [Program.plainKey, hu]) (fun u _ => by simp [ofT, hu])
  · rename_i fs hu
    obtain ⟨i, hi⟩ := info_of_underlying hu
    have hl : (xs.extract off (off + P.cellsOf t)).toList = (xs.toList.drop off).take (P.cellsOf t) := by
     rw [Array.toList_extract]
     simp [List.extract]
    have e : ofT P t ((xs.toList.drop off).take ks.length) = .agg (xs.extract off (off + P.cellsOf t)) := by
     simp only [ofT, hu]
     rw [← hc, ← hl]
    rw [e]
    simp [part, isAgg, run_underlying hu, run_sizeOf w hi]
  · cases h

theorem eq_fields {D : Nat} {g : TypeId → Option (List TK)} (xs ys : Array Value) (w : World) (hsz : xs.size = ys.size)
 (hg : ∀ t ks, g t = some ks → P.cellsOf t = ks.length → ∀ off, kOk ks ((xs.toList.drop off).take ks.length) = true → kOk ks ((ys.toList.drop off).take ks.length) = true →
  ∃ a b, (part t xs off).run P w = .ok a w ∧ (part t ys off).run P w = .ok b w ∧ (Op.equalIn D t a b).run P w = .ok (eqVs ((xs.toList.drop off).take ks.length) ((ys.toList.drop off).take ks.length)) w) :
 ∀ (fs : List Field) (off : Nat) (ks : List TK), flatF g P.cellsOf fs off = some ks → kOk ks (xs.toList.drop off) = true → kOk ks (ys.toList.drop off) = true →
  (Op.eqFields D xs ys fs).run P w = .ok (eqVs (xs.toList.drop off) (ys.toList.drop off)) w
 | [], off, ks, h, hx, hy => by
  simp only [flatF, Option.some.injEq] at h
  subst h
  have e := List.eq_nil_of_length_eq_zero (kOk_len hx)
  rw [e]
  simp [Op.eqFields, eqVs]
 | f :: fs, off, ks, h, hx, hy => by
  simp only [flatF] at h
  split at h
  · rename_i hf
    obtain ⟨hn, hoff⟩ := hf
    cases hgf : g f.type with
    | none => rw [hgf] at h; cases h
    | some k1 =>
     rw [hgf] at h
     simp only at h
     split at h
     · rename_i hc
       cases hr : flatF g P.cellsOf fs (off + k1.length) with
       | none => rw [hr] at h; cases h
       | some k2 =>
        rw [hr] at h
        simp only [Option.map_some, Option.some.injEq] at h
        subst h
        obtain ⟨hx1, hx2⟩ := kOk_split hx
        obtain ⟨hy1, hy2⟩ := kOk_split hy
        rw [List.drop_drop] at hx2 hy2
        obtain ⟨a, b, p1, p2, p3⟩ := hg _ _ hgf hc off hx1 hy1
        have ih := eq_fields xs ys w hsz hg fs (off + k1.length) k2 hr hx2 hy2
        simp only [Op.eqFields, hn, ne_eq, not_false_eq_true, if_true, Sem.run_bind, hoff, p1, p2, p3, Result.andThen_ok]
        rw [eqVs_split k1.length (xs.toList.drop off) (ys.toList.drop off) (by simp [hsz]), List.drop_drop, List.drop_drop]
        cases eqVs ((xs.toList.drop off).take k1.length) ((ys.toList.drop off).take k1.length)
        · simp
        · simpa using ih
     · cases h
  · cases h

theorem fieldsOf_struct {t : TypeId} {fs : Array Field} (hu : P.underlying t = some (.struct fs)) : P.fieldsOf t = fs := by
 simp [Program.fieldsOf, hu]
theorem eq_flat (D : Nat) : ∀ (m : Nat) (t : TypeId) (ks : List TK), flatK P m t = some ks → ∀ (w : World) (us vs : List Value), kOk ks us = true → kOk ks vs = true →
 (Op.equalIn (D + m) t (ofT P t us) (ofT P t vs)).run P w = .ok (eqVs us vs) w
 | 0, _, _, h => by simp [flatK] at h
 | m + 1, t, ks, h => by
  intro w us vs hx hy
  unfold flatK at h
  split at h
  · rename_i hu
    obtain rfl := Option.some.inj h
    obtain ⟨u, rfl, hk⟩ := kOk_one hx
    obtain ⟨v, rfl, hk'⟩ := kOk_one hy
    cases u <;> simp [isK] at hk
    cases v <;> simp [isK] at hk'
    simp only [ofT, hu, List.headD_cons, eqVs, Bool.and_true, eqV]
    exact run_equalIn_bool w (D + m) t _ _ hu
  · rename_i q hu
    obtain rfl := Option.some.inj h
    obtain ⟨u, rfl, hk⟩ := kOk_one hx
    obtain ⟨v, rfl, hk'⟩ := kOk_one hy
    cases u <;> simp [isK] at hk
    cases v <;> simp [isK] at hk'
    subst hk
    subst hk'
    simp only [ofT, hu, List.headD_cons, eqVs, Bool.and_true, eqV]
    exact run_equalIn_int w (D + m) t _ _ _ _ hu
  · rename_i hu
    obtain rfl := Option.some.inj h
    obtain ⟨u, rfl, hk⟩ := kOk_one hx
    obtain ⟨v, rfl, hk'⟩ := kOk_one hy
    cases u <;> simp [isK] at hk
    cases v <;> simp [isK] at hk'
    simp only [ofT, hu, List.headD_cons, eqVs, Bool.and_true, eqV]
    exact run_equalIn_string w (D + m) t _ _ hu
  · rename_i fs hu
    split at h
    · cases h
    · rename_i hst
      have hf := fieldsOf_struct hu
      have e1 : ofT P t us = .agg us.toArray := by simp [ofT, hu]
      have e2 : ofT P t vs = .agg vs.toArray := by simp [ofT, hu]
      rw [e1, e2]
      have hs : P.stoodInHeld t = false := by simpa using hst
      rw [show D + (m + 1) = (D + m) + 1 from rfl, run_equalIn_struct w (D + m) t _ _ (by rw [hf]; exact hu) hs, hf]
      have hl : us.length = vs.length := by rw [kOk_len hx, kOk_len hy]
      have := eq_fields (D := D + m) (P := P) us.toArray vs.toArray w (by simpa using hl) (fun t ks hk hc off k1 k2 => ⟨_, _, part_flat hk w hc k1, part_flat hk w hc k2, eq_flat D m t ks hk w _ _ k1 k2⟩) fs.toList 0 ks h (by simpa using hx) (by simpa using hy)
      simpa using this
  · cases h

theorem eqGuard_flat (m : Nat) : ∀ (d : Nat) (t : TypeId) (ks : List TK), flatK P m t = some ks → m ≤ d → P.eqGuardType d t = false := by
 induction m with
 | zero => intro d t ks h; simp [flatK] at h
 | succ m ih =>
  intro d t ks h hd
  cases d with
  | zero => omega
  | succ d =>
   unfold flatK at h
   unfold Program.eqGuardType
   split at h
   · rename_i hu; simp [hu]
   · rename_i hu; simp [hu]
   · rename_i hu; simp [hu]
   · rename_i fs hu
     rw [hu]
     split at h
     · cases h
     · have : ∀ (l : List Field) (off : Nat) (ks : List TK), flatF (flatK P m) P.cellsOf l off = some ks → ∀ f ∈ l, (f.name != "_" && P.eqGuardType d f.type) = false := by
        intro l
        induction l with
        | nil => intro off ks _ f hf; simp at hf
        | cons g l ihl =>
         intro off ks h f hf
         simp only [flatF] at h
         split at h
         · cases hg : flatK P m g.type with
           | none => rw [hg] at h; cases h
           | some k1 =>
            rw [hg] at h
            simp only at h
            split at h
            · cases hr : flatF (flatK P m) P.cellsOf l (off + k1.length) with
              | none => rw [hr] at h; cases h
              | some k2 =>
               rcases List.mem_cons.1 hf with rfl | hf
               · rw [ih d _ _ hg (by omega)]; simp
               · exact ihl _ _ hr f hf
            · cases h
         · cases h
       simp only [Bool.eq_false_iff, ne_eq]
       intro hany
       rw [Array.any_eq_true'] at hany
       obtain ⟨f, hf, hb⟩ := hany
       have := this _ _ _ h f (by simpa using hf)
       rw [this] at hb
       cases hb
   · cases h

variable {E : Env} {tm : List AV} {M : Mem} {o : Oper}
def unCs : List AV → Option (List Value)
 | [] => some []
 | .c v :: cs => match unCs cs with
  | some l => some (v :: l)
  | none => none
 | _ :: _ => none
theorem unCs_map : ∀ {cs : List AV} {vs : List Value}, unCs cs = some vs → cs = vs.map .c
 | [], vs, h => by simp [unCs] at h; subst h; rfl
 | c :: cs, vs, h => by
  cases c <;> simp only [unCs] at h <;> first | (cases h; done) | skip
  cases h' : unCs cs with
  | none => rw [h'] at h; cases h
  | some l =>
   rw [h'] at h
   obtain rfl := Option.some.inj h
   rw [unCs_map h']
   rfl
theorem rep_agg_c {w : World} {Fx : Nat → Prop} {β : List Hd} {G : List (Option Nat)} {vs : List Value} {u : Value} (h : Rep w Fx β G (.agg (vs.map .c)) u) : u = .agg vs.toArray := by
 cases h with
 | @agg _ us hl h1 h =>
  congr 2
  refine List.ext_getElem? fun i => ?_
  rcases Nat.lt_or_ge i us.length with hi | hi
  · have hi' : i < vs.length := by rw [hl] at hi; simpa using hi
    have := h i (.c vs[i]) us[i] (by simp [hi']) (by simp [hi])
    rw [List.getElem?_eq_getElem hi, List.getElem?_eq_getElem hi', this.c_inv]
  · have hi' : vs.length ≤ i := by rw [hl] at hi; simpa using hi
    rw [List.getElem?_eq_none hi, List.getElem?_eq_none hi']
theorem QOp.sEq {op : BinOp} {t t' : TypeId} {x y : Operand} {cs ds : List AV} {us vs : List Value} {ks : List TK} {m : Nat} {b : Bool} (ho : o.op = .binOp op t x y t') (hx : evA tm x = some (.agg cs)) (hy : evA tm y = some (.agg ds))
 (hk : flatK P m t = some ks) (hst : (P.underlying t).any (fun d => match d with | .struct _ => true | _ => false) = true) (hm : Nat.ble m 10000 = true) (hm' : Nat.ble m P.depth = true) (hcs : unCs cs = some us) (hds : unCs ds = some vs) (h1 : kOk ks us = true) (h2 : kOk ks vs = true)
 (hb : (match op with | .eql => some (eqVs us vs) | .neq => some (!eqVs us vs) | _ => none) = some b) : QOp P o tm M (.c (.bool b)) := by
 intro base w0 a w Fx β hh hs
 obtain rfl := unCs_map hcs
 obtain rfl := unCs_map hds
 have ex := rep_agg_c (hs.ev hx)
 have ey := rep_agg_c (hs.ev hy)
 have hm := Nat.le_of_ble_eq_true hm
 have hm' := Nat.le_of_ble_eq_true hm'
 have est : ∀ l, ofT P t l = .agg l.toArray := by
  intro l
  unfold ofT
  cases hu : P.underlying t with
  | none => rw [hu] at hst; simp at hst
  | some d => cases d <;> rw [hu] at hst <;> simp at hst <;> rfl
 refine ⟨.bool b, fun w' _ => ?_, .c _⟩
 have e := eq_flat (P := P) (10000 - m) m t ks hk w' us vs h1 h2
 rw [show 10000 - m + m = 10000 by omega, est, est] at e
 have e2 : (Op.equal t (.agg us.toArray) (.agg vs.toArray)).run P w' = .ok (eqVs us vs) w' := e
 have eg := eqGuard_flat m P.depth t ks hk hm'
 cases op <;> simp only [Option.some.injEq] at hb <;> first
  | (cases hb; done)
  | (subst hb; simp [execOp, ho, ex, ey, eqGuard, eg, binOp, e2])
end
end Go.Proofs.YtpffahmmklpifaaGreat.Abs
