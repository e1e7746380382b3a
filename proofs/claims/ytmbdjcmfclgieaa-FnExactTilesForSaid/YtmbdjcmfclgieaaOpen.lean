/- How an argument that can be read as data is read as a value of a kind: for every kind of the words (whole numbers, bools, strings, slices, structs), over any program. -/
import Derived.Deep.Slices
import Derived.ChangeArms
import Derived.WideShapes
import Derived.ChangeOld
import Derived.Test.YtmbdjcmfclgieaaWWords
namespace Go.Proofs.Ytmbdjcmfclgieaa.Open
open Go.ChangeShapes Go.WideShapes Go.RowKit Go.Deep Go.Proofs.YtmbdjcmfclgieaaW.PrintWords
set_option linter.unusedVariables false

/-- What is read at type t is of kind k, and ok. -/
structure Fit (P : Program) (t : TypeId) {α : Type} (k : Kd α) (ok : α → Prop) : Prop where
  go : ∀ {H : Type} (enc : TypeId × Value → H) (w : World) (base : Nat) (spare : Nat → Bool) (held : Bool) (fuel : Nat) (cs : List Value) (x : DataW H × List MemPlace),
    DataW.trod enc P w base spare held fuel t cs = some x → ∃ a, k.K w a cs ∧ ok a

theorem Fit.imp {P : Program} {t : TypeId} {α : Type} {k : Kd α} {ok ok' : α → Prop} (h : Fit P t k ok) (hi : ∀ a, ok a → ok' a) : Fit P t k ok' :=
  ⟨fun enc w base spare held fuel cs x hx => by
    obtain ⟨a, ha, hk⟩ := h.go enc w base spare held fuel cs x hx
    exact ⟨a, ha, hi _ hk⟩⟩

theorem Fit.int {P : Program} {t : TypeId} {k : IntKind} (ht : P.underlying t = some (.int k)) : Fit P t (Kd.int k) (fun n => (Lit.int k n).wf = true) :=
  ⟨fun enc w base spare held fuel cs x hx => by
    obtain ⟨n, rfl, _, hw⟩ := DataW.trod_int ht hx
    exact ⟨n, rfl, hw⟩⟩

theorem Fit.bool {P : Program} {t : TypeId} (ht : P.underlying t = some .bool) : Fit P t Kd.bool (fun _ => True) :=
  ⟨fun enc w base spare held fuel cs x hx => by
    obtain ⟨n, rfl, _⟩ := DataW.trod_bool ht hx
    exact ⟨n, rfl, trivial⟩⟩

theorem Fit.string {P : Program} {t : TypeId} (ht : P.underlying t = some .string) : Fit P t Kd.string (fun s => s.size ≤ maxLen) :=
  ⟨fun enc w base spare held fuel cs x hx => by
    obtain ⟨n, rfl, _, hw⟩ := DataW.trod_string ht hx
    exact ⟨n, rfl, hw⟩⟩

/-- A list out of what is known of each index. -/
theorem list_of {α : Type} (n : Nat) (Q : Nat → α → Prop) (h : ∀ i, i < n → ∃ a, Q i a) : ∃ l : List α, l.length = n ∧ ∀ i a, l[i]? = some a → Q i a := by
  induction n with
  | zero => exact ⟨[], rfl, fun i a h => by simp at h⟩
  | succ n ih =>
    obtain ⟨l, hl, hq⟩ := ih (fun i hi => h i (by omega))
    obtain ⟨a, ha⟩ := h n (by omega)
    refine ⟨l ++ [a], by simp [hl], fun i b hb => ?_⟩
    rcases Nat.lt_or_ge i l.length with hi | hi
    · rw [List.getElem?_append_left hi] at hb; exact hq i b hb
    · rw [List.getElem?_append_right hi] at hb
      have e : i - l.length = 0 := by
        rcases Nat.eq_zero_or_pos (i - l.length) with e | e
        · exact e
        · rw [List.getElem?_eq_none (by simp; omega)] at hb; cases hb
      rw [e] at hb
      simp at hb
      subst hb
      have : i = n := by omega
      subst this
      exact ha

theorem Fit.slice {P : Program} {t e : TypeId} {α : Type} {d : Kd α} {ok : α → Prop} (ht : P.underlying t = some (.slice e)) (hsz : P.cellsOf e = d.sz) (he : Fit P e d ok) :
    Fit P t (Kd.slice e d) (fun xs => xs.length ≤ maxLen ∧ ∀ x ∈ xs, ok x) :=
  ⟨fun enc w base spare held fuel cs x hx => by
    rcases open_slice ht hx with ⟨rfl, _⟩ | ⟨a, len, cap, m, n, D, Pl, rfl, hb, hl, hm, hmm, _, hi⟩
    · exact ⟨[], ⟨none, 0, rfl, Nat.le_refl _, rfl, by simp, fun h => absurd h (by simp)⟩, by simp, fun x hx => by simp at hx⟩
    · have hlm : len ≤ m := by rw [hmm]; split <;> omega
      obtain ⟨xs, hxl, hxq⟩ := list_of len (fun i (b : α) => ok b ∧ ∃ c, d.K w b c ∧ c.length = d.sz ∧ ∀ j u, c[j]? = some u → w.cell? (a.add (i * d.sz + j)) = some u) (fun i hlt => by
        obtain ⟨cs', hc, htr⟩ := hi i (by omega)
        obtain ⟨b, hK, hok⟩ := he.go enc w base spare held n cs' _ htr
        rw [hsz] at hc
        obtain ⟨_, hcl, hat⟩ := World.cells?_some hc
        refine ⟨b, hok, cs', hK, hcl, fun j u hu => ?_⟩
        have hj : j < d.sz := by
          rcases Nat.lt_or_ge j cs'.length with hj | hj
          · omega
          · rw [List.getElem?_eq_none hj] at hu; cases hu
        have := hat j hj
        rw [Go.Deep.add_add] at this
        rw [this, hu])
      subst hxl
      refine ⟨xs, ⟨some a, cap, rfl, hl, rfl, by unfold maxLen at hm; omega, fun _ => ⟨a, rfl, fun j p hp => ?_⟩⟩, by omega, fun x hx => ?_⟩
      · obtain ⟨_, c, hK, hcl, hat⟩ := hxq j p hp
        exact ⟨c, hcl, hK, hat⟩
      · obtain ⟨i, hi, rfl⟩ := List.getElem_of_mem hx
        exact (hxq i _ (List.getElem?_eq_getElem hi)).1⟩

/-- The fields of a struct from one place on. -/
structure FitF (P : Program) (fs : List Field) (off : Nat) {α : Type} (k : Kd α) (ok : α → Prop) : Prop where
  go : ∀ {H : Type} (enc : TypeId × Value → H) (w : World) (base : Nat) (spare : Nat → Bool) (held : Bool) (n : Nat) (cs : List Value), cs.length = off + k.sz →
    (∀ f ∈ fs, ∃ y, DataW.trod enc P w base spare held n f.type ((cs.drop f.offset).take (P.cellsOf f.type)) = some y) → ∃ a, k.K w a (cs.drop off) ∧ ok a

theorem FitF.one {P : Program} {f : Field} {off : Nat} {α : Type} {k : Kd α} {ok : α → Prop} (ho : f.offset = off) (hc : P.cellsOf f.type = k.sz) (hf : Fit P f.type k ok) : FitF P [f] off k ok :=
  ⟨fun enc w base spare held n cs hlen h => by
    obtain ⟨y, hy⟩ := h f (List.mem_singleton.2 rfl)
    rw [ho, hc, List.take_of_length_le (by rw [List.length_drop]; omega)] at hy
    exact hf.go enc w base spare held n _ _ hy⟩

theorem FitF.cons {P : Program} {f : Field} {fs : List Field} {off : Nat} {α β : Type} {a : Kd α} {b : Kd β} {oa : α → Prop} {ob : β → Prop} (ho : f.offset = off) (hc : P.cellsOf f.type = a.sz)
    (hf : Fit P f.type a oa) (hr : FitF P fs (off + a.sz) b ob) : FitF P (f :: fs) off (Kd.pair a b) (fun p => oa p.1 ∧ ob p.2) :=
  ⟨fun enc w base spare held n cs hlen h => by
    have hlen2 : cs.length = off + (a.sz + b.sz) := hlen
    obtain ⟨y, hy⟩ := h f List.mem_cons_self
    rw [ho, hc] at hy
    obtain ⟨x, hx, hox⟩ := hf.go enc w base spare held n _ _ hy
    obtain ⟨z, hz, hoz⟩ := hr.go enc w base spare held n cs (by omega) (fun g hg => h g (List.mem_cons_of_mem _ hg))
    exact ⟨(x, z), ⟨(cs.drop off).take a.sz, cs.drop (off + a.sz), by rw [← List.drop_drop]; exact (List.take_append_drop _ _).symm, hx, hz⟩, hox, hoz⟩⟩

theorem Fit.struct {P : Program} {t : TypeId} {fs : Array Field} {α β : Type} {k : Kd α} {ok : α → Prop} {f : β → α} (g : α → β) (hg : ∀ a, f (g a) = a) (ht : P.underlying t = some (.struct fs)) (hsz : P.cellsOf t = k.sz)
    (hf : FitF P fs.toList 0 k ok) : Fit P t (Kd.iso k f) (fun b => ok (f b)) :=
  ⟨fun enc w base spare held fuel cs x hx => by
    obtain ⟨xs, n, _, _, hlen, hxl, hat⟩ := DataW.trod_struct ht hx
    obtain ⟨a, ha, hok⟩ := hf.go enc w base spare held n cs (by rw [hlen, hsz]; omega) (fun fl hfl => by
      obtain ⟨i, hi, he⟩ := List.getElem_of_mem hfl
      have hi' : i < fs.size := by simpa using hi
      have h1 := hat i fl (by rw [← he]; simp [hi'])
      rw [h1]
      exact ⟨_, List.getElem?_eq_getElem (by omega)⟩)
    exact ⟨g a, by show k.K w (f (g a)) cs; rw [hg]; exact ha, by show ok (f (g a)); rw [hg]; exact hok⟩⟩

theorem Fit.structP {P : Program} {t : TypeId} {fs : Array Field} {α : Type} {k : Kd α} {ok : α → Prop} (ht : P.underlying t = some (.struct fs)) (hsz : P.cellsOf t = k.sz)
    (hf : FitF P fs.toList 0 k ok) : Fit P t k ok := Fit.struct (f := id) id (fun _ => rfl) ht hsz hf

/-- An argument's value by its cells: of one cell, or a struct. -/
theorem one_of {v : Value} {u : Value} (hv : ∀ cs, v ≠ .agg cs) (h : v.cells.toList = [u]) : v = u := by
  cases v <;> simp_all [Value.cells]
theorem agg_of {v : Value} {cs : Array Value} {l : List Value} (hv : v = .agg cs) (h : v.cells.toList = l) : v = .agg l.toArray := by
  subst hv
  have : cs.toList = l := h
  rw [← this]
end Go.Proofs.Ytmbdjcmfclgieaa.Open
