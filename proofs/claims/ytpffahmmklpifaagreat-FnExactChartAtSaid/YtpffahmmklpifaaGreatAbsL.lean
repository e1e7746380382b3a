/- Arguments that can be read as data, over abstract states; and a law's walk as a row takes it. -/
import Derived.Test.YtpffahmmklpifaaGreatAbsK
import Derived.Deep.Slices
import Derived.ChangeArms
import Derived.WideShapes
import Derived.ChangeOld
namespace Go.Proofs.YtpffahmmklpifaaGreat.Abs
open Go.RowKit Go.ChangeShapes Go.WideShapes Go.Deep
set_option linter.unusedVariables false
set_option linter.unusedSimpArgs false

structure AFit (P : Program) (t : TypeId) (sz : Nat) {α : Type} (en : α → List AV) (ok : α → Prop) : Prop where
 csz : P.cellsOf t = sz
 len : ∀ a, (en a).length = sz
 go : ∀ {H : Type} (enc : TypeId × Value → H) (w : World) (base : Nat) (spare : Nat → Bool) (held : Bool) (fuel : Nat) (cs : List Value) (x : DataW H × List MemPlace),
  cs.length = sz → DataW.trod enc P w base spare held fuel t cs = some x → ∃ a, ok a ∧ ∀ (i : Nat) y u, (en a)[i]? = some y → cs[i]? = some u → u.oneCell' = true ∧ Rep w (fun k => k < w.heap.size) [] [] y u

theorem get_one {α : Type} {a b : α} {i : Nat} (h : [a][i]? = some b) : i = 0 ∧ b = a := by
 cases i with
 | zero => simp at h; exact ⟨rfl, h.symm⟩
 | succ i => simp at h
theorem AFit.int {P : Program} {t : TypeId} {k : IntKind} (hc : P.cellsOf t = 1) (ht : P.underlying t = some (.int k)) : AFit P t 1 (fun n => [.c (.int k n)]) (fun n => (Lit.int k n).wf = true) :=
 ⟨hc, fun a => rfl, fun enc w base spare held fuel cs x hl hx => by
  obtain ⟨n, rfl, _, hw⟩ := DataW.trod_int ht hx
  refine ⟨n, hw, fun i y u hy hu => ?_⟩
  obtain ⟨rfl, rfl⟩ := get_one hy
  obtain ⟨_, rfl⟩ := get_one hu
  exact ⟨rfl, .c _⟩⟩
theorem AFit.bool {P : Program} {t : TypeId} (hc : P.cellsOf t = 1) (ht : P.underlying t = some .bool) : AFit P t 1 (fun b => [.c (.bool b)]) (fun _ => True) :=
 ⟨hc, fun a => rfl, fun enc w base spare held fuel cs x hl hx => by
  obtain ⟨n, rfl, _⟩ := DataW.trod_bool ht hx
  refine ⟨n, trivial, fun i y u hy hu => ?_⟩
  obtain ⟨rfl, rfl⟩ := get_one hy
  obtain ⟨_, rfl⟩ := get_one hu
  exact ⟨rfl, .c _⟩⟩
theorem AFit.string {P : Program} {t : TypeId} (hc : P.cellsOf t = 1) (ht : P.underlying t = some .string) : AFit P t 1 (fun s => [.c (.string s)]) (fun s => s.size ≤ maxLen) :=
 ⟨hc, fun a => rfl, fun enc w base spare held fuel cs x hl hx => by
  obtain ⟨n, rfl, _, hw⟩ := DataW.trod_string ht hx
  refine ⟨n, hw, fun i y u hy hu => ?_⟩
  obtain ⟨rfl, rfl⟩ := get_one hy
  obtain ⟨_, rfl⟩ := get_one hu
  exact ⟨rfl, .c _⟩⟩
def cellOr (w : World) (a : Addr) : Value := match w.cell? a with
 | some u => if u.oneCell' then u else .bool false
 | none => .bool false
theorem cellOr_one (w : World) (a : Addr) : (cellOr w a).oneCell' = true := by
 unfold cellOr
 split
 · split
   · assumption
   · rfl
 · rfl
theorem cellOr_some {w : World} {a : Addr} {u : Value} (h : w.cell? a = some u) (h1 : u.oneCell' = true) : cellOr w a = u := by simp [cellOr, h, h1]
theorem block_of_cell {w : World} {a : Addr} {u : Value} (h : w.cell? a = some u) : a.block < w.heap.size := by
 rcases Nat.lt_or_ge a.block w.heap.size with hl | hl
 · exact hl
 · have : w.heap[a.block]? = none := Array.getElem?_eq_none hl
   simp [World.cell?, this] at h
theorem AFit.slice {P : Program} {t e : TypeId} {sz : Nat} {α : Type} {en : α → List AV} {ok : α → Prop} (hc : P.cellsOf t = 1) (ht : P.underlying t = some (.slice e)) (hs0 : 0 < sz) (he : AFit P e sz en ok) :
 AFit P t 1 (fun xs : List α => [.ro sz (xs.map en)]) (fun xs => xs.length ≤ maxLen ∧ ∀ x ∈ xs, ok x) :=
 ⟨hc, fun a => rfl, fun enc w base spare held fuel cs x hl hx => by
  rcases open_slice ht hx with ⟨rfl, _⟩ | ⟨a, len, cap, m, n, D, Pl, rfl, hb, hl, hm, hmm, _, hi⟩
  · refine ⟨[], ⟨by simp, fun x hx => by simp at hx⟩, fun i y u hy hu => ?_⟩
    obtain ⟨rfl, rfl⟩ := get_one hy
    obtain ⟨_, rfl⟩ := get_one hu
    exact ⟨rfl, Rep.ro (es := []) (fun _ _ => .bool false) (by simp) (by simp) (fun h => absurd h (by simp)) (fun i r hr => by simp at hr) (fun _ _ => rfl) (fun i r j x hr => by simp at hr)⟩
  · have hlm : len ≤ m := by rw [hmm]; split <;> omega
    obtain ⟨xs, hxl, hxq⟩ := list_of len (fun i (b : α) => ok b ∧ ∀ j, j < sz → ∃ u, w.cell? (a.add (i * sz + j)) = some u ∧ u.oneCell' = true ∧ ∀ y, (en b)[j]? = some y → Rep w (fun k => k < w.heap.size) [] [] y u) (fun i hlt => by
     obtain ⟨cs', hc', htr⟩ := hi i (by omega)
     rw [he.csz] at hc'
     obtain ⟨_, hcl, hat⟩ := World.cells?_some hc'
     obtain ⟨b, hok, hrep⟩ := he.go enc w base spare held n cs' _ hcl htr
     refine ⟨b, hok, fun j hj => ?_⟩
     have hj2 : j < (en b).length := by rw [he.len]; exact hj
     have hj3 : j < cs'.length := by rw [hcl]; exact hj
     have h3 := hat j hj
     rw [Go.Deep.add_add, List.getElem?_eq_getElem hj3] at h3
     obtain ⟨g1, _⟩ := hrep j _ _ (List.getElem?_eq_getElem hj2) (List.getElem?_eq_getElem hj3)
     exact ⟨_, h3, g1, fun y hy => (hrep j y _ hy (List.getElem?_eq_getElem hj3)).2⟩)
    subst hxl
    refine ⟨xs, ⟨by omega, fun x hx => ?_⟩, fun i y u hy hu => ?_⟩
    · obtain ⟨i, hi, rfl⟩ := List.getElem_of_mem hx
      exact (hxq i _ (List.getElem?_eq_getElem hi)).1
    · obtain ⟨rfl, rfl⟩ := get_one hy
      obtain ⟨_, rfl⟩ := get_one hu
      refine ⟨rfl, ?_⟩
      have e : xs.length = (xs.map en).length := by simp
      have key := Rep.ro (w := w) (Fx := fun k => k < w.heap.size) (β := []) (G := []) (sz := sz) (es := xs.map en) (a := some a) (cap := cap) (fun i j => cellOr w (a.add (i * sz + j))) (by simpa using hl) (by unfold maxLen at hm; simp; omega) (fun hpos => ⟨a, rfl, ?_, fun i r j hr hj => ?_⟩) (fun i r hr => ?_) (fun i j => cellOr_one _ _) (fun i r j x hr hx => ?_)
      · rw [← e] at key; exact key
      · have hpos' : 0 < xs.length := by simpa using hpos
        obtain ⟨u, hu, _⟩ := (hxq 0 _ (List.getElem?_eq_getElem hpos')).2 0 hs0
        have := block_of_cell hu
        rwa [block_add] at this
      · rw [List.getElem?_map] at hr
        cases hq : xs[i]? with
        | none => rw [hq] at hr; cases hr
        | some b =>
         obtain ⟨u, hu, h1, _⟩ := (hxq i b hq).2 j hj
         rw [hu, cellOr_some hu h1]
      · rw [List.getElem?_map] at hr
        cases hq : xs[i]? with
        | none => rw [hq] at hr; cases hr
        | some b =>
         rw [hq] at hr
         obtain rfl := Option.some.inj hr
         exact he.len b
      · rw [List.getElem?_map] at hr
        cases hq : xs[i]? with
        | none => rw [hq] at hr; cases hr
        | some b =>
         rw [hq] at hr
         obtain rfl := Option.some.inj hr
         have hj : j < sz := by rw [← he.len b]; exact (List.getElem?_eq_some_iff.1 hx).1
         obtain ⟨u, hu, h1, h2⟩ := (hxq i b hq).2 j hj
         rw [cellOr_some hu h1]
         exact h2 x hx⟩

structure AFitF (P : Program) (fs : List Field) (off sz : Nat) {α : Type} (en : α → List AV) (ok : α → Prop) : Prop where
 len : ∀ a, (en a).length = sz
 go : ∀ {H : Type} (enc : TypeId × Value → H) (w : World) (base : Nat) (spare : Nat → Bool) (held : Bool) (n : Nat) (cs : List Value), cs.length = off + sz →
  (∀ f ∈ fs, ∃ y, DataW.trod enc P w base spare held n f.type ((cs.drop f.offset).take (P.cellsOf f.type)) = some y) → ∃ a, ok a ∧ ∀ (i : Nat) y u, (en a)[i]? = some y → cs[off + i]? = some u → u.oneCell' = true ∧ Rep w (fun k => k < w.heap.size) [] [] y u
theorem AFitF.one {P : Program} {f : Field} {off sz : Nat} {α : Type} {en : α → List AV} {ok : α → Prop} (ho : f.offset = off) (hf : AFit P f.type sz en ok) : AFitF P [f] off sz en ok :=
 ⟨hf.len, fun enc w base spare held n cs hlen h => by
  obtain ⟨y, hy⟩ := h f (List.mem_singleton.2 rfl)
  rw [ho, hf.csz, List.take_of_length_le (by rw [List.length_drop]; omega)] at hy
  obtain ⟨a, hok, hr⟩ := hf.go enc w base spare held n _ _ (by rw [List.length_drop]; omega) hy
  exact ⟨a, hok, fun i y u hy hu => hr i y u hy (by rw [List.getElem?_drop]; exact hu)⟩⟩
theorem AFitF.cons {P : Program} {f : Field} {fs : List Field} {off s1 s2 : Nat} {α β : Type} {ea : α → List AV} {eb : β → List AV} {oa : α → Prop} {ob : β → Prop} (ho : f.offset = off)
 (hf : AFit P f.type s1 ea oa) (hr : AFitF P fs (off + s1) s2 eb ob) : AFitF P (f :: fs) off (s1 + s2) (fun p : α × β => ea p.1 ++ eb p.2) (fun p => oa p.1 ∧ ob p.2) :=
 ⟨fun p => by rw [List.length_append, hf.len, hr.len], fun enc w base spare held n cs hlen h => by
  obtain ⟨y, hy⟩ := h f List.mem_cons_self
  rw [ho, hf.csz] at hy
  obtain ⟨a, hoa, ha⟩ := hf.go enc w base spare held n _ _ (by rw [List.length_take, List.length_drop]; omega) hy
  obtain ⟨b, hob, hb⟩ := hr.go enc w base spare held n cs (by omega) (fun g hg => h g (List.mem_cons_of_mem _ hg))
  refine ⟨(a, b), ⟨hoa, hob⟩, fun i y u hy hu => ?_⟩
  rcases Nat.lt_or_ge i s1 with hi | hi
  · rw [List.getElem?_append_left (by rw [hf.len]; exact hi)] at hy
    exact ha i y u hy (by rw [List.getElem?_take, if_pos hi, List.getElem?_drop]; exact hu)
  · rw [List.getElem?_append_right (by rw [hf.len]; exact hi), hf.len] at hy
    exact hb (i - s1) y u hy (by rw [← hu]; congr 1; omega)⟩
theorem AFit.struct {P : Program} {t : TypeId} {fs : Array Field} {sz : Nat} {α β : Type} {en : α → List AV} {ok : α → Prop} {en2 : β → List AV} {ok2 : β → Prop} (g : α → β) (hen : ∀ a, en2 (g a) = en a) (hlen : ∀ b, (en2 b).length = sz) (hok : ∀ a, ok a → ok2 (g a)) (ht : P.underlying t = some (.struct fs)) (hsz : P.cellsOf t = sz)
 (hf : AFitF P fs.toList 0 sz en ok) : AFit P t sz en2 ok2 :=
 ⟨hsz, hlen, fun enc w base spare held fuel cs x hl hx => by
  obtain ⟨xs, n, _, _, hlen, hxl, hat⟩ := DataW.trod_struct ht hx
  obtain ⟨a, hok', ha⟩ := hf.go enc w base spare held n cs (by rw [hlen, hsz]; omega) (fun fl hfl => by
   obtain ⟨i, hi, he⟩ := List.getElem_of_mem hfl
   have hi' : i < fs.size := by simpa using hi
   have h1 := hat i fl (by rw [← he]; simp [hi'])
   rw [h1]
   exact ⟨_, List.getElem?_eq_getElem (by omega)⟩)
  exact ⟨g a, hok a hok', fun i y u hy hu => ha i y u (by rw [← hen]; exact hy) (by rw [Nat.zero_add]; exact hu)⟩⟩

theorem AFit.agg {P : Program} {t : TypeId} {sz : Nat} {α : Type} {en : α → List AV} {ok : α → Prop} (h : AFit P t sz en ok) {H : Type} (enc : TypeId × Value → H) (w : World) (base : Nat) (spare : Nat → Bool) (held : Bool) (fuel : Nat) {cs : Array Value} {x : DataW H × List MemPlace}
 (hl : cs.size = sz) (hx : DataW.trod enc P w base spare held fuel t (Value.agg cs).cells.toList = some x) : ∃ a, ok a ∧ Rep w (fun k => k < w.heap.size) [] [] (.agg (en a)) (.agg cs) := by
 have e : (Value.agg cs).cells.toList = cs.toList := rfl
 rw [e] at hx
 obtain ⟨a, hok, hr⟩ := h.go enc w base spare held fuel _ _ (by simpa using hl) hx
 refine ⟨a, hok, Rep.agg (us := cs.toList) (by rw [h.len]; simpa using hl) (fun u hu => ?_) (fun i y u hy hu => (hr i y u hy hu).2)⟩
 obtain ⟨i, hi⟩ := List.getElem?_of_mem hu
 have hlt : i < (en a).length := by rw [h.len, ← hl]; have := (List.getElem?_eq_some_iff.1 hi).1; simpa using this
 exact (hr i _ u (List.getElem?_eq_getElem hlt) hi).1
theorem AFit.aggS {P : Program} {t : TypeId} {sz : Nat} {α : Type} {en : α → List AV} {ok : α → Prop} {fs : Array Field} (h : AFit P t sz en ok) (ht : P.underlying t = some (.struct fs)) {H : Type} (enc : TypeId × Value → H) (w : World) (base : Nat) (spare : Nat → Bool) (held : Bool) (fuel : Nat) {cs : Array Value} {x : DataW H × List MemPlace}
 (hx : DataW.trod enc P w base spare held fuel t (Value.agg cs).cells.toList = some x) : ∃ a, ok a ∧ Rep w (fun k => k < w.heap.size) [] [] (.agg (en a)) (.agg cs) := by
 obtain ⟨xs, n, _, _, hlen, _⟩ := DataW.trod_struct ht hx
 exact h.agg enc w base spare held fuel (by rw [← h.csz, ← hlen]; rfl) hx
theorem AFit.one {P : Program} {t : TypeId} {α : Type} {en : α → AV} {ok : α → Prop} (h : AFit P t 1 (fun a => [en a]) ok) {H : Type} (enc : TypeId × Value → H) (w : World) (base : Nat) (spare : Nat → Bool) (held : Bool) (fuel : Nat) {v : Value} {x : DataW H × List MemPlace}
 (hv : v.oneCell' = true) (hx : DataW.trod enc P w base spare held fuel t v.cells.toList = some x) : ∃ a, ok a ∧ Rep w (fun k => k < w.heap.size) [] [] (en a) v := by
 have e : v.cells = #[v] := by cases v <;> simp_all [Value.cells, Value.oneCell']
 rw [e] at hx
 obtain ⟨a, hok, hr⟩ := h.go enc w base spare held fuel _ _ rfl hx
 exact ⟨a, hok, (hr 0 _ v rfl rfl).2⟩
theorem Slots.nil {w : World} {Fx : Nat → Prop} {β : List Hd} {G : List (Option Nat)} : Slots w Fx β G [] #[] := ⟨rfl, fun t x u h => by simp at h⟩
theorem Slots.of {w : World} {Fx : Nat → Prop} {β : List Hd} {G : List (Option Nat)} {x : AV} {xs : List AV} {u : Value} {us : List Value} (h : Rep w Fx β G x u) (hs : Slots w Fx β G xs us.toArray) : Slots w Fx β G (x :: xs) (u :: us).toArray := by
 refine ⟨by have := hs.1; simp at this; simp [this], fun t y v hy hv => ?_⟩
 cases t with
 | zero => simp at hy hv; subst hy; subst hv; exact h
 | succ t => exact hs.2 t y v (by simpa using hy) (by simpa using hv)
theorem VCalls.law {P : Program} {f : FuncId} {args : List AV} {R : AV → Mem → Prop} {W : World} {vals : List Value} (h : VCalls P f args R) (hr : ∀ r M, R r M → r = .c (.bool true)) (hs : Slots W (fun k => k < W.heap.size) [] [] args vals.toArray) :
 Calls P f vals.toArray W fun e w' => e = .returned (.bool true) ∧ Below W.heap.size W w' := by
 refine (h ⟨W.heap.size, W, W, fun k => k < W.heap.size, [], []⟩ _ rfl ⟨Below.refl _ _, Nat.le_refl _, fun k hk => hk, rfl, fun id b h => by simp at h, fun i1 i2 b1 b2 v1 v2 k _ h => by simp at h⟩ hs).mono ?_
 rintro e w' ⟨v, r, M', Fx, β, rfl, hR, hh, ho, hrep⟩
 obtain rfl := hr r M' hR
 obtain rfl := hrep.c_inv
 exact ⟨rfl, hh.bel⟩
end Go.Proofs.YtpffahmmklpifaaGreat.Abs
