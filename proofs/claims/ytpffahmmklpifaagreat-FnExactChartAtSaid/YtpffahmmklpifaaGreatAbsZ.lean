/- Functions whose contract the kit's own walk gives: of plain values, a plain value. -/
import Derived.Test.YtpffahmmklpifaaGreatAbsY
namespace Go.Proofs.YtpffahmmklpifaaGreat.Abs
open Go.RowKit
set_option linter.unusedVariables false
set_option linter.unusedSimpArgs false

theorem Slots.plain {w : World} {Fx : Nat → Prop} {β : List Hd} {G : List (Option Nat)} {vs : List Value} {us : Array Value} (h : Slots w Fx β G (vs.map .c) us) : us = vs.toArray := by
 have e : us.toList = vs := by
  refine List.ext_getElem? fun i => ?_
  have hsz := h.1
  rcases Nat.lt_or_ge i us.size with hi | hi
  · have hi' : i < vs.length := by rw [hsz] at hi; simpa using hi
    have := h.2 i (.c vs[i]) us[i] (by simp [hi']) (by simp [hi])
    rw [List.getElem?_eq_getElem (by simpa using hi), List.getElem?_eq_getElem hi', Array.getElem_toList, this.c_inv]
  · have hi' : vs.length ≤ i := by rw [hsz] at hi; simpa using hi
    rw [List.getElem?_eq_none (by simpa using hi), List.getElem?_eq_none hi']
 rw [← e]
theorem VCalls.plain {P : Program} {f : FuncId} {vs : List Value} {v : Value} (h : ∀ w, Calls P f vs.toArray w fun e w' => e = .returned v ∧ Below w.heap.size w w') : VCalls P f (vs.map .c) (fun r M => r = .c v ∧ M = []) := by
 intro E vals hM hh hsl
 obtain rfl := hsl.plain
 refine (h E.win).mono ?_
 rintro e w' ⟨rfl, hb⟩
 obtain ⟨hh', m⟩ := hh.step hb
 exact ⟨v, .c v, [], E.Fx, E.β, rfl, ⟨rfl, rfl⟩, hh', ⟨by rw [hM]; exact m, hb.size, fun k hk => .inl hk, fun id b v k h1 => by simp at h1⟩, .c v⟩
theorem clo_rows_b {es : List (List AV)} (h : es.all (fun r => r.all cloB) = true) : ∀ r ∈ es, ∀ x ∈ r, Clo x := fun r hr x hx => clo_of (List.all_eq_true.1 (List.all_eq_true.1 h r hr) x hx)
theorem clo_fn (f : FuncId) : Clo (.fn f []) := fun w Fx β G u hr => by
 cases hr rfl with
 | @fn _ _ us hl h =>
  obtain rfl : us = [] := List.eq_nil_of_length_eq_zero (by simpa using hl)
  exact Rep.fn (us := []) rfl (fun i x u h1 h2 => by simp at h1)
section
variable {P : Program} {E : Env} {tm : List AV} {M : Mem} {o : Oper}
end
end Go.Proofs.YtpffahmmklpifaaGreat.Abs
