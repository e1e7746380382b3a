/- Strings: put together, and made of one byte. -/
import Derived.Test.YtpffahmmklpifaaGreatAbsZI
import Derived.Laws.IdiomStrings
namespace Go.Proofs.YtpffahmmklpifaaGreat.Abs
open Go.RowKit
set_option linter.unusedVariables false
set_option linter.unusedSimpArgs false
section
variable {P : Program} {I : World → Prop} {E : Env} {tm : List AV} {M : Mem} {o : Oper}
theorem QOp.cat {t t' : TypeId} {x y : Operand} {a b : ByteArray} (ho : o.op = .binOp .add t x y t') (hx : sc tm x = some (.string a)) (hy : sc tm y = some (.string b)) (h : a.size + b.size ≤ 9223372036854775807) : QOp P o tm M (.c (.string (a ++ b))) :=
 QOp.str ho hx hy (by simp only [strOp]; rw [if_pos h])
theorem QOp.str1 {s d e : TypeId} {x : Operand} {id g : Nat} {b : Blk} {v : Int} {c : UInt8} (ho : o.op = .convert s d x) (hs : P.underlying s = some (.slice e)) (he : P.underlying e = some (.int .u8)) (hd : P.underlying d = some .string)
 (hx : evA tm x = some (.own id g)) (hM : M[id]? = some (some b)) (hg : b.gen = g) (hbx : b.box = false) (hes : b.es = [[.c (.int .u8 v)]]) (hv : v = ((c.toNat : Nat) : Int)) : QOp P o tm M (.c (.string ⟨#[c]⟩)) := fun base w0 a w Fx β hh hsl => by
 have hrep := hsl.ev hx
 generalize hu : a.eval x = u at hrep
 cases hrep with
 | own h1 hi hgg h =>
  obtain ⟨hd0, hβ, hdu⟩ := h (by rw [← hg]; exact gens_of hM)
  obtain ⟨v1, k, u1, hv1, hbo, hk, hcell, _, _, hR⟩ := hh.cell hM (i := 0) (j := 0) (r := [.c (.int .u8 v)]) (x := .c (.int .u8 v)) (by rw [hes]; rfl) rfl
  rw [hβ] at hv1
  obtain rfl := Option.some.inj hv1
  obtain rfl := (hR rfl).c_inv
  obtain ⟨v2, hv2, _, h2⟩ := hh.blk _ _ hM
  rw [hβ] at hv2
  obtain rfl := Option.some.inj hv2
  rw [hbx] at h2
  obtain ⟨xs, hown, _⟩ := h2
  rw [hes] at hown
  rw [← hdu] at hu
  rcases hown.2 with ⟨e0, hn⟩ | ⟨g', cap, cur, e0, _⟩ <;> rw [e0] at hbo hu
  · simp at hn
  · simp only [blockOf, Option.some.injEq] at hbo
    subst hbo
    refine ⟨_, fun w' hw => ?_, .c _⟩
    have hc := cell_stays hw hk hcell
    have := run_convert_bytes_back (P := P) w' s d e ⟨g', 0, none⟩ cap [c] hs he hd (fun j hj => by
     have : j = 0 := by simp at hj; omega
     subst this
     rw [show (⟨g', 0, none⟩ : Addr).add 0 = ⟨g', 0, none⟩ by simp [Addr.add]]
     rw [Nat.zero_mul, Nat.zero_add] at hc
     rw [hc, hv]
     rfl)
    simp only [List.length_cons, List.length_nil, Nat.zero_add] at this
    simp [execOp, ho, hu, this]
end
abbrev bs (l : List UInt8) : ByteArray := ⟨l.toArray⟩
theorem bs_size (l : List UInt8) : (bs l).size = l.length := by simp [bs, ByteArray.size]
end Go.Proofs.YtpffahmmklpifaaGreat.Abs
