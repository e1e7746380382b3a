/- Steps in a drawn region. -/
import Derived.Test.YtpffahmmklpifaaGreatAbsN
namespace Go.Proofs.YtpffahmmklpifaaGreat.Abs
open Go.RowKit
set_option linter.unusedVariables false
set_option linter.unusedSimpArgs false

def zeroA (P : Program) (t : TypeId) : Option (List AV) := match (P.info? t).map (·.zero) with
 | some (some z) => match z.cells.toList.all (·.oneCell') with
  | true => some (z.cells.toList.map .c)
  | false => none
 | _ => none
theorem zeroA_inv {P : Program} {t : TypeId} {cs : List AV} (h : zeroA P t = some cs) : ∃ z, (P.info? t).map (·.zero) = some (some z) ∧ cs = z.cells.toList.map .c ∧ z.cells.toList.all (·.oneCell') = true := by
 unfold zeroA at h
 split at h
 · rename_i z hz
   split at h
   · rename_i h1
     exact ⟨z, hz, (Option.some.inj h).symm, h1⟩
   · cases h
 · cases h
def isC : AV → Bool | .c _ => true | _ => false
def cloB : AV → Bool
 | .c _ => true
 | .agg cs => cs.all isC
 | .tup cs => cs.all fun x => match x with
  | .c _ => true
  | .agg cs => cs.all isC
  | _ => false
 | _ => false
theorem isC_clo {x : AV} (h : isC x = true) : Clo x := by
 unfold isC at h
 split at h
 · exact clo_c _
 · cases h
theorem clo_of {x : AV} (h : cloB x = true) : Clo x := by
 unfold cloB at h
 split at h
 · exact clo_c _
 · exact Clo.agg fun x hx => isC_clo (List.all_eq_true.1 h x hx)
 · refine Clo.tup fun x hx => ?_
   have := List.all_eq_true.1 h x hx
   split at this
   · exact clo_c _
   · exact Clo.agg fun x hx => isC_clo (List.all_eq_true.1 this x hx)
   · cases this
 · cases h
theorem clo_all {l : List AV} (h : l.all cloB = true) : ∀ x ∈ l, Clo x := fun x hx => clo_of (List.all_eq_true.1 h x hx)
section
variable {P : Program} {E : Env} {T : Tbl} {tm : List AV} {M : Mem} {o : Oper} {ops : Array Oper} {rest : List Oper} {N : List AV → Prop}
theorem DL.nil (h : N tm) : DL P ops E M [] tm N := h
theorem DL.p {r : AV} (hg : o.guard = none) (h : POp P o E (msk (o.looksAt ops) tm) M r M) (hN : DL P ops E M rest (dput tm o.dst r) N) : DL P ops E M (o :: rest) tm N :=
 ⟨r, by unfold GOp; rw [hg]; exact h, hN⟩
theorem DL.q {r : AV} (hT : T.Ok P) (hg : o.guard = none) (h : Abs.quietA T (msk (o.looksAt ops) tm) M o.op = some r) (hN : DL P ops E M rest (dput tm o.dst r) N) : DL P ops E M (o :: rest) tm N :=
 DL.p hg (POp.quiet (QOp.quietA hT h)) hN
theorem DL.g {j d : Nat} {oj : Oper} {b t : Bool} {r : AV} (hg : o.guard = some (j, b)) (hj : ops[j]? = some oj) (hd : oj.dst = some d) (hb : evA (msk (o.looksAt ops) tm) (.tmp d) = some (.c (.bool t)))
 (h : t = b → POp P o E (msk (o.looksAt ops) tm) M r M) (hN : DL P ops E M rest (dput tm o.dst (.when (bif b then t else !t) r)) N) : DL P ops E M (o :: rest) tm N :=
 ⟨_, by unfold GOp; rw [hg]; exact ⟨oj, d, hj, hd, .inl ⟨t, r, hb, h, rfl⟩⟩, hN⟩
theorem POp.q {r : AV} (hT : T.Ok P) (h : Abs.quietA T tm M o.op = some r) : POp P o E tm M r M := POp.quiet (QOp.quietA hT h)
theorem POp.allocA {t : TypeId} {cs : List AV} (ho : o.op = .alloc t) (hz : zeroA P t = some cs) : POp P o E tm M (.ref M.length 0 cs.length 0 0) (M ++ [some ⟨t, cs.length, 0, true, [cs]⟩]) := by
 obtain ⟨z, h1, h2, h3⟩ := zeroA_inv hz
 exact POp.alloc ho h1 h2 h3
theorem OpA.allocA {t : TypeId} {cs : List AV} {N : NPost} (ho : o.op = .alloc t) (hz : zeroA P t = some cs) (hn : N (dput tm o.dst (.ref M.length 0 cs.length 0 0)) (M ++ [some ⟨t, cs.length, 0, true, [cs]⟩])) : OpA P o E tm M N :=
 OpA.pop (POp.allocA ho hz) hn
end
end Go.Proofs.YtpffahmmklpifaaGreat.Abs
