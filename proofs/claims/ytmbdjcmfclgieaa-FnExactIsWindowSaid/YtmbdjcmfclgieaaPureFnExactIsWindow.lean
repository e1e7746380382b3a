/- IsWindow of the program and of the reference are one function of four numbers, and it always answers. -/
import Derived.Test.YtmbdjcmfclgieaaFitFnExactIsWindow
namespace Go.Proofs.Ytmbdjcmfclgieaa.Pure
open Go.RowKit Go.Proofs.Ytmbdjcmfclgieaa.PFnExactIsWindow Go.Proofs.YtmbdjcmfclgieaaW.PrintWords Go.Proofs.YtmbdjcmfclgieaaW.PrintLast

theorem win_eq (a b c d : Int) : spec_IsWindow.f a b c d = impl_IsWindow.f a b c d := rfl

theorem inr (a b c : Int) : ∃ r, impl_InRange.f a b c = some r := by
  unfold impl_InRange.f
  split
  · exact ⟨_, rfl⟩
  · exact ⟨_, rfl⟩

theorem pt_some (a b : Int) : ∃ r, impl_IsPoint.f a b = some r := by
  unfold impl_IsPoint.f
  obtain ⟨r, hr⟩ := inr a 0 200
  obtain ⟨s, hs⟩ := inr b 0 200
  rw [hr, hs]
  cases r
  · exact ⟨_, rfl⟩
  · exact ⟨_, rfl⟩

theorem win_some (a b c d : Int) : ∃ r, impl_IsWindow.f a b c d = some r := by
  unfold impl_IsWindow.f
  obtain ⟨r, hr⟩ := pt_some a b
  obtain ⟨s, hs⟩ := inr c 1 200
  obtain ⟨t, ht⟩ := inr d 0 4
  rw [hr, hs, ht]
  cases r
  · exact ⟨_, rfl⟩
  · cases s
    · exact ⟨_, rfl⟩
    · simp only [Option.bind_some, if_true]
      split
      · split
        · exact ⟨_, rfl⟩
        · exact ⟨_, rfl⟩
      · exact ⟨_, rfl⟩

/-- The pure law. -/
theorem FnExactIsWindow : FnExactIsWindow.Pure := by
  intro a b c d _
  obtain ⟨r, hr⟩ := win_some a b c d
  simp [laws_FnExactIsWindow.f, laws_toWindow.f, laws_toPoint.f, win_eq, hr]

end Go.Proofs.Ytmbdjcmfclgieaa.Pure
