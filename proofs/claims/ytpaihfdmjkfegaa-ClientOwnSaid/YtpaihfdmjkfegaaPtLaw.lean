/- The law PlanePoints, walked: every Point, and every Number of any two floats. -/
import Derived.Test.YtpaihfdmjkfegaaRefPoint
namespace Go.Proofs.Ytpaihfdmjkfegaa.Far
open Go.RowKit Go.Proofs.Ytpaihfdmjkfegaa.FI Go.Proofs.Ytpaihfdmjkfegaa.PM

/-- What Point answers, beside the document's answer. -/
def PtBeside (n : Int) (w : World) (e : Ending) (w' : World) : Prop :=
  ∃ b1 b2, Rep b1 (refPt n).1 ∧ Rep b2 (refPt n).2.1 ∧ e = .returned (.tuple #[.complex .f64 b1 b2, .int .i64 (refPt n).2.2]) ∧ w = w'

theorem point_any (n : Int) (w : World) : Calls Try.prog 25 #[.int .i64 n] w (PtBeside n w) := by
  by_cases h : n < 0 ∨ 1099511627776 < n
  · refine (point_out n h w).mono ?_
    rintro e w' ⟨rfl, rfl⟩
    have e1 : refPt n = (0, 0, 2) := by unfold refPt; rw [if_pos h]
    exact ⟨0, 0, by rw [e1]; exact Or.inl (by decide), by rw [e1]; exact Or.inl (by decide), by rw [e1], rfl⟩
  · have := point_in n.toNat (by omega) w
    rw [show ((n.toNat : Nat) : Int) = n from by omega] at this
    refine this.mono ?_
    rintro e w' (⟨h1, b1, b2, r1, r2, rfl, rfl⟩ | ⟨h1, rfl, rfl⟩)
    · have e1 : refPt n = ((pt 41 n.toNat).1, (pt 41 n.toNat).2, 0) := by unfold refPt; rw [if_neg h]; unfold ptAns; unfold ptB at h1; rw [h1]; rfl
      exact ⟨b1, b2, by rw [e1]; exact r1, by rw [e1]; exact r2, by rw [e1], rfl⟩
    · have e1 : refPt n = (0, 0, 2) := by unfold refPt; rw [if_neg h]; unfold ptAns; unfold ptB at h1; rw [h1]; rfl
      exact ⟨0, 0, by rw [e1]; exact Or.inl (by decide), by rw [e1]; exact Or.inl (by decide), by rw [e1], rfl⟩

theorem inB_bounds {x : Int} (h : inB x = true) : -1024 ≤ x ∧ x ≤ 1024 := by unfold inB at h; simpa using h

theorem refPt_bounds (n : Int) : (-1024 ≤ (refPt n).1 ∧ (refPt n).1 ≤ 1024) ∧ (-1024 ≤ (refPt n).2.1 ∧ (refPt n).2.1 ≤ 1024) := by
  unfold refPt
  split
  · simp
  · unfold ptAns
    split
    · rename_i h
      rw [Bool.and_eq_true] at h
      exact ⟨inB_bounds h.1, inB_bounds h.2⟩
    · simp

end Go.Proofs.Ytpaihfdmjkfegaa.Far
