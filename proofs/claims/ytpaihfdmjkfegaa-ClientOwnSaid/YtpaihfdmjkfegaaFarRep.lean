/- plane.Far of floats that stand for a place's parts; cmp.Compare of numbers. -/
import Derived.Test.YtpaihfdmjkfegaaPtLaw
namespace Go.Proofs.Ytpaihfdmjkfegaa.Far
open Go.RowKit Go.Proofs.Ytpaihfdmjkfegaa.FI Go.Proofs.Ytpaihfdmjkfegaa.PM

theorem far_rep {b1 b2 c1 c2 : Nat} {X Y U V : Int} (r1 : Rep b1 X) (r2 : Rep b2 Y) (r3 : Rep c1 U) (r4 : Rep c2 V) (h1 : -1024 ≤ X ∧ X ≤ 1024) (h2 : -1024 ≤ Y ∧ Y ≤ 1024) (h3 : -1024 ≤ U ∧ U ≤ 1024) (h4 : -1024 ≤ V ∧ V ≤ 1024) (w : World) :
    Calls Try.prog 33 #[.complex .f64 b1 b2, .complex .f64 c1 c2] w fun e w' => e = .returned (.int .i64 (farW X Y U V)) ∧ w = w' := by
  obtain ⟨p1, p2⟩ := rep_pok r1 (by omega)
  obtain ⟨p3, p4⟩ := rep_pok r2 (by omega)
  obtain ⟨p5, p6⟩ := rep_pok r3 (by omega)
  obtain ⟨p7, p8⟩ := rep_pok r4 (by omega)
  rw [decide_eq_true h1.1, decide_eq_true h1.2] at p1
  rw [decide_eq_true h2.1, decide_eq_true h2.2] at p3
  rw [decide_eq_true h3.1, decide_eq_true h3.2] at p5
  rw [decide_eq_true h4.1, decide_eq_true h4.2] at p7
  have := far_yes b1 b2 c1 c2 (by unfold ofB; rw [p1, p3]; rfl) (by unfold ofB; rw [p5, p7]; rfl) w
  rw [p2 p1, p4 p3, p6 p5, p8 p7] at this
  exact this

def cmp3 (a b : Int) : Int := if a < b then -1 else if a > b then 1 else 0
theorem cmp_any (a b : Int) (w : World) : Calls Try.prog 36 #[.int .i64 a, .int .i64 b] w fun e w' => e = .returned (.int .i64 (cmp3 a b)) ∧ w = w' := by
  by_cases h1 : a < b
  · have e : cmp3 a b = -1 := by unfold cmp3; rw [if_pos h1]
    rw [e]
    clear e
    go_enter Try.func36, Try.ntmps36
    go_wp2
    go_ret
    exact ⟨rfl, rfl⟩
  · by_cases h2 : a > b
    · have e : cmp3 a b = 1 := by unfold cmp3; rw [if_neg h1, if_pos h2]
      rw [e]
      clear e
      go_enter Try.func36, Try.ntmps36
      go_wp2
      go_ret
      exact ⟨rfl, rfl⟩
    · have e : cmp3 a b = 0 := by unfold cmp3; rw [if_neg h1, if_neg h2]
      rw [e]
      clear e
      go_enter Try.func36, Try.ntmps36
      go_wp2
      go_ret
      exact ⟨rfl, rfl⟩
end Go.Proofs.Ytpaihfdmjkfegaa.Far
