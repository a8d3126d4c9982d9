/- AgeChecks, the plain law: what the printed walk computes is true. -/
import Derived.Test.YtmmaolhmhdjldaaPAgeChecksx2
namespace Go.Proofs.Ytmmaolhmhdjldaa.zAgeChecks
open Go.RowKit Go.Proofs.Ytmmaolhmhdjldaa.PAgeChecks

theorem next_same (a b : Int) : bursarref02_Next.f a b = age_Next.f a b := rfl

theorem next_some (a b : Int) : ∃ r, age_Next.f a b = some r := by
  unfold age_Next.f; repeat' split
  all_goals exact ⟨_, rfl⟩

theorem check_good (n c : Int) : (bursarref02_Good.f n c = some true ∧ age_Check.f n c = some 0) ∨ (bursarref02_Good.f n c = some false ∧ age_Check.f n c = some 2) := by
  unfold bursarref02_Good.f age_Check.f
  repeat' split
  all_goals first | (exfalso; omega) | (left; refine ⟨?_, rfl⟩; simp; omega) | (right; refine ⟨?_, rfl⟩; simp; try omega)

theorem pure (n c s k : Int) : bursarlaw02_AgeChecks.f 1 n c s k = some true := by
  obtain ⟨r, hr⟩ := next_some s k
  rcases check_good n c with ⟨h1, h2⟩ | ⟨h1, h2⟩ <;> simp [bursarlaw02_AgeChecks.f, bursarlaw02_AgeChecks.j0, bursarlaw02_num.f, next_same, hr, h1, h2]

theorem walk (n c s k : Int) (_h1 : (Lit.int .i64 n).wf = true) (_h2 : (Lit.int .i64 c).wf = true) (_h3 : (Lit.int .i64 s).wf = true) (_h4 : (Lit.int .i64 k).wf = true) (w : World) :
    Calls Try.prog 3 #[.agg #[.int .i64 n, .int .i64 c], .int .i64 s, .int .i64 k] w fun e w' => e = .returned (.bool true) ∧ Below w.heap.size w w' :=
  bursarlaw02_AgeChecks.calls 1 n c s k true w (pure n c s k)
end Go.Proofs.Ytmmaolhmhdjldaa.zAgeChecks
