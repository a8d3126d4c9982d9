/- What a history's checks ask of others: well formed, who is older. -/
import Derived.Test.YtmmaolhmhdjldaaHistLaw
import Derived.Test.YtmmaolhmhdjldaaPHistoryChecksx2
namespace Go.Proofs.Ytmmaolhmhdjldaa.Hist
open Go.RowKit Go.Proofs.Ytmmaolhmhdjldaa.PHistoryChecks Go.Proofs.YtmmaolhmhdjldaaW.PrintWords

theorem good_any (n c : Int) (w : World) :
    Calls Try.prog 20 #[.agg #[.int .i64 n, .int .i64 c]] w fun e w' => e = .returned (.bool (good n c)) ∧ Below w.heap.size w w' := by
  refine bursarref02_Good.calls n c _ w ?_
  unfold bursarref02_Good.f good
  by_cases h1 : 1 ≤ n <;> by_cases h2 : n ≤ 1099511627776 <;> by_cases h3 : 0 ≤ c <;> simp [h1, h2, h3]

theorem check_any (n c : Int) (w : World) :
    Calls Try.prog 24 #[.agg #[.int .i64 n, .int .i64 c]] w fun e w' => e = .returned (.int .i64 (if good n c then 0 else 2)) ∧ Below w.heap.size w w' := by
  refine age_Check.calls n c _ w ?_
  unfold age_Check.f good
  by_cases h1 : n < 1
  · simp [h1, show ¬ 1 ≤ n by omega]
  · by_cases h2 : n > 1099511627776
    · simp [h1, h2, show ¬ n ≤ 1099511627776 by omega]
    · by_cases h3 : c < 0
      · simp [h1, h2, h3, show ¬ 0 ≤ c by omega]
      · by_cases h4 : c ≥ 16
        · simp [h1, h2, h3, h4, show ¬ c < 16 by omega]
        · simp [h1, h2, h3, h4, show 1 ≤ n by omega, show n ≤ 1099511627776 by omega, show 0 ≤ c by omega, show c < 16 by omega]

theorem refcmp_any (a b c d : Int) (w : World) :
    Calls Try.prog 29 #[.agg #[.int .i64 a, .int .i64 b], .agg #[.int .i64 c, .int .i64 d]] w fun e w' => e = .returned (.int .i64 (ageCmp a b c d)) ∧ Below w.heap.size w w' := by
  refine bursarref02_Compare.calls a b c d _ w ?_
  unfold bursarref02_Compare.f ageCmp
  repeat' split
  all_goals rfl

/-- Which of two numbers is less. -/
def cmp3 (a b : Int) : Int := if a < b then -1 else if a > b then 1 else 0

theorem cmp_int (a b : Int) : cmp_Compare_int.f a b = some (cmp3 a b) := by
  simp only [cmp_Compare_int.f, cmp_isNaN_int.f, Option.bind_some, cmp3]
  simp only [bne_self_eq_false, Bool.false_eq_true, if_false]
  split
  · rfl
  · split <;> rfl

theorem or_two (x y : Int) : cmp_Or_int.f 3 [x, y] = some (if x = 0 then y else x) := by
  have e1 : wrap64 1 = 1 := by unfold wrap64; omega
  have e2 : wrap64 2 = 2 := by unfold wrap64; omega
  by_cases hx : x = 0
  · by_cases hy : y = 0
    · simp [cmp_Or_int.f, cmp_Or_int.l0, rd, e1, e2, hx, hy]
    · simp [cmp_Or_int.f, cmp_Or_int.l0, rd, e1, hx, hy]
  · simp [cmp_Or_int.f, cmp_Or_int.l0, rd, hx]

theorem age_cmp (a b c d : Int) : age_Compare.f 3 a b c d = some (ageCmp a b c d) := by
  unfold age_Compare.f
  by_cases h : (a == c && (b == d)) = true
  · rw [if_pos h]
    simp only [Bool.and_eq_true, beq_iff_eq] at h
    unfold ageCmp
    repeat' split
    all_goals first | (exfalso; omega) | rfl
  · rw [if_neg h, cmp_int, cmp_int]
    simp only [Option.bind_some]
    rw [or_two]
    simp only [Option.bind_some, Option.some.injEq]
    unfold ageCmp cmp3
    repeat' split
    all_goals first | (exfalso; omega) | rfl | omega

theorem cmp_any (a b c d : Int) (w : World) :
    Calls Try.prog 28 #[.agg #[.int .i64 a, .int .i64 b], .agg #[.int .i64 c, .int .i64 d]] w fun e w' => e = .returned (.int .i64 (ageCmp a b c d)) ∧ Below w.heap.size w w' :=
  age_Compare.calls 3 a b c d _ w (age_cmp a b c d)
end Go.Proofs.Ytmmaolhmhdjldaa.Hist
