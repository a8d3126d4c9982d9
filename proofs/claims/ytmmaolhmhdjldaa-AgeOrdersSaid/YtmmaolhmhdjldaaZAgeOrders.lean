/- AgeOrders, the plain law: what the printed walk computes is true. -/
import Derived.Test.YtmmaolhmhdjldaaPAgeOrdersx3
namespace Go.Proofs.Ytmmaolhmhdjldaa.zAgeOrders
open Go.RowKit Go.Proofs.Ytmmaolhmhdjldaa.PAgeOrders Go.Proofs.YtmmaolhmhdjldaaW.PrintWords

/-- Which of two numbers is less. -/
def cmp3 (a b : Int) : Int := if a < b then -1 else if a > b then 1 else 0

theorem cmp_int (a b : Int) : cmp_Compare_int.f a b = some (cmp3 a b) := by
  simp only [cmp_Compare_int.f, cmp_isNaN_int.f, Option.bind_some, cmp3]
  simp only [bne_self_eq_false, Bool.false_eq_true, if_false]
  split
  · rfl
  · split <;> rfl

theorem or_two (x y : Int) : cmp_Or_int.f 3 [x, y] = some (if x = 0 then y else x) := by
  have e1 : wrap64 1 = 1 := by unfold wrap64; omega
  have e2 : wrap64 2 = 2 := by unfold wrap64; omega
  by_cases hx : x = 0
  · by_cases hy : y = 0
    · simp [cmp_Or_int.f, cmp_Or_int.l0, rd, e1, e2, hx, hy]
    · simp [cmp_Or_int.f, cmp_Or_int.l0, rd, e1, hx, hy]
  · simp [cmp_Or_int.f, cmp_Or_int.l0, rd, hx]

/-- By N, then by Client. -/
def ageCmp (a b c d : Int) : Int := if a < c then -1 else if a > c then 1 else if b < d then -1 else if b > d then 1 else 0

theorem ref_cmp (a b c d : Int) : bursarref02_Compare.f a b c d = some (ageCmp a b c d) := by
  unfold bursarref02_Compare.f ageCmp
  repeat' split
  all_goals rfl

theorem age_cmp (a b c d : Int) : age_Compare.f 3 a b c d = some (ageCmp a b c d) := by
  unfold age_Compare.f
  by_cases h : (a == c && (b == d)) = true
  · rw [if_pos h]
    simp only [Bool.and_eq_true, beq_iff_eq] at h
    unfold ageCmp
    repeat' split
    all_goals first | (exfalso; omega) | rfl
  · rw [if_neg h, cmp_int, cmp_int]
    simp only [Option.bind_some]
    rw [or_two]
    simp only [Option.bind_some, Option.some.injEq]
    unfold ageCmp cmp3
    repeat' split
    all_goals first | (exfalso; omega) | rfl | omega

theorem later_same (s a b t c d : Int) : age_Later.f 3 s a b t c d = bursarref02_Later.f s a b t c d := by
  unfold age_Later.f bursarref02_Later.f
  rw [cmp_int, age_cmp, ref_cmp]
  simp only [Option.bind_some]
  rw [or_two]
  simp only [Option.bind_some]
  unfold cmp3
  repeat' split
  all_goals first | (exfalso; omega) | rfl | omega

theorem pure (a b c d s t : Int) : bursarlaw02_AgeOrders.f 3 a b c d s t = some true := by
  obtain ⟨r, hr⟩ : ∃ r, bursarref02_Later.f s a b t c d = some r := by
    unfold bursarref02_Later.f
    rw [ref_cmp]
    repeat' split
    all_goals exact ⟨_, rfl⟩
  simp [bursarlaw02_AgeOrders.f, age_cmp, ref_cmp, later_same, hr]

theorem walk (a b c d s t : Int) (_h1 : (Lit.int .i64 a).wf = true) (_h2 : (Lit.int .i64 b).wf = true) (_h3 : (Lit.int .i64 c).wf = true) (_h4 : (Lit.int .i64 d).wf = true) (_h5 : (Lit.int .i64 s).wf = true) (_h6 : (Lit.int .i64 t).wf = true) (w : World) :
    Calls Try.prog 5 #[.agg #[.int .i64 a, .int .i64 b], .agg #[.int .i64 c, .int .i64 d], .int .i64 s, .int .i64 t] w fun e w' => e = .returned (.bool true) ∧ Below w.heap.size w w' :=
  bursarlaw02_AgeOrders.calls 3 a b c d s t true w (pure a b c d s t)
end Go.Proofs.Ytmmaolhmhdjldaa.zAgeOrders
