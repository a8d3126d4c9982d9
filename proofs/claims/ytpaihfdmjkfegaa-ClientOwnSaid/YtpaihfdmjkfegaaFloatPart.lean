/- What becomes of any float that is cut to a bound and to a whole number. -/
import Derived.Test.YtpaihfdmjkfegaaFloatInt
namespace Go.Proofs.Ytpaihfdmjkfegaa.FI
open Ieee

/-- 'min(2048, x)', 'max(-2048, y)' of floats that are no NaN. -/
def mn (x : Nat) : Nat := if double.order (F 2048) x = some .lt then F 2048 else x
def mx (x : Nat) : Nat := if double.order (F (-2048)) x = some .gt then F (-2048) else x
def clamp (x : Nat) : Nat := mx (mn x)

/-- Is a float within the bound of a part? -/
def inside (x : Nat) : Bool := (double.order x (F (-1024)) == some .gt || double.order x (F (-1024)) == some .eq) && (double.order x (F 1024) == some .lt || double.order x (F 1024) == some .eq)

theorem cmp_lt {a b : Int} : compare a b = .lt ↔ a < b := by
  simp only [compare, compareOfLessAndEq]; split
  · simp [*]
  · split <;> simp [*]
theorem cmp_gt {a b : Int} : compare a b = .gt ↔ b < a := by
  simp only [compare, compareOfLessAndEq]; split
  · simp; omega
  · split
    · simp; omega
    · simp; omega
theorem cmp_eq {a b : Int} : compare a b = .eq ↔ a = b := by
  simp only [compare, compareOfLessAndEq]; split
  · simp; omega
  · split <;> simp [*]

theorem order_F {x : Nat} {s : Bool} {m : Nat} {e : Int} (h : double.read x = .number s m e) {k : Int} (hk : k.natAbs < 9007199254740992) : double.order x (F k) = some (compare (V s m e) (k * 2 ^ lp)) ∧ double.order (F k) x = some (compare (k * 2 ^ lp) (V s m e)) := by
  obtain ⟨n, m', e', r, hv⟩ := V_rep (F_rep k) hk
  rw [order_val h r, order_val r h, hv]
  exact ⟨rfl, rfl⟩

theorem toInt_2048 : (double.read (F 2048)).toInt .zero = some 2048 := by decide
theorem toInt_m2048 : (double.read (F (-2048))).toInt .zero = some (-2048) := by decide

theorem inf_order {x : Nat} {s : Bool} (h : double.read x = .infinity s) {k : Int} (hk : k.natAbs < 9007199254740992) : double.order x (F k) = some (if s then .lt else .gt) ∧ double.order (F k) x = some (if s then .gt else .lt) := by
  obtain ⟨n, m', e', r, hv⟩ := V_rep (F_rep k) hk
  unfold Format.order
  rw [h, r]
  exact ⟨rfl, rfl⟩

/-- A float that is no NaN, cut to the bound: what it comes to as a whole number. -/
theorem clamp_spec (x : Nat) (hx : (double.read x).isNaN = false) : ∃ n : Int, (double.read (clamp x)).toInt .zero = some n ∧ -2048 ≤ n ∧ n ≤ 2048 ∧
    (inside x = true → clamp x = x ∧ -1024 ≤ n ∧ n ≤ 1024) ∧ (inside x = false → ¬ (double.order (F n) x = some .eq ∧ -1024 ≤ n ∧ n ≤ 1024)) := by
  rcases read_kinds x with ⟨s, t, h⟩ | ⟨s, h⟩ | ⟨s, m, e, h⟩
  · rw [h] at hx; cases hx
  · have o := fun (k : Int) hk => inf_order h (k := k) hk
    cases s
    · have hc : clamp x = F 2048 := by
        unfold clamp mn
        rw [(o 2048 (by decide)).2, if_pos (by simp)]
        decide
      have hi : inside x = false := by
        unfold inside
        rw [(o (-1024) (by decide)).1, (o 1024 (by decide)).1]; rfl
      exact ⟨2048, by rw [hc]; exact toInt_2048, by omega, by omega, fun h => (by rw [hi] at h; cases h), fun _ => by omega⟩
    · have hm : mn x = x := by
        unfold mn
        rw [(o 2048 (by decide)).2, if_neg (by simp)]
      have hc : clamp x = F (-2048) := by
        unfold clamp
        rw [hm]
        unfold mx
        rw [(o (-2048) (by decide)).2, if_pos (by simp)]
      have hi : inside x = false := by
        unfold inside
        rw [(o (-1024) (by decide)).1, (o 1024 (by decide)).1]; rfl
      exact ⟨-2048, by rw [hc]; exact toInt_m2048, by omega, by omega, fun h => (by rw [hi] at h; cases h), fun _ => by omega⟩
  · have hP := two_pos lp
    have o := fun (k : Int) hk => order_F h (k := k) hk
    generalize hv : V s m e = v at o
    have hin : inside x = true ↔ (-1024) * 2 ^ lp ≤ v ∧ v ≤ 1024 * 2 ^ lp := by
      unfold inside
      rw [(o (-1024) (by decide)).1, (o 1024 (by decide)).1]
      simp only [Bool.and_eq_true, Bool.or_eq_true, beq_iff_eq, Option.some.injEq, cmp_lt, cmp_gt, cmp_eq]
      omega
    have habs : ∀ K : Nat, -(K : Int) * 2 ^ lp ≤ v → v ≤ K * 2 ^ lp → (V s m e).natAbs ≤ K * 2 ^ lp := by
      intro K h1 h2
      rw [hv]
      have e1 : ((K * 2 ^ lp : Nat) : Int) = K * 2 ^ lp := by rw [Int.natCast_mul, Int.natCast_pow]; rfl
      rw [Int.neg_mul] at h1
      omega
    by_cases h1 : 2048 * 2 ^ lp < v
    · have hc : clamp x = F 2048 := by
        unfold clamp mn
        rw [(o 2048 (by decide)).2, if_pos (by rw [cmp_lt.2 h1])]
        decide
      refine ⟨2048, by rw [hc]; exact toInt_2048, by omega, by omega, fun h => ?_, fun _ => by omega⟩
      have := hin.1 h
      omega
    · have hm : mn x = x := by
        unfold mn
        rw [(o 2048 (by decide)).2, if_neg (by rw [Option.some.injEq, cmp_lt]; exact h1)]
      by_cases h2 : v < (-2048) * 2 ^ lp
      · have hc : clamp x = F (-2048) := by
          unfold clamp
          rw [hm]
          unfold mx
          rw [(o (-2048) (by decide)).2, if_pos (by rw [cmp_gt.2 h2])]
        refine ⟨-2048, by rw [hc]; exact toInt_m2048, by omega, by omega, fun h => ?_, fun _ => by omega⟩
        have := hin.1 h
        omega
      · have hc : clamp x = x := by
          unfold clamp
          rw [hm]
          unfold mx
          rw [(o (-2048) (by decide)).2, if_neg (by rw [Option.some.injEq, cmp_gt]; exact h2)]
        obtain ⟨n, hn, hb⟩ := trunc_le h (K := 2048) (habs 2048 (by omega) (by omega))
        refine ⟨n, by rw [hc]; exact hn, by omega, by omega, fun hi => ⟨hc, ?_⟩, fun hi => ?_⟩
        · obtain ⟨a, b⟩ := hin.1 hi
          obtain ⟨n', hn', hb'⟩ := trunc_le h (K := 1024) (habs 1024 (by omega) (by omega))
          rw [hn] at hn'
          cases hn'
          omega
        · rintro ⟨q1, q2, q3⟩
          rw [(o n (by omega)).2, Option.some.injEq, cmp_eq] at q1
          have : inside x = true := by
            rw [hin, ← q1]
            exact ⟨Int.mul_le_mul_of_nonneg_right q2 (by omega), Int.mul_le_mul_of_nonneg_right q3 (by omega)⟩
          rw [this] at hi; cases hi
end Go.Proofs.Ytpaihfdmjkfegaa.FI
