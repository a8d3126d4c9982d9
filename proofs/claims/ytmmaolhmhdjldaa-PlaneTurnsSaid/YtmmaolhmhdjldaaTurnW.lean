/- The law PlaneTurns, walked. -/
import Derived.Test.YtmmaolhmhdjldaaOrder2
import Derived.Deep.RegionHeld3
namespace Go.Proofs.Ytmmaolhmhdjldaa.Far
open Go.RowKit Go.Proofs.Ytmmaolhmhdjldaa.FI Go.Proofs.Ytmmaolhmhdjldaa.PM
attribute [local go_sem high] run_neg_float

theorem tmod500 (x : Int) : -499 ≤ x.tmod 500 ∧ x.tmod 500 ≤ 499 := by
  by_cases h : 0 ≤ x
  · rw [Int.tmod_eq_emod_of_nonneg h]; omega
  · have : x.tmod 500 = -((-x).tmod 500) := by rw [Int.neg_tmod, Int.neg_neg]
    rw [this, Int.tmod_eq_emod_of_nonneg (by omega)]
    omega

theorem sq_le {x : Int} (h1 : -2000 ≤ x) (h2 : x ≤ 2000) : 0 ≤ x * x ∧ x * x ≤ 4000000 := by
  have : x * x = (x.natAbs * x.natAbs : Nat) := by rw [Int.natAbs_mul_self]
  have h3 : x.natAbs ≤ 2000 := by omega
  have h4 := Nat.mul_le_mul h3 h3
  omega

theorem farW_eq {a b c d : Int} (h1 : -1000 ≤ a ∧ a ≤ 1000) (h2 : -1000 ≤ b ∧ b ≤ 1000) (h3 : -1000 ≤ c ∧ c ≤ 1000) (h4 : -1000 ≤ d ∧ d ≤ 1000) : farW a b c d = (a - c) * (a - c) + (b - d) * (b - d) := by
  have q1 := sq_le (x := a - c) (by omega) (by omega)
  have q2 := sq_le (x := b - d) (by omega) (by omega)
  unfold farW
  generalize (a - c) * (a - c) = u at *
  generalize (b - d) * (b - d) = v at *
  unfold wrap64
  omega

theorem far_facts {a b c d : Int} (h1 : -1000 ≤ a ∧ a ≤ 1000) (h2 : -1000 ≤ b ∧ b ≤ 1000) (h3 : -1000 ≤ c ∧ c ≤ 1000) (h4 : -1000 ≤ d ∧ d ≤ 1000) : 0 ≤ farW a b c d ∧ (farW a b c d = 0 ↔ a = c ∧ b = d) := by
  rw [farW_eq h1 h2 h3 h4]
  have q1 := sq_le (x := a - c) (by omega) (by omega)
  have q2 := sq_le (x := b - d) (by omega) (by omega)
  refine ⟨by omega, fun h => ?_, fun ⟨e1, e2⟩ => by subst e1 e2; simp⟩
  have z1 : (a - c) * (a - c) = 0 := by omega
  have z2 : (b - d) * (b - d) = 0 := by omega
  rw [Int.mul_eq_zero] at z1 z2
  omega

theorem cmp_beq (a b : Int) : (some (compare a b) == some Ordering.eq) = decide (a = b) := by
  by_cases h : a = b
  · rw [cmp_eq.2 h]; simp [h]
  · have : ¬ compare a b = .eq := fun e => h (cmp_eq.1 e)
    simp [h]

/-- What the last tests hold throughout. -/
def TL (w0 : World) (O : Nat) (x y : Int) (w : World) : Prop :=
  w.cell? ⟨O, 0, none⟩ = some (.int .i64 x) ∧ w.cell? ⟨O, 1, none⟩ = some (.int .i64 y) ∧ (O < w.heap.size ∧ Below w0.heap.size w0 w)
theorem TL.step {w0 : World} {O : Nat} {x y : Int} {w w' : World} (hb : Below w.heap.size w w') (h : TL w0 O x y w) : TL w0 O x y w' :=
  ⟨by rw [hb.cell (p := ⟨O, 0, none⟩) h.2.2.1]; exact h.1, by rw [hb.cell (p := ⟨O, 1, none⟩) h.2.2.1]; exact h.2.1, Nat.lt_of_lt_of_le h.2.2.1 hb.size, h.2.2.2.trans (hb.mono h.2.2.2.size)⟩

set_option maxRecDepth 100000 in
set_option maxHeartbeats 8000000 in
theorem turns_walk (a0 a1 c0 c1 m0 m1 : Int) (w : World) :
    Calls Try.prog 13 #[.agg #[.int .i64 a0, .int .i64 a1], .agg #[.int .i64 c0, .int .i64 c1], .agg #[.int .i64 m0, .int .i64 m1]] w fun e w' => e = .returned (.bool true) ∧ Below w.heap.size w w' := by
  have W := Lib.hid (works_any)
  have A0 := tmod500 a0
  have A1 := tmod500 a1
  have C0 := tmod500 c0
  have C1 := tmod500 c1
  have M0 := tmod500 m0
  have M1 := tmod500 m1
  have rr : ∀ k, Rep (floatOfInt .f64 k) k := fun k => Or.inl rfl
  have P1 := fun w => far_rep (w := w) (rr (a0.tmod 500)) (rr (a1.tmod 500)) (rr (c0.tmod 500)) (rr (c1.tmod 500)) (by omega) (by omega) (by omega) (by omega)
  have P2 := fun w => far_rep (w := w) (rr (c0.tmod 500)) (rr (c1.tmod 500)) (rr (a0.tmod 500)) (rr (a1.tmod 500)) (by omega) (by omega) (by omega) (by omega)
  have P5 := fun w => far_rep (w := w) (rr (a0.tmod 500)) (rr (a1.tmod 500)) (rr (m0.tmod 500)) (rr (m1.tmod 500)) (by omega) (by omega) (by omega) (by omega)
  obtain ⟨f1, f2, s1, y1, y2⟩ := cadd_rep (rr (a0.tmod 500)) (rr (a1.tmod 500)) (rr (m0.tmod 500)) (rr (m1.tmod 500)) (by omega) (by omega) (by omega) (by omega)
  obtain ⟨f3, f4, s2, y3, y4⟩ := cadd_rep (rr (c0.tmod 500)) (rr (c1.tmod 500)) (rr (m0.tmod 500)) (rr (m1.tmod 500)) (by omega) (by omega) (by omega) (by omega)
  have P3 := fun w => far_rep (w := w) y1 y2 y3 y4 (by omega) (by omega) (by omega) (by omega)
  have P4 := fun w => far_rep (w := w) (neg_rep (rr (a1.tmod 500))) (rr (a0.tmod 500)) (neg_rep (rr (c1.tmod 500))) (rr (c0.tmod 500)) (by omega) (by omega) (by omega) (by omega)
  have N1 := number_rep (rr (a0.tmod 500)) (rr (a1.tmod 500)) (by omega) (by omega)
  have N2 := number_rep (rr (c0.tmod 500)) (rr (c1.tmod 500)) (by omega) (by omega)
  have N3 := number_rep (rr (m0.tmod 500)) (rr (m1.tmod 500)) (by omega) (by omega)
  have OT := fun Pb w => order_two _ _ _ _ _ _ _ _ _ (point_of_number (a0.tmod 500) (a1.tmod 500) (by omega) (by omega)).2.2 (point_of_number (c0.tmod 500) (c1.tmod 500) (by omega) (by omega)).2.2 (point_of_number (m0.tmod 500) (m1.tmod 500) (by omega) (by omega)).2.2 Pb w
  have o1 : (FloatKind.f64.format.order (floatOfInt .f64 (a0.tmod 500)) (floatOfInt .f64 (c0.tmod 500)) == some .eq) = decide (a0.tmod 500 = c0.tmod 500) := by
    rw [show FloatKind.f64.format.order (floatOfInt .f64 (a0.tmod 500)) (floatOfInt .f64 (c0.tmod 500)) = some (compare (a0.tmod 500) (c0.tmod 500)) from order_rep (rr _) (rr _) (by omega) (by omega), cmp_beq]
  have o2 : (FloatKind.f64.format.order (floatOfInt .f64 (a1.tmod 500)) (floatOfInt .f64 (c1.tmod 500)) == some .eq) = decide (a1.tmod 500 = c1.tmod 500) := by
    rw [show FloatKind.f64.format.order (floatOfInt .f64 (a1.tmod 500)) (floatOfInt .f64 (c1.tmod 500)) = some (compare (a1.tmod 500) (c1.tmod 500)) from order_rep (rr _) (rr _) (by omega) (by omega), cmp_beq]
  obtain ⟨d0, d1⟩ := far_facts (a := a0.tmod 500) (b := a1.tmod 500) (c := c0.tmod 500) (d := c1.tmod 500) (by omega) (by omega) (by omega) (by omega)
  have e2 : farW (c0.tmod 500) (c1.tmod 500) (a0.tmod 500) (a1.tmod 500) = farW (a0.tmod 500) (a1.tmod 500) (c0.tmod 500) (c1.tmod 500) := by
    rw [farW_eq (by omega) (by omega) (by omega) (by omega), farW_eq (by omega) (by omega) (by omega) (by omega)]
    generalize a0.tmod 500 = A; generalize a1.tmod 500 = B; generalize c0.tmod 500 = C; generalize c1.tmod 500 = D
    rw [show C - A = -(A - C) by omega, show D - B = -(B - D) by omega, Int.neg_mul_neg, Int.neg_mul_neg]
  have e3 : farW (a0.tmod 500 + m0.tmod 500) (a1.tmod 500 + m1.tmod 500) (c0.tmod 500 + m0.tmod 500) (c1.tmod 500 + m1.tmod 500) = farW (a0.tmod 500) (a1.tmod 500) (c0.tmod 500) (c1.tmod 500) := by
    rw [farW_eq (by omega) (by omega) (by omega) (by omega), farW_eq (by omega) (by omega) (by omega) (by omega)]
    generalize a0.tmod 500 = A; generalize a1.tmod 500 = B; generalize c0.tmod 500 = C; generalize c1.tmod 500 = D
    generalize m0.tmod 500 = M; generalize m1.tmod 500 = N
    rw [show A + M - (C + M) = A - C by omega, show B + N - (D + N) = B - D by omega]
  have e4 : farW (-(a1.tmod 500)) (a0.tmod 500) (-(c1.tmod 500)) (c0.tmod 500) = farW (a0.tmod 500) (a1.tmod 500) (c0.tmod 500) (c1.tmod 500) := by
    rw [farW_eq (by omega) (by omega) (by omega) (by omega), farW_eq (by omega) (by omega) (by omega) (by omega)]
    generalize a0.tmod 500 = A; generalize a1.tmod 500 = B; generalize c0.tmod 500 = C; generalize c1.tmod 500 = D
    rw [show -B - -D = -(B - D) by omega, Int.neg_mul_neg, Int.add_comm]
  rw [e2] at P2
  rw [e3] at P3
  rw [e4] at P4
  clear e2 e3 e4
  generalize farW (a0.tmod 500) (a1.tmod 500) (c0.tmod 500) (c1.tmod 500) = D at *
  generalize farW (a0.tmod 500) (a1.tmod 500) (m0.tmod 500) (m1.tmod 500) = F at *
  generalize nm 36 (a0.tmod 500) (a1.tmod 500) = n1 at *
  generalize nm 36 (c0.tmod 500) (c1.tmod 500) = n2 at *
  generalize nm 36 (m0.tmod 500) (m1.tmod 500) = n3 at *
  have hq : (decide (a0.tmod 500 = c0.tmod 500) && decide (a1.tmod 500 = c1.tmod 500)) = decide (D = 0) := by
    by_cases hD : D = 0
    · obtain ⟨z1, z2⟩ := d1.1 hD
      rw [decide_eq_true z1, decide_eq_true z2, decide_eq_true hD]; rfl
    · rw [decide_eq_false hD]
      by_cases z1 : a0.tmod 500 = c0.tmod 500
      · have z2 : ¬ a1.tmod 500 = c1.tmod 500 := fun z2 => hD (d1.2 ⟨z1, z2⟩)
        rw [decide_eq_false z2, Bool.and_false]
      · rw [decide_eq_false z1, Bool.false_and]
  clear d1
  generalize decide (a0.tmod 500 = c0.tmod 500) = q1 at *
  generalize decide (a1.tmod 500 = c1.tmod 500) = q2 at *
  clear A0 A1 C0 C1 M0 M1 rr y1 y2 y3 y4
  have hL : ∀ (x y : Int), x = (if F < D then 1 else 0) → y = (if F < D then 0 else 1) → (x = 0 ∧ y = 1 ∧ decide (D ≤ F) = true) ∨ (x = 1 ∧ y = 0 ∧ decide (D ≤ F) = false) := by
    intro x y hx hy
    split at hx
    · exact Or.inr ⟨hx, by rw [if_pos (by assumption)] at hy; exact hy, decide_eq_false (by omega)⟩
    · exact Or.inl ⟨hx, by rw [if_neg (by assumption)] at hy; exact hy, decide_eq_true (by omega)⟩
  generalize hX : (if F < D then (1 : Int) else 0) = X at OT
  generalize hY : (if F < D then (0 : Int) else 1) = Y at OT
  have hXY := hL X Y hX.symm hY.symm
  clear hL hX hY
  have Q1 := Lib.hid P1
  have Q2 := Lib.hid P2
  have Q3 := Lib.hid P3
  have Q4 := Lib.hid P4
  have Q5 := Lib.hid P5
  have K1 := Lib.hid N1
  have K2 := Lib.hid N2
  have K3 := Lib.hid N3
  have OD := Lib.hid OT
  clear P1 P2 P3 P4 P5 N1 N2 N3 OT
  have fin : (q1 = true ∧ q2 = true ∧ D = 0) ∨ (q1 = false ∧ (D == 0) = false) ∨ (q1 = true ∧ q2 = false ∧ (D == 0) = false) := by
    by_cases hD : D = 0
    · rw [decide_eq_true hD] at hq
      cases q1 <;> cases q2 <;> simp_all
    · rw [decide_eq_false hD] at hq
      cases q1 <;> cases q2 <;> simp_all
  have HXY := Lib.hid hXY
  have HF := Lib.hid fin
  clear hXY fin hq
  go_enter Try.func13, Try.ntmps13
  go_wp2_with fail
  refine (W.out _).mono ?_
  rintro e w1 ⟨rfl, rfl⟩
  go_wp2_with fail
  refine (Q1.out _).mono ?_
  rintro e w1 ⟨rfl, rfl⟩
  go_wp2_with fail
  refine (Q2.out _).mono ?_
  rintro e w1 ⟨rfl, rfl⟩
  rcases HF.out with ⟨rfl, rfl, rfl⟩ | ⟨rfl, hD⟩ | ⟨rfl, rfl, hD⟩
  all_goals
    go_wp2_with fail
    refine (Q3.out _).mono ?_
    rintro e w1 ⟨rfl, rfl⟩
    go_wp2_with fail
    refine (Q4.out _).mono ?_
    rintro e w1 ⟨rfl, rfl⟩
    go_wp2_with fail
    refine (K1.out _).mono ?_
    rintro e w1 ⟨rfl, rfl⟩
    go_wp2_with fail
    refine (K2.out _).mono ?_
    rintro e w1 ⟨rfl, rfl⟩
    go_wp2_with fail
    refine (K3.out _).mono ?_
    rintro e w1 ⟨rfl, rfl⟩
    go_wp2_with fail
    refine (num_any _ _).mono ?_
    rintro e w1 ⟨rfl, rfl⟩
    go_wp2_with fail
    refine (num_any _ _).mono ?_
    rintro e w1 ⟨rfl, rfl⟩
    go_wp2_with fail
    refine (num_any _ _).mono ?_
    rintro e w1 ⟨rfl, rfl⟩
    go_wp2_with fail
    have al := ((((Below.refl w.heap.size w).alloc (Nat.le_refl _) (.cells #[.int .i64 a0, .int .i64 a1] 92)).alloc (by simp) (.cells #[.int .i64 c0, .int .i64 c1] 92)).alloc (by simp; omega) (.cells #[.int .i64 m0, .int .i64 m1] 92)).alloc (by simp; omega) (.cells #[.int .i64 n2, .int .i64 n3] 3)
    refine (OD.out (w.heap.size + 1 + 1 + 1) _ (by simp) (by simp [go_sem]) (by simp [go_sem])).mono ?_
    rintro e w2 ⟨O, rfl, hO, lO, l0, l1, hb⟩
    have B2 := Lib.hid (al.trans (hb.mono al.size))
    clear hb al
    rcases HXY.out with ⟨rfl, rfl, hDF⟩ | ⟨rfl, rfl, hDF⟩
    · have T0 := Lib.hid (show TL w O 0 1 w2 from ⟨l0, l1, lO, B2.out⟩)
      clear l0 l1 lO
      go_wp2_with fail
      go_region_held3 (fun v => v.cell? ⟨O, 0, none⟩ = some (.int .i64 0) ∧ v.cell? ⟨O, 1, none⟩ = some (.int .i64 1) ∧ (O < v.heap.size ∧ Below w.heap.size w v))
        (first | assumption | (apply TL.step (w0 := w) (O := O) (x := 0) (y := 1) <;> assumption) | exact TL.step (Below.refl _ _).drew T0.out)
        ((go_at_call_of 34 (Value.int IntKind.i64 0); refine (num_any 0 _).mono ?_; rintro e w' ⟨rfl, rfl⟩))
      all_goals
        have T1 := Lib.hid (TL.step (Below.refl _ _).drew T0.out)
        have l0 := T1.out.1
        have l1 := T1.out.2.1
        go_wp2_with fail
        refine (Q5.out _).mono ?_
        rintro e w3 ⟨rfl, rfl⟩
        go_wp2
        go_ret
        exact ⟨rfl, T1.out.2.2.2⟩
    · have T0 := Lib.hid (show TL w O 1 0 w2 from ⟨l0, l1, lO, B2.out⟩)
      clear l0 l1 lO
      go_wp2_with fail
      go_region_held3 (fun v => v.cell? ⟨O, 0, none⟩ = some (.int .i64 1) ∧ v.cell? ⟨O, 1, none⟩ = some (.int .i64 0) ∧ (O < v.heap.size ∧ Below w.heap.size w v))
        (first | assumption | (apply TL.step (w0 := w) (O := O) (x := 1) (y := 0) <;> assumption) | exact TL.step (Below.refl _ _).drew T0.out)
        ((go_at_call_of 34 (Value.int IntKind.i64 0); refine (num_any 0 _).mono ?_; rintro e w' ⟨rfl, rfl⟩))
      all_goals
        have T1 := Lib.hid (TL.step (Below.refl _ _).drew T0.out)
        have l0 := T1.out.1
        have l1 := T1.out.2.1
        go_wp2_with fail
        refine (Q5.out _).mono ?_
        rintro e w3 ⟨rfl, rfl⟩
        go_wp2
        go_ret
        exact ⟨rfl, T1.out.2.2.2⟩
end Go.Proofs.Ytmmaolhmhdjldaa.Far
