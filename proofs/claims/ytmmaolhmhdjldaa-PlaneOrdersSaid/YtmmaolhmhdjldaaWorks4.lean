/- The chapter's examples, walked, and the law PlaneBack: one number a place. -/
import Derived.Test.YtmmaolhmhdjldaaPtLaw
namespace Go.Proofs.Ytmmaolhmhdjldaa.Far
open Go.RowKit Go.Proofs.Ytmmaolhmhdjldaa.FI Go.Proofs.Ytmmaolhmhdjldaa.PM

theorem eq_rep2 {a b : Nat} {k : Int} (r : Rep a k) (q : Rep b k) (h : k.natAbs < 9007199254740992) : FloatKind.f64.format.order a b = some .eq := by
  show Ieee.double.order a b = some .eq
  rw [order_rep r q h h, cmp_eq.2 rfl]

/-- Number of floats that stand for a place's parts. -/
theorem number_rep {b1 b2 : Nat} {X Y : Int} (r1 : Rep b1 X) (r2 : Rep b2 Y) (h1 : -1024 ≤ X ∧ X ≤ 1024) (h2 : -1024 ≤ Y ∧ Y ≤ 1024) (w : World) :
    Calls Try.prog 36 #[.complex .f64 b1 b2] w fun e w' => e = .returned (.tuple #[.int .i64 (nm 36 X Y), .int .i64 0]) ∧ w = w' := by
  obtain ⟨p1, p2⟩ := rep_pok r1 (by omega)
  obtain ⟨p3, p4⟩ := rep_pok r2 (by omega)
  rw [decide_eq_true h1.1, decide_eq_true h1.2] at p1
  rw [decide_eq_true h2.1, decide_eq_true h2.2] at p3
  have ho : ofB b1 b2 = true := by unfold ofB; rw [p1, p3]; rfl
  have := number_in b1 b2 ho w
  rw [p2 p1, p4 p3] at this
  exact this

theorem far_rep {b1 b2 c1 c2 : Nat} {X Y U V : Int} (r1 : Rep b1 X) (r2 : Rep b2 Y) (r3 : Rep c1 U) (r4 : Rep c2 V) (h1 : -1024 ≤ X ∧ X ≤ 1024) (h2 : -1024 ≤ Y ∧ Y ≤ 1024) (h3 : -1024 ≤ U ∧ U ≤ 1024) (h4 : -1024 ≤ V ∧ V ≤ 1024) (w : World) :
    Calls Try.prog 27 #[.complex .f64 b1 b2, .complex .f64 c1 c2] w fun e w' => e = .returned (.int .i64 (farW X Y U V)) ∧ w = w' := by
  obtain ⟨p1, p2⟩ := rep_pok r1 (by omega)
  obtain ⟨p3, p4⟩ := rep_pok r2 (by omega)
  obtain ⟨p5, p6⟩ := rep_pok r3 (by omega)
  obtain ⟨p7, p8⟩ := rep_pok r4 (by omega)
  rw [decide_eq_true h1.1, decide_eq_true h1.2] at p1
  rw [decide_eq_true h2.1, decide_eq_true h2.2] at p3
  rw [decide_eq_true h3.1, decide_eq_true h3.2] at p5
  rw [decide_eq_true h4.1, decide_eq_true h4.2] at p7
  have := far_yes b1 b2 c1 c2 (by unfold ofB; rw [p1, p3]; rfl) (by unfold ofB; rw [p5, p7]; rfl) w
  rw [p2 p1, p4 p3, p6 p5, p8 p7] at this
  exact this

theorem half_out : pok 4602678819172646912 = false := by
  have h : (Ieee.double.order (F 0) 4602678819172646912 == some .eq) = false := by decide +kernel
  have hp : pn 4602678819172646912 = 0 := by decide +kernel
  unfold pok eqB
  rw [hp, h, Bool.and_false]

set_option maxRecDepth 100000 in
set_option maxHeartbeats 800000 in
theorem works_any (w : World) : Calls Try.prog 38 #[] w fun e w' => e = .returned (.bool true) ∧ w = w' := by
  have P1 := point_any 5
  have e1 : refPt 5 = (1, -2, 0) := by decide +kernel
  unfold PtBeside at P1
  rw [e1] at P1
  have P2 := number_rep (b1 := 13830554455654793216) (b2 := 0) (X := -1) (Y := 0) (Or.inl (by decide)) (Or.inl (by decide)) (by omega) (by omega)
  have e2 : nm 36 (-1) 0 = 29 := by decide +kernel
  rw [e2] at P2
  have P3 := far_rep (b1 := 0) (b2 := 0) (c1 := F 3) (c2 := F 4) (X := 0) (Y := 0) (U := 3) (V := 4) (Or.inl (by decide)) (Or.inl (by decide)) (Or.inl rfl) (Or.inl rfl) (by omega) (by omega) (by omega) (by omega)
  have e3 : farW 0 0 3 4 = 25 := by unfold farW wrap64; omega
  rw [e3, show F 3 = 4613937818241073152 from by decide, show F 4 = 4616189618054758400 from by decide] at P3
  have P4 := far_any 4602678819172646912 0 0 0
  have e4 : wantF 4602678819172646912 0 0 0 = -1 := by unfold wantF ofB; rw [half_out]; rfl
  rw [e4] at P4
  have Q1 := Lib.hid P1
  have Q2 := Lib.hid P2
  have Q3 := Lib.hid P3
  have Q4 := Lib.hid P4
  clear P1 P2 P3 P4 e1 e2 e3 e4
  go_enter Try.func38, Try.ntmps38
  go_wp2_with fail
  refine (Q1.out _).mono ?_
  rintro e w1 ⟨b1, b2, r1, r2, rfl, rfl⟩
  have h1 : FloatKind.f64.format.order b1 4607182418800017408 = some .eq := eq_rep2 r1 (Or.inl (by decide)) (by decide)
  have h2 : FloatKind.f64.format.order b2 13835058055282163712 = some .eq := eq_rep2 r2 (Or.inl (by decide)) (by decide)
  clear r1 r2
  go_wp2_with fail
  refine (Q2.out _).mono ?_
  rintro e w1 ⟨rfl, rfl⟩
  go_wp2_with fail
  refine (num_any 0 _).mono ?_
  rintro e w1 ⟨rfl, rfl⟩
  go_wp2_with fail
  refine (num_any 0 _).mono ?_
  rintro e w1 ⟨rfl, rfl⟩
  go_wp2_with fail
  refine (Q3.out _).mono ?_
  rintro e w1 ⟨rfl, rfl⟩
  go_wp2_with fail
  refine (Q4.out _).mono ?_
  rintro e w1 ⟨rfl, rfl⟩
  go_wp2
  go_ret
  exact ⟨rfl, rfl⟩

theorem tmod_bounds (x : Int) : -1024 ≤ x.tmod 1025 ∧ x.tmod 1025 ≤ 1024 := by
  by_cases h : 0 ≤ x
  · rw [Int.tmod_eq_emod_of_nonneg h]; omega
  · have : x.tmod 1025 = -((-x).tmod 1025) := by rw [Int.neg_tmod, Int.neg_neg]
    rw [this, Int.tmod_eq_emod_of_nonneg (by omega)]
    omega

/-- The number of a number's point. -/
theorem number_of_point (n : Int) (h : (refPt n).2.2 = 0) : 0 ≤ n ∧ n ≤ 1099511627776 ∧ nm 36 (refPt n).1 (refPt n).2.1 = n := by
  by_cases h1 : n < 0 ∨ 1099511627776 < n
  · unfold refPt at h; rw [if_pos h1] at h; cases h
  · have e41 : (2 : Nat) ^ 41 = 2199023255552 := by decide
    have hn := nm_pt 41 n.toNat (by omega)
    have e1 : refPt n = ptAns (pt 41 n.toNat).1 (pt 41 n.toNat).2 := by unfold refPt; rw [if_neg h1]
    have hb := refPt_bounds n
    rw [e1] at h hb ⊢
    have e2 : ptAns (pt 41 n.toNat).1 (pt 41 n.toNat).2 = ((pt 41 n.toNat).1, (pt 41 n.toNat).2, 0) := by
      unfold ptAns at h ⊢
      split at h
      · rename_i hc; rw [if_pos hc]
      · cases h
    rw [e2] at hb ⊢
    refine ⟨by omega, by omega, ?_⟩
    show nm 36 (pt 41 n.toNat).1 (pt 41 n.toNat).2 = n
    rw [← nm_more 36 5 _ _ (en_place _ _ hb.1 hb.2), hn]
    omega

/-- The point of a place's number. -/
theorem point_of_number (a b : Int) (h1 : -1024 ≤ a ∧ a ≤ 1024) (h2 : -1024 ≤ b ∧ b ≤ 1024) : 0 ≤ nm 36 a b ∧ nm 36 a b < 68719476736 ∧ refPt (nm 36 a b) = (a, b, 0) := by
  have hb := nm_bound 36 a b
  have e36 : (2 : Int) ^ 36 = 68719476736 := by decide
  have f36 : (2 : Nat) ^ 36 = 68719476736 := by decide
  have hp := pt_nm 36 a b (en_place a b h1 h2)
  have hm : pt 41 (nm 36 a b).toNat = pt 36 (nm 36 a b).toNat := pt_more 36 _ 5 (by omega)
  refine ⟨hb.1, by omega, ?_⟩
  unfold refPt
  rw [if_neg (by omega), hm, hp.1, hp.2]
  unfold ptAns inB
  rw [decide_eq_true h1.1, decide_eq_true h1.2, decide_eq_true h2.1, decide_eq_true h2.2]
  rfl

set_option maxRecDepth 100000 in
set_option maxHeartbeats 1600000 in
theorem back_walk (n x y : Int) (_h1 : (Lit.int .i64 n).wf = true) (_h2 : (Lit.int .i64 x).wf = true) (_h3 : (Lit.int .i64 y).wf = true) (w : World) :
    Calls Try.prog 7 #[.int .i64 n, .int .i64 x, .int .i64 y] w fun e w' => e = .returned (.bool true) ∧ Below w.heap.size w w' := by
  have P1 := point_any n
  have hb := refPt_bounds n
  have hn := number_of_point n
  have hE : (refPt n).2.2 = 0 ∨ (refPt n).2.2 = 2 := by
    unfold refPt ptAns; repeat' split
    all_goals simp
  unfold PtBeside at P1
  generalize (refPt n).1 = X at *
  generalize (refPt n).2.1 = Y at *
  generalize (refPt n).2.2 = E at *
  have ha := tmod_bounds x
  have hc := tmod_bounds y
  have P3 := number_rep (b1 := floatOfInt .f64 (x.tmod 1025)) (b2 := floatOfInt .f64 (y.tmod 1025)) (Or.inl rfl) (Or.inl rfl) ha hc
  obtain ⟨m0, m1, m2⟩ := point_of_number _ _ ha hc
  have P4 := point_any (nm 36 (x.tmod 1025) (y.tmod 1025))
  unfold PtBeside at P4
  rw [m2] at P4
  have hfin : ∀ b1 b2, Rep b1 (x.tmod 1025) → Rep b2 (y.tmod 1025) → FloatKind.f64.format.order b1 (floatOfInt .f64 (x.tmod 1025)) = some .eq ∧ FloatKind.f64.format.order b2 (floatOfInt .f64 (y.tmod 1025)) = some .eq :=
    fun b1 b2 r1 r2 => ⟨eq_rep2 r1 (Or.inl rfl) (by omega), eq_rep2 r2 (Or.inl rfl) (by omega)⟩
  clear m2 ha hc
  generalize nm 36 (x.tmod 1025) (y.tmod 1025) = M at *
  have Q1 := Lib.hid P1
  have Q3 := Lib.hid P3
  have Q4 := Lib.hid P4
  have HF := Lib.hid hfin
  have W := Lib.hid (works_any)
  clear P1 P3 P4 hfin
  rcases hE with rfl | rfl
  · obtain ⟨n0, n1, n2⟩ := hn rfl
    have HN := Lib.hid n2
    clear hn n2
    go_enter Try.func7, Try.ntmps7
    go_wp2_with fail
    refine (W.out _).mono ?_
    rintro e w1 ⟨rfl, rfl⟩
    go_wp2_with fail
    refine (Q1.out _).mono ?_
    rintro e w1 ⟨b1, b2, r1, r2, rfl, rfl⟩
    have P2 := number_rep r1 r2 hb.1 hb.2
    rw [HN.out] at P2
    have Q2 := Lib.hid P2
    clear P2 r1 r2
    go_wp2_with fail
    refine (num_any 0 _).mono ?_
    rintro e w1 ⟨rfl, rfl⟩
    go_wp2_with fail
    refine (Q2.out _).mono ?_
    rintro e w1 ⟨rfl, rfl⟩
    go_wp2_with fail
    refine (num_any 0 _).mono ?_
    rintro e w1 ⟨rfl, rfl⟩
    go_wp2_with fail
    refine (Q3.out _).mono ?_
    rintro e w1 ⟨rfl, rfl⟩
    go_wp2_with fail
    refine (Q4.out _).mono ?_
    rintro e w1 ⟨d1, d2, r1, r2, rfl, rfl⟩
    obtain ⟨q1, q2⟩ := HF.out d1 d2 r1 r2
    clear r1 r2
    go_wp2_with fail
    refine (num_any 0 _).mono ?_
    rintro e w1 ⟨rfl, rfl⟩
    go_wp2_with fail
    refine (num_any 0 _).mono ?_
    rintro e w1 ⟨rfl, rfl⟩
    go_wp2
    go_ret
    exact ⟨by simp; omega, Below.refl _ _⟩
  · clear hn
    go_enter Try.func7, Try.ntmps7
    go_wp2_with fail
    refine (W.out _).mono ?_
    rintro e w1 ⟨rfl, rfl⟩
    go_wp2_with fail
    refine (Q1.out _).mono ?_
    rintro e w1 ⟨b1, b2, r1, r2, rfl, rfl⟩
    clear r1 r2
    go_wp2_with fail
    refine (num_any 2 _).mono ?_
    rintro e w1 ⟨rfl, rfl⟩
    go_wp2_with fail
    refine (Q3.out _).mono ?_
    rintro e w1 ⟨rfl, rfl⟩
    go_wp2_with fail
    refine (Q4.out _).mono ?_
    rintro e w1 ⟨d1, d2, r1, r2, rfl, rfl⟩
    obtain ⟨q1, q2⟩ := HF.out d1 d2 r1 r2
    clear r1 r2
    go_wp2_with fail
    refine (num_any 0 _).mono ?_
    rintro e w1 ⟨rfl, rfl⟩
    go_wp2_with fail
    refine (num_any 0 _).mono ?_
    rintro e w1 ⟨rfl, rfl⟩
    go_wp2
    go_ret
    exact ⟨by simp; omega, Below.refl _ _⟩
end Go.Proofs.Ytmmaolhmhdjldaa.Far
