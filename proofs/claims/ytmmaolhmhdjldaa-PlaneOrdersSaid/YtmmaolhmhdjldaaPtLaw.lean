/- The law PlanePoints, walked: every Point, and every Number of any two floats. -/
import Derived.Test.YtmmaolhmhdjldaaRefPoint
namespace Go.Proofs.Ytmmaolhmhdjldaa.Far
open Go.RowKit Go.Proofs.Ytmmaolhmhdjldaa.FI Go.Proofs.Ytmmaolhmhdjldaa.PM

/-- What Point answers, beside the document's answer. -/
def PtBeside (n : Int) (w : World) (e : Ending) (w' : World) : Prop :=
  ∃ b1 b2, Rep b1 (refPt n).1 ∧ Rep b2 (refPt n).2.1 ∧ e = .returned (.tuple #[.complex .f64 b1 b2, .int .i64 (refPt n).2.2]) ∧ w = w'

theorem point_any (n : Int) (w : World) : Calls Try.prog 32 #[.int .i64 n] w (PtBeside n w) := by
  by_cases h : n < 0 ∨ 1099511627776 < n
  · refine (point_out n h w).mono ?_
    rintro e w' ⟨rfl, rfl⟩
    have e1 : refPt n = (0, 0, 2) := by unfold refPt; rw [if_pos h]
    exact ⟨0, 0, by rw [e1]; exact Or.inl (by decide), by rw [e1]; exact Or.inl (by decide), by rw [e1], rfl⟩
  · have := point_in n.toNat (by omega) w
    rw [show ((n.toNat : Nat) : Int) = n from by omega] at this
    refine this.mono ?_
    rintro e w' (⟨h1, b1, b2, r1, r2, rfl, rfl⟩ | ⟨h1, rfl, rfl⟩)
    · have e1 : refPt n = ((pt 41 n.toNat).1, (pt 41 n.toNat).2, 0) := by unfold refPt; rw [if_neg h]; unfold ptAns; unfold ptB at h1; rw [h1]; rfl
      exact ⟨b1, b2, by rw [e1]; exact r1, by rw [e1]; exact r2, by rw [e1], rfl⟩
    · have e1 : refPt n = (0, 0, 2) := by unfold refPt; rw [if_neg h]; unfold ptAns; unfold ptB at h1; rw [h1]; rfl
      exact ⟨0, 0, by rw [e1]; exact Or.inl (by decide), by rw [e1]; exact Or.inl (by decide), by rw [e1], rfl⟩

theorem inB_bounds {x : Int} (h : inB x = true) : -1024 ≤ x ∧ x ≤ 1024 := by unfold inB at h; simpa using h

theorem refPt_bounds (n : Int) : (-1024 ≤ (refPt n).1 ∧ (refPt n).1 ≤ 1024) ∧ (-1024 ≤ (refPt n).2.1 ∧ (refPt n).2.1 ≤ 1024) := by
  unfold refPt
  split
  · simp
  · unfold ptAns
    split
    · rename_i h
      rw [Bool.and_eq_true] at h
      exact ⟨inB_bounds h.1, inB_bounds h.2⟩
    · simp

theorem eql_rep {b : Nat} {k : Int} (r : Rep b k) (h : k.natAbs < 9007199254740992) : FloatKind.f64.format.order b (floatOfInt .f64 k) = some .eq := by
  show Ieee.double.order b (F k) = some .eq
  rw [order_rep r (F_rep k) h h, cmp_eq.2 rfl]

theorem num_any (e : Int) (w : World) : Calls Try.prog 34 #[.int .i64 e] w fun r w' => r = .returned (.int .i64 e) ∧ w = w' := by
  go_enter Try.func34, Try.ntmps34
  go_wp2
  go_ret
  exact ⟨rfl, rfl⟩

/-- 'at' of floats that stand for the place's parts. -/
theorem at_any {b1 b2 : Nat} {X Y : Int} (r1 : Rep b1 X) (r2 : Rep b2 Y) (h1 : -1024 ≤ X ∧ X ≤ 1024) (h2 : -1024 ≤ Y ∧ Y ≤ 1024) (w : World) :
    Calls Try.prog 35 #[.complex .f64 b1 b2, .agg #[.int .i64 X, .int .i64 Y]] w fun e w' => e = .returned (.bool true) ∧ Below w.heap.size w w' := by
  have q1 := eql_rep r1 (by omega)
  have q2 := eql_rep r2 (by omega)
  clear r1 r2
  go_enter Try.func35, Try.ntmps35
  go_wp2
  go_ret
  exact ⟨rfl, (Below.refl _ _).alloc (Nat.le_refl _) _⟩

set_option maxHeartbeats 800000 in
theorem points_walk (n : Int) (x y : Nat) (_h1 : (Lit.int .i64 n).wf = true) (_h2 : (Lit.float .f64 x).wf = true) (_h3 : (Lit.float .f64 y).wf = true) (w : World) :
    Calls Try.prog 6 #[.int .i64 n, .float .f64 x, .float .f64 y] w fun e w' => e = .returned (.bool true) ∧ Below w.heap.size w w' := by
  have P1 := Lib.hid (point_any n)
  have P2 := Lib.hid (refpoint_any n)
  obtain ⟨k1, k2⟩ := refPt_bounds n
  unfold PtBeside at P1
  generalize (refPt n).1 = X at *
  generalize (refPt n).2.1 = Y at *
  generalize (refPt n).2.2 = E at *
  go_enter Try.func6, Try.ntmps6
  go_wp2_with fail
  refine (P1.out _).mono ?_
  rintro e w1 ⟨b1, b2, r1, r2, rfl, rfl⟩
  have A1 := Lib.hid (at_any r1 r2 k1 k2)
  clear r1 r2
  go_wp2_with fail
  refine (P2.out _).mono ?_
  rintro e w2 ⟨rfl, hb2⟩
  have HB := Lib.hid hb2
  clear hb2 P1 P2
  go_wp2_with fail
  refine (num_any E _).mono ?_
  rintro e w3 ⟨rfl, rfl⟩
  go_wp2_with fail
  refine (A1.out _).mono ?_
  rintro e w3 ⟨rfl, hb3⟩
  have HB3 := Lib.hid ((HB.out.alloc HB.out.size _).trans (hb3.mono (by have := HB.out.size; simp; omega)))
  clear hb3 HB A1
  cases ho : ofB x y with
  | false =>
    have Q1 := Lib.hid (number_out x y ho)
    have Q2 := of_any x y
    rw [ho] at Q2
    obtain ⟨k3, k4⟩ := ox_bounds x y
    generalize ox x y = a at *
    generalize oy x y = b at *
    have Q2 := Lib.hid Q2
    clear ho
    go_wp2_with fail
    refine (Q1.out _).mono ?_
    rintro e w4 ⟨rfl, rfl⟩
    go_wp2_with fail
    refine (Q2.out _).mono ?_
    rintro e w4 ⟨rfl, hb4⟩
    have HB4 := Lib.hid (HB3.out.trans (hb4.mono HB3.out.size))
    clear hb4 HB3 Q1 Q2
    go_wp2_with fail
    refine (num_any 2 _).mono ?_
    rintro e w5 ⟨rfl, rfl⟩
    go_wp2
    go_ret
    exact ⟨rfl, HB4.out.alloc HB4.out.size _⟩
  | true =>
    have Q1 := Lib.hid (number_in x y ho)
    have Q2 := Lib.hid (of_yes x y ho)
    obtain ⟨k3, k4, e3, e4⟩ := ofB_bounds x y ho
    rw [e3] at k3
    rw [e4] at k4
    generalize pn x = a at *
    generalize pn y = b at *
    have Q3 := Lib.hid (ref_number a b k3 k4)
    clear ho e3 e4
    generalize nm 36 a b = m at *
    go_wp2_with fail
    refine (Q1.out _).mono ?_
    rintro e w4 ⟨rfl, rfl⟩
    go_wp2_with fail
    refine (Q2.out _).mono ?_
    rintro e w4 ⟨rfl, hb4⟩
    have HB4 := Lib.hid (HB3.out.trans (hb4.mono HB3.out.size))
    clear hb4 HB3 Q1 Q2
    go_wp2_with fail
    refine (num_any 0 _).mono ?_
    rintro e w5 ⟨rfl, rfl⟩
    go_wp2_with fail
    refine (Q3.out _).mono ?_
    rintro e w6 ⟨rfl, hb6⟩
    have HB6 := Lib.hid ((HB4.out.alloc HB4.out.size _).trans (hb6.mono (by have := HB4.out.size; simp; omega)))
    clear hb6 HB4 Q3
    go_wp2
    go_ret
    exact ⟨by simp, HB6.out⟩
end Go.Proofs.Ytmmaolhmhdjldaa.Far
