/- The law PlaneDigits, walked: the points of 2n and 2n + 1. -/
import Derived.Test.YtmmaolhmhdjldaaWorks4
namespace Go.Proofs.Ytmmaolhmhdjldaa.Far
open Go.RowKit Go.Proofs.Ytmmaolhmhdjldaa.FI Go.Proofs.Ytmmaolhmhdjldaa.PM

theorem cut_neg (n d : Nat) (neg : Bool) : Ieee.Toward.even.cut neg n d = Ieee.Toward.even.cut false n d := rfl

theorem word_false (f : Ieee.Format) (R : Nat) : f.word false R = R := rfl

theorem nearest_word (m : Nat) (neg : Bool) : Ieee.double.nearest neg m 0 = Ieee.double.word neg (Ieee.double.nearest false m 0) := by
  unfold Ieee.Format.nearest
  by_cases h : m = 0
  · rw [if_pos h, if_pos h, word_false]
  · rw [if_neg h, if_neg h]
    dsimp only
    rw [cut_neg, word_false]

theorem nearest_lt63 (m : Nat) : Ieee.double.nearest false m 0 < 2 ^ 63 := by
  have hinf : Ieee.double.infRung < 2 ^ 63 := by decide
  unfold Ieee.Format.nearest
  by_cases h : m = 0
  · rw [if_pos h, word_false]; decide
  · rw [if_neg h]
    dsimp only
    rw [word_false]
    exact Nat.lt_of_le_of_lt (Nat.min_le_right _ _) hinf

theorem nearest_sign (m : Nat) : ∃ R, R < 2 ^ 63 ∧ ∀ neg, Ieee.double.nearest neg m 0 = Ieee.double.word neg R :=
  ⟨_, nearest_lt63 m, nearest_word m⟩

theorem xor_top (R : Nat) (h : R < 2 ^ 63) : R ^^^ 2 ^ 63 = 2 ^ 63 + R := by
  have e := Nat.two_pow_add_eq_or_of_lt h 1
  rw [Nat.mul_one] at e
  rw [e]
  apply Nat.eq_of_testBit_eq
  intro i
  rw [Nat.testBit_xor, Nat.testBit_or, Nat.testBit_two_pow]
  by_cases hi : 63 = i
  · subst hi
    rw [Nat.testBit_lt_two_pow h]; simp
  · simp [hi]

theorem xor_word (neg : Bool) (R : Nat) (h : R < 2 ^ 63) : Ieee.double.word neg R ^^^ 2 ^ 63 = Ieee.double.word (!neg) R := by
  have hs : Ieee.double.signWeight = 2 ^ 63 := by decide
  unfold Ieee.Format.word
  rw [hs]
  cases neg
  · simpa using xor_top R h
  · simp only [if_true, Bool.not_true, Bool.false_eq_true, if_false]
    rw [← xor_top R h, Nat.xor_assoc, Nat.xor_self, Nat.xor_zero]

theorem neg_rep {b : Nat} {k : Int} (r : Rep b k) : Rep (Op.negFloat .f64 b) (-k) := by
  show Rep (b ^^^ 2 ^ 63) (-k)
  rcases r with rfl | ⟨rfl, rfl⟩
  · obtain ⟨R, hR, hw⟩ := nearest_sign k.natAbs
    unfold F
    rw [hw, xor_word _ _ hR]
    by_cases h0 : k = 0
    · subst h0
      have : R = 0 := by
        have h1 := hw false
        simp only [Int.natAbs_zero] at h1
        rw [nearest_zero] at h1
        unfold Ieee.Format.word at h1
        simpa using h1.symm
      subst this
      exact Or.inr ⟨rfl, by decide⟩
    · left
      unfold F
      rw [Int.natAbs_neg, hw]
      congr 1
      rw [← decide_not, decide_eq_decide]; omega
  · exact Or.inl (by decide)

theorem rep_geLo {b : Nat} {k : Int} (r : Rep b k) (h : k.natAbs < 9007199254740992) : geLo b = decide (-1024 ≤ k) ∧ leHi b = decide (k ≤ 1024) := by
  unfold geLo leHi
  rw [order_rep r (F_rep (-1024)) h (by decide), order_rep r (F_rep 1024) h (by decide)]
  constructor
  all_goals
    rw [Bool.eq_iff_iff]
    simp only [Bool.or_eq_true, beq_iff_eq, Option.some.injEq, cmp_lt, cmp_gt, cmp_eq, decide_eq_true_eq]
    omega

theorem refPt_kind (n : Int) : (refPt n).2.2 = 0 ∨ ((refPt n).2.2 = 2 ∧ (refPt n).1 = 0 ∧ (refPt n).2.1 = 0) := by
  unfold refPt ptAns; repeat' split
  all_goals simp

theorem ans_eq (X Y : Int) : ((ptAns X Y).2.2 = 0 ↔ (inB X && inB Y) = true) ∧ ((ptAns X Y).2.2 = 0 → (ptAns X Y).1 = X ∧ (ptAns X Y).2.1 = Y) := by
  unfold ptAns
  cases h : (inB X && inB Y) with
  | true => simp
  | false => simp

theorem pt_even (k n : Nat) : pt (k + 1) (2 * n) = (-(pt k n).1 - (pt k n).2, (pt k n).1 - (pt k n).2) := by
  simp only [pt]
  rw [show 2 * n / 2 = n from by omega, show 2 * n % 2 = 0 from by omega]
  simp
theorem pt_odd (k n : Nat) : pt (k + 1) (2 * n + 1) = (-(pt k n).1 - (pt k n).2 + 1, (pt k n).1 - (pt k n).2) := by
  simp only [pt]
  rw [show (2 * n + 1) / 2 = n from by omega, show (2 * n + 1) % 2 = 1 from by omega]
  simp
  omega

theorem pt_even' (k j n : Nat) (h : j = k + 1) : pt j (2 * n) = (-(pt k n).1 - (pt k n).2, (pt k n).1 - (pt k n).2) := by subst h; exact pt_even k n
theorem pt_odd' (k j n : Nat) (h : j = k + 1) : pt j (2 * n + 1) = (-(pt k n).1 - (pt k n).2 + 1, (pt k n).1 - (pt k n).2) := by subst h; exact pt_odd k n
theorem pt41_even (n : Nat) : pt 41 (2 * n) = (-(pt 40 n).1 - (pt 40 n).2, (pt 40 n).1 - (pt 40 n).2) := pt_even' 40 41 n rfl
theorem pt41_odd (n : Nat) : pt 41 (2 * n + 1) = (-(pt 40 n).1 - (pt 40 n).2 + 1, (pt 40 n).1 - (pt 40 n).2) := pt_odd' 40 41 n rfl

theorem refPt_nat (n : Nat) (h : n ≤ 1099511627776) : refPt (n : Int) = ptAns (pt 41 n).1 (pt 41 n).2 := by
  unfold refPt
  rw [if_neg (by omega), Int.toNat_natCast]

theorem twice_nat (n : Nat) (h : n < 16777216) (hE : (refPt (n : Int)).2.2 = 0) :
    (refPt ((2 * n : Nat) : Int) = ptAns (-(refPt n).1 - (refPt n).2.1) ((refPt n).1 - (refPt n).2.1)) ∧ (refPt ((2 * n + 1 : Nat) : Int) = ptAns (-(refPt n).1 - (refPt n).2.1 + 1) ((refPt n).1 - (refPt n).2.1)) := by
  have e40 : (2 : Nat) ^ 40 = 1099511627776 := by decide
  rw [refPt_nat n (by omega)] at hE ⊢
  obtain ⟨h1, h2⟩ := (ans_eq (pt 41 n).1 (pt 41 n).2).2 hE
  have e2 : pt 41 n = pt 40 n := pt_more 40 n 1 (by omega)
  rw [refPt_nat (2 * n) (by omega), refPt_nat (2 * n + 1) (by omega), h1, h2, e2]
  rw [pt41_even, pt41_odd]
  exact ⟨rfl, rfl⟩

theorem twice_pt (m : Int) (h0 : 0 ≤ m) (h1 : m < 16777216) (hE : (refPt m).2.2 = 0) :
    (refPt (2 * m) = ptAns (-(refPt m).1 - (refPt m).2.1) ((refPt m).1 - (refPt m).2.1)) ∧ (refPt (2 * m + 1) = ptAns (-(refPt m).1 - (refPt m).2.1 + 1) ((refPt m).1 - (refPt m).2.1)) := by
  obtain ⟨n, rfl⟩ := Int.eq_ofNat_of_zero_le h0
  have := twice_nat n (by omega) hE
  rw [Int.natCast_add, Int.natCast_mul] at this
  exact this

theorem digits_n (n : Int) : 0 ≤ wrap64 ((IntKind.u64.wrap n).tmod 16777216) ∧ wrap64 ((IntKind.u64.wrap n).tmod 16777216) < 16777216 := by
  have h : 0 ≤ IntKind.u64.wrap n := by
    have : IntKind.u64.wrap n = n % 18446744073709551616 := by simp [IntKind.wrap, IntKind.signed, IntKind.bits]
    omega
  rw [Int.tmod_eq_emod_of_nonneg h]
  unfold wrap64
  omega

attribute [local go_sem high] op_ge op_le
set_option maxRecDepth 100000 in
set_option maxHeartbeats 1600000 in
theorem digits_no (n m : Int) (hm : wrap64 ((IntKind.u64.wrap n).tmod 16777216) = m) (hm0 : 0 ≤ m) (hm1 : m < 16777216) (hE : (refPt m).2.2 = 2) (w : World) :
    Calls Try.prog 8 #[.int .i64 n] w fun e w' => e = .returned (.bool true) ∧ Below w.heap.size w w' := by
  have W := Lib.hid (works_any)
  have HM := Lib.hid hm
  have P1 := point_any m
  unfold PtBeside at P1
  have hz := refPt_kind m
  rw [hE] at P1 hz
  obtain ⟨z1, z2⟩ : (refPt m).1 = 0 ∧ (refPt m).2.1 = 0 := by rcases hz with h | h; · cases h
                                                              · exact h.2
  rw [z1, z2] at P1
  have P2 := point_any (2 * m)
  unfold PtBeside at P2
  generalize (refPt (2 * m)).2.2 = E2 at *
  have P3 := point_any (2 * m + 1)
  unfold PtBeside at P3
  generalize (refPt (2 * m + 1)).2.2 = E3 at *
  have Q1 := Lib.hid P1
  have Q2 := Lib.hid P2
  have Q3 := Lib.hid P3
  clear P1 P2 P3 hm hE hz z1 z2
  go_enter Try.func8, Try.ntmps8
  go_wp2_with fail
  refine (W.out _).mono ?_
  rintro e w1 ⟨rfl, rfl⟩
  go_wp2_with fail
  rw [HM.out]
  refine (Q1.out _).mono ?_
  rintro e w1 ⟨b1, b2, r1, r2, rfl, rfl⟩
  have q1 : FloatKind.f64.format.order b1 0 = some .eq := eq_rep2 r1 (Or.inl (by decide)) (by decide)
  have q2 : FloatKind.f64.format.order b2 0 = some .eq := eq_rep2 r2 (Or.inl (by decide)) (by decide)
  clear r1 r2
  go_wp2_with fail
  refine (Q2.out _).mono ?_
  rintro e w1 ⟨c1, c2, r1, r2, rfl, rfl⟩
  clear r1 r2
  go_wp2_with fail
  refine (Q3.out _).mono ?_
  rintro e w1 ⟨d1, d2, r1, r2, rfl, rfl⟩
  clear r1 r2
  go_wp2_with fail
  refine (num_any 2 _).mono ?_
  rintro e w1 ⟨rfl, rfl⟩
  go_wp2
  go_ret
  exact ⟨by simp, Below.refl _ _⟩

theorem sub_run {a b : Nat} {j k : Int} (r1 : Rep a j) (r2 : Rep b k) (h1 : j.natAbs < 9007199254740992) (h2 : k.natAbs < 9007199254740992) : ∃ d, (∀ (t : TypeId) (w : World), (binOp .sub t (.float .f64 a) (.float .f64 b)).run Try.prog w = .ok (.float .f64 d) w) ∧ Rep d (j - k) := by
  obtain ⟨d, e, q⟩ := sub_rep r1 r2 h1 h2
  exact ⟨d, fun t w => run_float_arith w .sub t .f64 a b d e, q⟩

theorem run_neg_float (b : Nat) : Op.unary .neg (.float .f64 b) = pure (.float .f64 (Op.negFloat .f64 b)) := rfl
attribute [local go_sem high] run_neg_float

set_option maxRecDepth 100000 in
set_option maxHeartbeats 3200000 in
theorem digits_yes (n m : Int) (hm : wrap64 ((IntKind.u64.wrap n).tmod 16777216) = m) (hm0 : 0 ≤ m) (hm1 : m < 16777216) (hE : (refPt m).2.2 = 0) (w : World) :
    Calls Try.prog 8 #[.int .i64 n] w fun e w' => e = .returned (.bool true) ∧ Below w.heap.size w w' := by
  have W := Lib.hid (works_any)
  have HM := Lib.hid hm
  obtain ⟨t2, t3⟩ := twice_pt m hm0 hm1 hE
  have hb := refPt_bounds m
  have P1 := point_any m
  unfold PtBeside at P1
  have P2 := point_any (2 * m)
  unfold PtBeside at P2
  rw [t2] at P2
  have P3 := point_any (2 * m + 1)
  unfold PtBeside at P3
  rw [t3] at P3
  rw [hE] at P1
  clear t2 t3 hE hm
  generalize (refPt m).1 = X at *
  generalize (refPt m).2.1 = Y at *
  obtain ⟨a1, a2⟩ := ans_eq (-X - Y) (X - Y)
  obtain ⟨a3, a4⟩ := ans_eq (-X - Y + 1) (X - Y)
  have k2 : (ptAns (-X - Y) (X - Y)).2.2 = 0 ∨ (ptAns (-X - Y) (X - Y)).2.2 = 2 := by unfold ptAns; split <;> simp
  have k3 : (ptAns (-X - Y + 1) (X - Y)).2.2 = 0 ∨ (ptAns (-X - Y + 1) (X - Y)).2.2 = 2 := by unfold ptAns; split <;> simp
  generalize (ptAns (-X - Y) (X - Y)).2.2 = E2 at *
  generalize (ptAns (-X - Y + 1) (X - Y)).2.2 = E3 at *
  generalize (ptAns (-X - Y) (X - Y)).1 = X2 at *
  generalize (ptAns (-X - Y) (X - Y)).2.1 = Y2 at *
  generalize (ptAns (-X - Y + 1) (X - Y)).1 = X3 at *
  generalize (ptAns (-X - Y + 1) (X - Y)).2.1 = Y3 at *
  have Q1 := Lib.hid P1
  have Q2 := Lib.hid P2
  have Q3 := Lib.hid P3
  have A1 := Lib.hid a1
  have A2 := Lib.hid a2
  have A4 := Lib.hid a4
  clear P1 P2 P3 a1 a2 a3 a4
  go_enter Try.func8, Try.ntmps8
  go_wp2_with fail
  refine (W.out _).mono ?_
  rintro e w1 ⟨rfl, rfl⟩
  go_wp2_with fail
  rw [HM.out]
  refine (Q1.out _).mono ?_
  rintro e w1 ⟨b1, b2, r1, r2, rfl, rfl⟩
  obtain ⟨u1, s1, v1⟩ := sub_run (neg_rep r1) r2 (by omega) (by omega)
  obtain ⟨u2, s2, v2⟩ := sub_run r1 r2 (by omega) (by omega)
  obtain ⟨g1, l1⟩ := rep_geLo v1 (by omega)
  obtain ⟨g2, l2⟩ := rep_geLo v2 (by omega)
  obtain ⟨f1, f2, hadd, y1, y2⟩ := cadd_rep (c1 := 4607182418800017408) (c2 := 0) (wx := 1) (wy := 0) v1 v2 (Or.inl (by decide)) (Or.inl (by decide)) (by omega) (by omega) (by decide) (by decide)
  have V1 := Lib.hid v1
  have V2 := Lib.hid v2
  have Y1 := Lib.hid y1
  have Y2 := Lib.hid y2
  have G1 := Lib.hid g1
  have G2 := Lib.hid g2
  have L1 := Lib.hid l1
  have L2 := Lib.hid l2
  clear r1 r2 v1 v2 y1 y2 g1 g2 l1 l2
  go_wp2_with fail
  refine (Q2.out _).mono ?_
  rintro e w1 ⟨c1, c2, r1, r2, rfl, rfl⟩
  have R1 := Lib.hid r1
  have R2 := Lib.hid r2
  clear r1 r2
  go_wp2_with fail
  refine (Q3.out _).mono ?_
  rintro e w1 ⟨d1, d2, r1, r2, rfl, rfl⟩
  have R3 := Lib.hid r1
  have R4 := Lib.hid r2
  clear r1 r2
  have hq : E2 = 0 → FloatKind.f64.format.order c1 u1 = some .eq ∧ FloatKind.f64.format.order c2 u2 = some .eq := by
    intro h
    obtain ⟨e1, e2⟩ := A2.out h
    have r1 := R1.out
    have r2 := R2.out
    rw [e1] at r1
    rw [e2] at r2
    exact ⟨eq_rep2 r1 V1.out (by omega), eq_rep2 r2 V2.out (by omega)⟩
  have hr : E3 = 0 → FloatKind.f64.format.order d1 f1 = some .eq ∧ FloatKind.f64.format.order d2 f2 = some .eq := by
    intro h
    obtain ⟨e1, e2⟩ := A4.out h
    have r1 := R3.out
    have r2 := R4.out
    have y1 := Y1.out
    have y2 := Y2.out
    rw [e1] at r1
    rw [e2] at r2
    rw [show X - Y + 0 = X - Y from by omega] at y2
    exact ⟨eq_rep2 r1 y1 (by omega), eq_rep2 r2 y2 (by omega)⟩
  have hc : (E2 = 0 ∧ geLo u1 = true ∧ leHi u1 = true ∧ geLo u2 = true ∧ leHi u2 = true) ∨ (E2 = 2 ∧ (geLo u1 = false ∨ (geLo u1 = true ∧ leHi u1 = false) ∨ (geLo u1 = true ∧ leHi u1 = true ∧ geLo u2 = false) ∨ (geLo u1 = true ∧ leHi u1 = true ∧ geLo u2 = true ∧ leHi u2 = false))) := by
    have a1 := A1.out
    unfold inB at a1
    rw [← G1.out, ← G2.out, ← L1.out, ← L2.out] at a1
    generalize geLo u1 = x1 at *
    generalize leHi u1 = x2 at *
    generalize geLo u2 = x3 at *
    generalize leHi u2 = x4 at *
    rcases k2 with rfl | rfl
    · left
      have := a1.1 rfl
      simp only [Bool.and_eq_true] at this
      exact ⟨rfl, this.1.1, this.1.2, this.2.1, this.2.2⟩
    · right
      refine ⟨rfl, ?_⟩
      cases x1 <;> cases x2 <;> cases x3 <;> cases x4 <;> simp at a1 ⊢
  clear A1 A2 A4 V1 V2 Y1 Y2 G1 G2 L1 L2 R1 R2 R3 R4 k2 hm0 hm1 hb
  go_wp2_with fail
  refine (num_any 0 _).mono ?_
  rintro e w1 ⟨rfl, rfl⟩
  rcases hc with ⟨rfl, g1, g2, g3, g4⟩ | ⟨rfl, hc⟩
  · obtain ⟨q1, q2⟩ := hq rfl
    clear hq
    rcases k3 with rfl | rfl
    · obtain ⟨q3, q4⟩ := hr rfl
      clear hr
      go_wp2_with (go_at_call 34; refine (num_any _ _).mono ?_; rintro e w1 ⟨rfl, rfl⟩)
      go_ret
      exact ⟨by simp, Below.refl _ _⟩
    · clear hr
      go_wp2_with (go_at_call 34; refine (num_any _ _).mono ?_; rintro e w1 ⟨rfl, rfl⟩)
      go_ret
      exact ⟨by simp, Below.refl _ _⟩
  · clear hq
    rcases k3 with rfl | rfl
    · obtain ⟨q3, q4⟩ := hr rfl
      clear hr
      rcases hc with g1 | ⟨g1, g2⟩ | ⟨g1, g2, g3⟩ | ⟨g1, g2, g3, g4⟩
      all_goals
        go_wp2_with (go_at_call 34; refine (num_any _ _).mono ?_; rintro e w1 ⟨rfl, rfl⟩)
        go_ret
        exact ⟨by simp, Below.refl _ _⟩
    · clear hr
      rcases hc with g1 | ⟨g1, g2⟩ | ⟨g1, g2, g3⟩ | ⟨g1, g2, g3, g4⟩
      all_goals
        go_wp2_with (go_at_call 34; refine (num_any _ _).mono ?_; rintro e w1 ⟨rfl, rfl⟩)
        go_ret
        exact ⟨by simp, Below.refl _ _⟩

theorem digits_walk (n : Int) (_h1 : (Lit.int .i64 n).wf = true) (w : World) :
    Calls Try.prog 8 #[.int .i64 n] w fun e w' => e = .returned (.bool true) ∧ Below w.heap.size w w' := by
  obtain ⟨h0, h1⟩ := digits_n n
  rcases refPt_kind (wrap64 ((IntKind.u64.wrap n).tmod 16777216)) with h | ⟨h, _, _⟩
  · exact digits_yes n _ rfl h0 h1 h w
  · exact digits_no n _ rfl h0 h1 h w
end Go.Proofs.Ytmmaolhmhdjldaa.Far
