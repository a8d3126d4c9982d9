/- plane.Point, walked: its floats stand for whole numbers all along. -/
import Derived.Test.YtpaihfdmjkfegaaFarWalk
import Derived.Test.YtpaihfdmjkfegaaPlaneMath
import Derived.Laws.BitsLemmas
namespace Go.Proofs.Ytpaihfdmjkfegaa.Far
open Go.RowKit Go.Proofs.Ytpaihfdmjkfegaa.FI Go.Proofs.Ytpaihfdmjkfegaa.PM

/-- What the loop still has to add. -/
def fx (px wx wy : Int) (q : Int × Int) : Int := px + (wx * q.1 - wy * q.2)
def fy (py wx wy : Int) (q : Int × Int) : Int := py + (wx * q.2 + wy * q.1)

theorem fx_step (px wx wy : Int) (j n : Nat) : fx px wx wy (pt (j + 1) n) = fx (px + ((n % 2 : Nat) : Int) * wx) (-wx - wy) (wx - wy) (pt j (n / 2)) := by
  unfold fx; simp only [pt]
  simp only [Int.mul_sub, Int.sub_mul, Int.neg_mul, Int.mul_comm wx ((n % 2 : Nat) : Int)]
  omega
theorem fy_step (py wx wy : Int) (j n : Nat) : fy py wx wy (pt (j + 1) n) = fy (py + ((n % 2 : Nat) : Int) * wy) (-wx - wy) (wx - wy) (pt j (n / 2)) := by
  unfold fy; simp only [pt]
  simp only [Int.mul_sub, Int.sub_mul, Int.neg_mul, Int.mul_comm wy ((n % 2 : Nat) : Int)]
  omega

theorem pt_nil (j : Nat) : pt j 0 = (0, 0) := by
  have := pt_more 0 0 j (by simp)
  rw [Nat.zero_add] at this
  rw [this]; rfl
theorem fx_end (px wx wy : Int) (j : Nat) : fx px wx wy (pt j 0) = px := by rw [pt_nil]; simp [fx]
theorem fy_end (py wx wy : Int) (j : Nat) : fy py wx wy (pt j 0) = py := by rw [pt_nil]; simp [fy]

theorem i64_and1 (n : Int) : bits .and .i64 n 1 = n % 2 := by
  have h1 : (BitVec.ofInt 64 1).toNat = 2 ^ 1 - 1 := by decide
  have key : (BitVec.ofInt 64 n &&& BitVec.ofInt 64 1).toNat = (n % ((2 ^ 64 : Nat) : Int)).toNat % 2 ^ 1 := by
    rw [BitVec.toNat_and, BitVec.toNat_ofInt, h1, Nat.and_two_pow_sub_one_eq_mod]
  show IntKind.i64.wrap ((BitVec.ofInt 64 n &&& BitVec.ofInt 64 1).toNat : Nat) = n % 2
  rw [key, IntKind.wrap_i64]
  omega

/-- Complex sums and the product by the base, of whole numbers: exact. -/
theorem cadd_rep {b1 b2 c1 c2 : Nat} {px py wx wy : Int} (r1 : Rep b1 px) (r2 : Rep b2 py) (r3 : Rep c1 wx) (r4 : Rep c2 wy) (h1 : px.natAbs < 9007199254740992) (h2 : py.natAbs < 9007199254740992) (h3 : wx.natAbs < 9007199254740992) (h4 : wy.natAbs < 9007199254740992) :
    ∃ d1 d2, (∀ (t : TypeId) (w : World), (binOp .add t (.complex .f64 b1 b2) (.complex .f64 c1 c2)).run Try.prog w = .ok (.complex .f64 d1 d2) w) ∧ Rep d1 (px + wx) ∧ Rep d2 (py + wy) := by
  obtain ⟨d1, e1, q1⟩ := add_rep r1 r3 h1 h3
  obtain ⟨d2, e2, q2⟩ := add_rep r2 r4 h2 h4
  refine ⟨d1, d2, fun t w => run_complex_sum w .add (Or.inl rfl) t .f64 b1 b2 c1 c2 d1 d2 ?_, q1, q2⟩
  show (Option.bind (Ieee.double.add b1 c1) fun x => Option.bind (Ieee.double.add b2 c2) fun y => some (x, y)) = _
  rw [e1, e2]; rfl

theorem cmul_base {c1 c2 : Nat} {wx wy : Int} (r3 : Rep c1 wx) (r4 : Rep c2 wy) (h3 : wx.natAbs < 4503599627370496) (h4 : wy.natAbs < 4503599627370496) :
    ∃ e1 e2, (∀ (t : TypeId) (w : World), (binOp .mul t (.complex .f64 c1 c2) (.complex .f64 13830554455654793216 4607182418800017408)).run Try.prog w = .ok (.complex .f64 e1 e2) w) ∧ Rep e1 (-wx - wy) ∧ Rep e2 (wx - wy) := by
  have k1 : (13830554455654793216 : Nat) = F (-1) := by decide
  have k2 : (4607182418800017408 : Nat) = F 1 := by decide
  rw [k1, k2]
  obtain ⟨ac, a1, a2⟩ := mul_rep r3 (F_rep (-1)) (by omega) (by decide)
  obtain ⟨bd, a3, a4⟩ := mul_rep r4 (F_rep 1) (by omega) (by decide)
  obtain ⟨ad, a5, a6⟩ := mul_rep r3 (F_rep 1) (by omega) (by decide)
  obtain ⟨bc, a7, a8⟩ := mul_rep r4 (F_rep (-1)) (by omega) (by decide)
  rw [show wx * -1 = -wx from by omega] at a2
  rw [show wy * 1 = wy from by omega] at a4
  rw [show wx * 1 = wx from by omega] at a6
  rw [show wy * -1 = -wy from by omega] at a8
  obtain ⟨re, a9, b1⟩ := sub_rep a2 a4 (by omega) (by omega)
  obtain ⟨im, b2, b3⟩ := add_rep a6 a8 (by omega) (by omega)
  rw [show wx + -wy = wx - wy from by omega] at b3
  refine ⟨re, im, fun t w => run_complex_mul w t c1 c2 _ _ re im ?_, b1, b3⟩
  unfold cMulBits
  simp only [floatBits, FloatKind.format]
  rw [a1, a3, a5, a7]
  simp only [Option.bind_some]
  rw [a9, b2]
  rfl

/-- A float that stands for a small whole number is cut to it. -/
theorem rep_inside {b : Nat} {k : Int} (r : Rep b k) (h : k.natAbs < 9007199254740992) : inside b = (decide (-1024 ≤ k) && decide (k ≤ 1024)) := by
  unfold inside
  rw [order_rep r (F_rep (-1024)) h (by decide), order_rep r (F_rep 1024) h (by decide)]
  rw [Bool.eq_iff_iff]
  simp only [Bool.and_eq_true, Bool.or_eq_true, beq_iff_eq, Option.some.injEq, cmp_lt, cmp_gt, cmp_eq, decide_eq_true_eq]
  omega

theorem rep_notnan {b : Nat} {k : Int} (r : Rep b k) (h : k.natAbs < 9007199254740992) : nanB b = false := by
  obtain ⟨n, m, e, hr, _⟩ := V_rep r h
  unfold nanB; rw [hr]; rfl

theorem toInt_of {s : Bool} {m t : Nat} (k : Int) (hm : m = k.natAbs * 2 ^ t) (hs : k ≠ 0 → s = decide (k < 0)) (h : t ≤ 1074) (hk : k.natAbs < 9007199254740992) : (Ieee.Datum.number s m (-(t : Int))).toInt .zero = some k := by
  unfold Ieee.Datum.toInt Ieee.Datum.integral
  simp only [Option.some.injEq]
  rw [show (-(-(t : Int))).toNat = t from by omega, show (-(t : Int)).toNat = 0 from by omega, Nat.shiftLeft_zero]
  have hc : Ieee.Toward.zero.cut s m t = k.natAbs := by
    unfold Ieee.Toward.cut
    simp only [Bool.toNat_false, Nat.add_zero]
    rw [Nat.shiftLeft_eq, Nat.one_mul]
    by_cases h0 : k = 0
    · subst h0; subst hm; simp
    · have hl : t ≤ m.log2 + 2 := by
        have : t ≤ m.log2 := by
          rw [Nat.le_log2 (by rw [hm]; exact Nat.mul_ne_zero (by omega) (by have := Nat.two_pow_pos t; omega))]
          rw [hm]
          exact Nat.le_mul_of_pos_left _ (by omega)
        omega
      rw [Nat.min_eq_left hl, hm, Nat.mul_div_cancel _ (Nat.two_pow_pos t)]
  rw [hc]
  have := signed_rep (k := k) (neg := s) (t := 0) (u := 0) hs
  simpa using this

theorem rep_toInt {b : Nat} {k : Int} (r : Rep b k) (h : k.natAbs < 9007199254740992) : (Ieee.double.read b).toInt .zero = some k := by
  obtain ⟨s, m, t, hr, hm, hs, ht⟩ := read_rep r h
  rw [hr]
  exact toInt_of k hm hs ht h

theorem rep_pok {b : Nat} {k : Int} (r : Rep b k) (h : k.natAbs < 9007199254740992) : pok b = (decide (-1024 ≤ k) && decide (k ≤ 1024)) ∧ (pok b = true → pn b = k) := by
  have hi := rep_inside r h
  cases hib : inside b with
  | false =>
    have : pok b = false := by unfold pok; rw [hib]; rfl
    rw [this, ← hi, hib]
    exact ⟨rfl, fun h => by cases h⟩
  | true =>
    have hp : pn b = k := by
      unfold pn
      rw [clamp_in b hib, rep_toInt r h]; rfl
    have he : eqB b = true := by
      unfold eqB
      rw [hp, order_rep (F_rep k) r h h, cmp_eq.2 rfl]; rfl
    refine ⟨?_, fun _ => hp⟩
    rw [← hi, hib]; unfold pok; rw [hib, he]; rfl

def Bd (B : Nat) (x : Int) : Prop := -(B : Int) ≤ x ∧ x ≤ B
theorem Bd.lt {B : Nat} {x : Int} (h : Bd B x) {j : Nat} (hB : B * 2 ^ j ≤ 2 ^ 43) : x.natAbs < 4503599627370496 := by
  have hp : 0 < 2 ^ j := Nat.two_pow_pos j
  have : B ≤ B * 2 ^ j := Nat.le_mul_of_pos_right _ hp
  have e : (2 : Nat) ^ 43 = 8796093022208 := by decide
  unfold Bd at h
  omega

/-- Is a number's point a place? -/
def inB (x : Int) : Bool := decide (-1024 ≤ x) && decide (x ≤ 1024)
def ptB (n : Nat) : Bool := inB (pt 41 n).1 && inB (pt 41 n).2

/-- What Point answers. -/
def PointPost (n : Nat) (w : World) (e : Ending) (w' : World) : Prop :=
  (ptB n = true ∧ ∃ b1 b2, Rep b1 (pt 41 n).1 ∧ Rep b2 (pt 41 n).2 ∧ e = .returned (.tuple #[.complex .f64 b1 b2, .int .i64 0]) ∧ w = w') ∨
  (ptB n = false ∧ e = .returned (.tuple #[.complex .f64 0 0, .int .i64 2]) ∧ w = w')

theorem point_out (n : Int) (h : n < 0 ∨ 1099511627776 < n) (w : World) :
    Calls Try.prog 25 #[.int .i64 n] w fun e w' => e = .returned (.tuple #[.complex .f64 0 0, .int .i64 2]) ∧ w = w' := by
  by_cases h1 : n < 0
  · go_enter Try.func25, Try.ntmps25
    go_wp2
    go_ret2
    exact ⟨rfl, rfl⟩
  · have h2 : 1099511627776 < n := by omega
    go_enter Try.func25, Try.ntmps25
    go_wp2
    go_ret2
    exact ⟨rfl, rfl⟩

/-- What holds at each round's head. -/
def PtRel (n0 : Nat) (s0 s4 s5 : Value) : Prop := ∃ (j n B : Nat) (px py wx wy : Int) (b1 b2 c1 c2 : Nat), s0 = .int .i64 n ∧ s4 = .complex .f64 b1 b2 ∧ s5 = .complex .f64 c1 c2 ∧ n < 2 ^ j ∧ n ≤ 1099511627776 ∧ B * 2 ^ j ≤ 2 ^ 43 ∧
     Rep b1 px ∧ Rep b2 py ∧ Rep c1 wx ∧ Rep c2 wy ∧ Bd B px ∧ Bd B py ∧ Bd B wx ∧ Bd B wy ∧ fx px wx wy (pt j n) = (pt 41 n0).1 ∧ fy py wx wy (pt j n) = (pt 41 n0).2

theorem rel_next (n0 j n B d : Nat) (px py wx wy : Int) (b1 b2 c1 c2 : Nat) (hd : n % 2 = d) (h0 : 0 < n) (h1 : n < 2 ^ j) (h2 : n ≤ 1099511627776) (h3 : B * 2 ^ j ≤ 2 ^ 43)
    (r1 : Rep b1 (px + (d : Int) * wx)) (r2 : Rep b2 (py + (d : Int) * wy)) (r3 : Rep c1 (-wx - wy)) (r4 : Rep c2 (wx - wy)) (B1 : Bd B px) (B2 : Bd B py) (B3 : Bd B wx) (B4 : Bd B wy)
    (hx : fx px wx wy (pt j n) = (pt 41 n0).1) (hy : fy py wx wy (pt j n) = (pt 41 n0).2) : PtRel n0 (.int .i64 ((n / 2 : Nat) : Int)) (.complex .f64 b1 b2) (.complex .f64 c1 c2) := by
  cases j with
  | zero => simp at h1; omega
  | succ j =>
    rw [Nat.pow_succ] at h1 h3
    have hd2 : d = 0 ∨ d = 1 := by omega
    refine ⟨j, n / 2, 2 * B, _, _, _, _, b1, b2, c1, c2, rfl, rfl, rfl, by omega, by omega, ?_, r1, r2, r3, r4, ?_, ?_, ?_, ?_, ?_, ?_⟩
    · calc 2 * B * 2 ^ j = B * (2 ^ j * 2) := by rw [Nat.mul_comm (2 ^ j) 2, ← Nat.mul_assoc, Nat.mul_comm B 2]
        _ ≤ 2 ^ 43 := h3
    · unfold Bd at *; rcases hd2 with rfl | rfl <;> simp <;> omega
    · unfold Bd at *; rcases hd2 with rfl | rfl <;> simp <;> omega
    · unfold Bd at *; omega
    · unfold Bd at *; omega
    · rw [fx_step, hd] at hx; exact hx
    · rw [fy_step, hd] at hy; exact hy

set_option maxHeartbeats 800000 in
set_option maxRecDepth 100000 in
theorem point_in (n0 : Nat) (hn : (n0 : Int) ≤ 1099511627776) (w : World) :
    Calls Try.prog 25 #[.int .i64 n0] w (PointPost n0 w) := by
  have hlt : decide ((n0 : Int) < 0) = false := by simp
  have hgt : decide ((n0 : Int) > 1099511627776) = false := by simp; omega
  go_enter Try.func25, Try.ntmps25
  go_wp2
  go_loop [0, 4, 5] (PtRel n0) (fun s0 _ _ => (intOf s0).toNat)
  case atStart =>
    have e41 : (2 : Nat) ^ 41 = 2199023255552 := by decide
    refine ⟨41, n0, 1, 0, 0, 1, 0, 0, 0, 4607182418800017408, 0, rfl, rfl, rfl, by omega, by omega, by decide, Or.inl (by decide), Or.inl (by decide), Or.inl (by decide), Or.inl (by decide), ?_, ?_, ?_, ?_, by simp [fx], by simp [fy]⟩ <;> · unfold Bd; omega
  case round =>
    obtain ⟨j, n, B, px, py, wx, wy, b1, b2, c1, c2, rfl, rfl, rfl, h1, h2, h3, r1, r2, r3, r4, B1, B2, B3, B4, hx, hy⟩ := hrel
    have l1 := B1.lt h3
    have l2 := B2.lt h3
    have l3 := B3.lt h3
    have l4 := B4.lt h3
    by_cases h0 : 0 < n
    · have HX := Lib.hid hx
      have HY := Lib.hid hy
      have R1 := Lib.hid r1
      have R2 := Lib.hid r2
      have R3 := Lib.hid r3
      have R4 := Lib.hid r4
      have H3 := Lib.hid h3
      have H1 := Lib.hid h1
      obtain ⟨d1, d2, ha, q1, q2⟩ := cadd_rep r1 r2 r3 r4 (by omega) (by omega) (by omega) (by omega)
      obtain ⟨e1, e2, hm, q3, q4⟩ := cmul_base r3 r4 l3 l4
      have Q1 := Lib.hid q1
      have Q2 := Lib.hid q2
      have Q3 := Lib.hid q3
      have Q4 := Lib.hid q4
      clear q1 q2 q3 q4 hx hy r1 r2 r3 r4 h1 h3
      have hb := i64_and1 (n : Int)
      rcases (show n % 2 = 0 ∨ n % 2 = 1 by omega) with hd | hd
      · have hd' : ((n : Int) % 2 == 1) = false := by simp; omega
        rw [← hb] at hd'
        have HD := Lib.hid hd
        clear hb hd
        go_wp2
        go_round
        case rel =>
          have := rel_next n0 j n B 0 px py wx wy b1 b2 e1 e2 HD.out h0 H1.out h2 H3.out (by simpa using R1.out) (by simpa using R2.out) Q3.out Q4.out B1 B2 B3 B4 HX.out HY.out
          simpa using this
        case measure => simp [intOf]; omega
      · have hd' : ((n : Int) % 2 == 1) = true := by simp; omega
        rw [← hb] at hd'
        have HD := Lib.hid hd
        clear hb hd
        go_wp2
        go_round
        case rel =>
          have := rel_next n0 j n B 1 px py wx wy d1 d2 e1 e2 HD.out h0 H1.out h2 H3.out (by simpa using Q1.out) (by simpa using Q2.out) Q3.out Q4.out B1 B2 B3 B4 HX.out HY.out
          simpa using this
        case measure => simp [intOf]; omega
    · obtain rfl : n = 0 := by omega
      rw [fx_end] at hx
      rw [fy_end] at hy
      subst hx hy
      obtain ⟨p1, p2⟩ := rep_pok r1 (by omega)
      obtain ⟨p3, p4⟩ := rep_pok r2 (by omega)
      have hB : ofB b1 b2 = ptB n0 := by unfold ofB ptB inB; rw [p1, p3]
      have P := Lib.hid (parts_any b1 b2)
      rw [hB] at P
      have R1 := Lib.hid r1
      have R2 := Lib.hid r2
      clear r1 r2 p1 p2 p3 p4 hB l1 l2 l3 l4 r3 r4 B1 B2 B3 B4 h3
      cases hp : ptB n0 with
      | true =>
        rw [hp] at P
        have HP := Lib.hid hp
        clear hp
        go_wp2_with fail
        refine (P.out _).mono ?_
        rintro e w1 ⟨rfl, rfl⟩
        go_wp2
        go_ret2
        exact Or.inl ⟨HP.out, _, _, R1.out, R2.out, rfl, rfl⟩
      | false =>
        rw [hp] at P
        have HP := Lib.hid hp
        clear hp
        go_wp2_with fail
        refine (P.out _).mono ?_
        rintro e w1 ⟨rfl, rfl⟩
        go_wp2
        go_ret2
        exact Or.inr ⟨HP.out, rfl, rfl⟩
end Go.Proofs.Ytpaihfdmjkfegaa.Far
