/- plane.Number, walked. -/
import Derived.Test.YtmmaolhmhdjldaaPtWalk
namespace Go.Proofs.Ytmmaolhmhdjldaa.Far
open Go.RowKit Go.Proofs.Ytmmaolhmhdjldaa.FI Go.Proofs.Ytmmaolhmhdjldaa.PM

/-- What holds at each round's head of Number. -/
def NmRel (N : Int) (s4 s5 s7 s8 : Value) : Prop := ∃ (k i : Nat) (x y m b : Int), s4 = .int .i64 x ∧ s5 = .int .i64 y ∧ s7 = .int .i64 m ∧ s8 = .int .i64 b ∧ b = 2 ^ i ∧ k + i = 36 ∧ en k x y ∧
  (-2048 ≤ x ∧ x ≤ 2048) ∧ (-2048 ≤ y ∧ y ≤ 2048) ∧ 0 ≤ m ∧ m < b ∧ m + b * nm k x y = N

theorem or_bit (i : Nat) (m : Int) (h0 : 0 ≤ m) (h : m < 2 ^ i) (hi : i ≤ 36) : bits .or .i64 m (2 ^ i) = m + 2 ^ i := by
  have hc : bits .or .i64 m (2 ^ i) = bits .or .i64 (2 ^ i) m := by simp only [bits, BitVec.or_comm]
  have hp : (2 : Int) ^ i ≤ 2 ^ 36 := by
    have : (2 : Nat) ^ i ≤ 2 ^ 36 := Nat.pow_le_pow_right (by omega) hi
    exact_mod_cast this
  have e36 : (2 : Int) ^ 36 = 68719476736 := by decide
  have e63 : (2 : Int) ^ 63 = 9223372036854775808 := by decide
  have h2 : (0 : Int) < 2 ^ i := Int.pow_pos (by omega)
  have hw : ∀ n : Int, 0 ≤ n → n < 2 ^ 63 → IntKind.i64.wrap n = n := by
    intro n h1 h3
    rw [e63] at h3
    exact IntWalk.i64_in n ⟨by omega, by omega⟩
  rw [hc, bits_join .i64 63 (by decide) hw i (2 ^ i) m (by omega) (by simp) (by omega) h0 h (by omega)]
  omega

theorem tdiv_half {a c : Int} (h : 2 * c = a) : a.tdiv 2 = c := by rw [← h]; exact Int.mul_tdiv_cancel_left c (by omega)

theorem nm_next (N x y m b d : Int) (k i : Nat) (hd : (x + y) % 2 = d) (h0 : ¬ (x = 0 ∧ y = 0)) (hb : b = 2 ^ i) (hk : k + i = 36) (he : en k x y) (hx : -2048 ≤ x ∧ x ≤ 2048) (hy : -2048 ≤ y ∧ y ≤ 2048)
    (hm1 : 0 ≤ m) (hm2 : m < b) (hN : m + b * nm k x y = N) :
    NmRel N (.int .i64 ((y - (x - d)).tdiv 2)) (.int .i64 ((-(x - d) - y).tdiv 2)) (.int .i64 (m + d * b)) (.int .i64 (b * 2)) := by
  have hd' : dig x y = d := hd
  cases k with
  | zero => exact absurd he h0
  | succ k =>
    have e1 := nx_two x y
    have e2 := ny_two x y
    rw [hd'] at e1 e2
    rw [tdiv_half e1, tdiv_half e2]
    have hd2 := dig_or x y
    rw [hd'] at hd2
    refine ⟨k, i + 1, nx x y, ny x y, m + d * b, b * 2, rfl, rfl, rfl, rfl, by rw [hb, Int.pow_succ], by omega, he.resolve_left h0, by omega, by omega, ?_, ?_, ?_⟩
    · rcases hd2 with rfl | rfl <;> simp <;> omega
    · rcases hd2 with rfl | rfl <;> simp <;> omega
    · rw [← hN]
      simp only [nm]
      rw [if_neg h0, hd', Int.mul_add, Int.mul_assoc, Int.mul_comm d b]
      omega

theorem bit_bound {b : Int} {k i : Nat} (hb : b = 2 ^ i) (hk : k + i = 36) : 1 ≤ b ∧ b ≤ 68719476736 := by
  have hp : (2 : Int) ^ i ≤ 2 ^ 36 := by
    have : (2 : Nat) ^ i ≤ 2 ^ 36 := Nat.pow_le_pow_right (by omega) (by omega)
    exact_mod_cast this
  have e36 : (2 : Int) ^ 36 = 68719476736 := by decide
  have h2 : (0 : Int) < 2 ^ i := Int.pow_pos (by omega)
  rw [hb]; omega

theorem ret2 {a b : Int} (h : a = b) : Ending.returned (.tuple #[.int .i64 a, .int .i64 0]) = .returned (.tuple #[.int .i64 b, .int .i64 0]) := by rw [h]

theorem nm_end (k : Nat) : nm k 0 0 = 0 := by cases k <;> simp [nm]

theorem number_out (x y : Nat) (h : ofB x y = false) (w : World) :
    Calls Try.prog 36 #[.complex .f64 x y] w fun e w' => e = .returned (.tuple #[.int .i64 0, .int .i64 2]) ∧ w = w' := by
  have P := parts_any x y
  rw [h] at P
  have Q := Lib.hid P
  clear P h
  go_enter Try.func36, Try.ntmps36
  go_wp2_with fail
  refine (Q.out _).mono ?_
  rintro e w1 ⟨rfl, rfl⟩
  clear Q
  go_wp2
  go_ret2
  exact ⟨rfl, rfl⟩

set_option maxRecDepth 100000 in
set_option maxHeartbeats 800000 in
theorem number_in (x y : Nat) (h : ofB x y = true) (w : World) :
    Calls Try.prog 36 #[.complex .f64 x y] w fun e w' => e = .returned (.tuple #[.int .i64 (nm 36 (pn x) (pn y)), .int .i64 0]) ∧ w = w' := by
  obtain ⟨k1, k2, e1, e2⟩ := ofB_bounds x y h
  have P := parts_any x y
  rw [e1, e2, h] at P
  rw [e1] at k1
  rw [e2] at k2
  have Q := Lib.hid P
  clear P e1 e2 h
  generalize pn x = x0 at *
  generalize pn y = y0 at *
  go_enter Try.func36, Try.ntmps36
  go_wp2_with fail
  refine (Q.out _).mono ?_
  rintro e w1 ⟨rfl, rfl⟩
  clear Q
  go_wp2
  go_loop [4, 5, 7, 8] (NmRel (nm 36 x0 y0)) (fun _ _ _ s8 => (2199023255552 - intOf s8).toNat)
  case atStart => exact ⟨36, 0, x0, y0, 0, 1, rfl, rfl, rfl, rfl, rfl, rfl, en_place _ _ k1 k2, by omega, by omega, by omega, by omega, by omega⟩
  case round =>
    obtain ⟨k, i, x, y, m, b, rfl, rfl, rfl, rfl, hb, hk, he, hx, hy, hm1, hm2, hN⟩ := hrel
    obtain ⟨hb0, hb1⟩ := bit_bound hb hk
    have HB := Lib.hid hb
    have HN := Lib.hid hN
    have hor := or_bit i m hm1 (by rw [← hb]; exact hm2) (by omega)
    rw [← hb] at hor
    clear hb hN
    by_cases h0 : x = 0 ∧ y = 0
    · obtain ⟨rfl, rfl⟩ := h0
      have hN := HN.out
      rw [nm_end] at hN
      have HM := Lib.hid (show m = nm 36 x0 y0 by omega)
      clear hN HN HB hor he
      go_wp2
      go_ret2
      exact ⟨ret2 HM.out, rfl⟩
    · have hpar := i64_and1 (x + y)
      have hne : (x != 0) = true ∨ ((x != 0) = false ∧ (y != 0) = true) := by
        by_cases hx0 : x = 0
        · right; exact ⟨by simp [hx0], by simp; omega⟩
        · left; simp [hx0]
      have HO := Lib.hid h0
      clear h0
      rcases (show (x + y) % 2 = 0 ∨ (x + y) % 2 = 1 by omega) with hd | hd
      · have hd' : ((x + y) % 2 == 1) = false := by simp; omega
        rw [← hpar] at hd'
        have HD := Lib.hid hd
        clear hpar hd
        rcases hne with hne | ⟨hne1, hne2⟩
        all_goals
          go_wp2
          go_round
          case rel =>
            have := nm_next _ x y m b 0 k i HD.out HO.out HB.out hk he hx hy hm1 hm2 HN.out
            simpa using this
          case measure => simp [intOf]; omega
      · have hd' : ((x + y) % 2 == 1) = true := by simp; omega
        rw [← hpar] at hd'
        have HD := Lib.hid hd
        have HR := Lib.hid hor
        clear hpar hd hor
        rcases hne with hne | ⟨hne1, hne2⟩
        all_goals
          go_wp2
          go_round
          case rel =>
            have := nm_next _ x y m b 1 k i HD.out HO.out HB.out hk he hx hy hm1 hm2 HN.out
            rw [HR.out]
            simpa using this
          case measure => simp [intOf]; omega
end Go.Proofs.Ytmmaolhmhdjldaa.Far
