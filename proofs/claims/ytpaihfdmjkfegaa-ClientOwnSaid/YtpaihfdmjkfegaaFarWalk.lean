/- Layer 4's law on Far, walked: at any four floats plane.Far answers what the document's answer says. -/
import Derived.Test.YtpaihfdmjkfegaaFarLeaf
namespace Go.Proofs.Ytpaihfdmjkfegaa.Far
open Go.RowKit Go.Proofs.Ytpaihfdmjkfegaa.FI

/-- bursarref04.Of: is it a place? -/
def ofB (x y : Nat) : Bool := pok x && pok y

def pa (x y : Nat) : Int := if nanB x || nanB y then 0 else pn x
def pb (x y : Nat) : Int := if nanB x || nanB y then 0 else pn y

theorem pok_nan (x : Nat) (h : nanB x = true) : pok x = false := by unfold pok; rw [inside_nan x h]; rfl

theorem neq_self (x y : Nat) (t : TypeId) (w : World) : (binOp .neq t (.complex .f64 x y) (.complex .f64 x y)).run Try.prog w = .ok (.bool (nanB x || nanB y)) w := by
  rw [run_neq_complex]
  show Result.ok (Value.bool !((Ieee.double.order x x == some .eq) && (Ieee.double.order y y == some .eq))) w = _
  rw [order_self, order_self]
  cases nanB x <;> cases nanB y <;> rfl
attribute [local go_sem high] neq_self

set_option maxHeartbeats 400000 in
theorem parts_any (x y : Nat) (w : World) :
    Calls Try.prog 39 #[.complex .f64 x y] w fun e w' => e = .returned (.tuple #[.int .i64 (pa x y), .int .i64 (pb x y), .bool (ofB x y)]) ∧ w = w' := by
  cases hx : (nanB x || nanB y) with
  | true =>
    have e1 : pa x y = 0 := by unfold pa; rw [hx]; rfl
    have e2 : pb x y = 0 := by unfold pb; rw [hx]; rfl
    have e3 : ofB x y = false := by
      unfold ofB
      rw [Bool.or_eq_true] at hx
      rcases hx with h | h
      · rw [pok_nan x h]; rfl
      · rw [pok_nan y h, Bool.and_false]
    rw [e1, e2, e3]
    clear e1 e2 e3
    go_enter Try.func39, Try.ntmps39
    go_wp2
    go_ret3
    exact ⟨rfl, rfl⟩
  | false =>
    have e1 : pa x y = pn x := by unfold pa; rw [hx]; rfl
    have e2 : pb x y = pn y := by unfold pb; rw [hx]; rfl
    rw [e1, e2]
    clear e1 e2
    rw [Bool.or_eq_false_iff] at hx
    obtain ⟨hx1, hx2⟩ := hx
    have P1 := Lib.hid (whole_any x hx1)
    have P2 := Lib.hid (whole_any y hx2)
    unfold ofB
    generalize pok x = b1 at P1 ⊢
    generalize pok y = b2 at P2 ⊢
    go_enter Try.func39, Try.ntmps39
    go_wp2_with fail
    refine (P1.out _).mono ?_
    rintro e w1 ⟨rfl, rfl⟩
    go_wp2_with fail
    refine (P2.out _).mono ?_
    rintro e w1 ⟨rfl, rfl⟩
    cases b1 <;>
    · go_wp2
      go_ret3
      exact ⟨rfl, rfl⟩

/-- How far, as the machine reckons it. -/
def farW (a b c d : Int) : Int := wrap64 (wrap64 ((a - c) * (a - c)) + wrap64 ((b - d) * (b - d)))

/-- bursarref04.Far. -/
theorem ref_far (a b c d : Int) (h1 : -1024 ≤ a ∧ a ≤ 1024) (h2 : -1024 ≤ b ∧ b ≤ 1024) (h3 : -1024 ≤ c ∧ c ≤ 1024) (h4 : -1024 ≤ d ∧ d ≤ 1024) (w : World) :
    Calls Try.prog 38 #[.agg #[.int .i64 a, .int .i64 b], .agg #[.int .i64 c, .int .i64 d]] w fun e w' => e = .returned (.int .i64 (farW a b c d)) ∧ Below w.heap.size w w' := by
  go_enter Try.func38, Try.ntmps38
  go_wp2
  go_ret
  exact ⟨rfl, ((Below.refl _ _).alloc (Nat.le_refl _) _).alloc (by simp) _⟩

theorem ofB_bounds (x y : Nat) (h : ofB x y = true) : (-1024 ≤ pa x y ∧ pa x y ≤ 1024) ∧ (-1024 ≤ pb x y ∧ pb x y ≤ 1024) ∧ pa x y = pn x ∧ pb x y = pn y := by
  unfold ofB at h
  rw [Bool.and_eq_true] at h
  have n1 : nanB x = false := by
    cases hn : nanB x with
    | false => rfl
    | true => rw [pok_nan x hn] at h; cases h.1
  have n2 : nanB y = false := by
    cases hn : nanB y with
    | false => rfl
    | true => rw [pok_nan y hn] at h; cases h.2
  have e1 : pa x y = pn x := by unfold pa; rw [n1, n2]; rfl
  have e2 : pb x y = pn y := by unfold pb; rw [n1, n2]; rfl
  rw [e1, e2]
  exact ⟨pok_bounds x h.1, pok_bounds y h.2, rfl, rfl⟩

set_option maxHeartbeats 400000 in
/-- plane.Far. -/
theorem far_no (x y u v : Nat) (h : (ofB x y && ofB u v) = false) (w : World) :
    Calls Try.prog 33 #[.complex .f64 x y, .complex .f64 u v] w fun e w' => e = .returned (.int .i64 (-1)) ∧ w = w' := by
  have P1 := Lib.hid (parts_any x y)
  have P2 := Lib.hid (parts_any u v)
  generalize ofB x y = b1 at P1 h
  generalize ofB u v = b2 at P2 h
  have hb : b1 = false ∨ b2 = false := Bool.and_eq_false_iff.1 h
  clear h
  go_enter Try.func33, Try.ntmps33
  go_wp2_with fail
  refine (P1.out _).mono ?_
  rintro e w1 ⟨rfl, rfl⟩
  go_wp2_with fail
  refine (P2.out _).mono ?_
  rintro e w1 ⟨rfl, rfl⟩
  cases b1 with
  | false =>
    go_wp2
    go_ret
    exact ⟨rfl, rfl⟩
  | true =>
    have : b2 = false := by simpa using hb
    subst this
    go_wp2
    go_ret
    exact ⟨rfl, rfl⟩

set_option maxHeartbeats 400000 in
theorem far_yes (x y u v : Nat) (h1 : ofB x y = true) (h2 : ofB u v = true) (w : World) :
    Calls Try.prog 33 #[.complex .f64 x y, .complex .f64 u v] w fun e w' => e = .returned (.int .i64 (farW (pn x) (pn y) (pn u) (pn v))) ∧ w = w' := by
  obtain ⟨k1, k2, e1, e2⟩ := ofB_bounds x y h1
  obtain ⟨k3, k4, e3, e4⟩ := ofB_bounds u v h2
  have P1 := parts_any x y
  have P2 := parts_any u v
  rw [e1, e2, h1] at P1
  rw [e3, e4, h2] at P2
  rw [e1] at k1
  rw [e2] at k2
  rw [e3] at k3
  rw [e4] at k4
  have Q1 := Lib.hid P1
  have Q2 := Lib.hid P2
  clear P1 P2 e1 e2 e3 e4 h1 h2
  go_enter Try.func33, Try.ntmps33
  go_wp2_with fail
  refine (Q1.out _).mono ?_
  rintro e w1 ⟨rfl, rfl⟩
  go_wp2_with fail
  refine (Q2.out _).mono ?_
  rintro e w1 ⟨rfl, rfl⟩
  go_wp2
  go_ret
  exact ⟨rfl, rfl⟩

end Go.Proofs.Ytpaihfdmjkfegaa.Far
