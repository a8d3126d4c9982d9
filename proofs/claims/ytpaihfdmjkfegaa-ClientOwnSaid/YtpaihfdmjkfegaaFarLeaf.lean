/- The leaves of layer 4's law on Far: what 'part', 'whole' and 'parts' answer at any floats. -/
import Derived.Test.YtpaihfdmjkfegaaProg
import Derived.Test.YtpaihfdmjkfegaaFloatPart
import Derived.WalkKit
import Derived.WalkSpells
import Derived.WalkLawsBesides
import Derived.Lib.Hide
import Derived.Deep.QuietTactic
import Derived.BigQuiet
namespace Go.Proofs.Ytpaihfdmjkfegaa.Far
open Go.RowKit Go.Proofs.Ytpaihfdmjkfegaa.FI

/-- The whole number that a float is cut to. -/
def pn (x : Nat) : Int := ((Ieee.double.read (clamp x)).toInt .zero).getD 0
def eqB (x : Nat) : Bool := Ieee.double.order (F (pn x)) x == some .eq
def pok (x : Nat) : Bool := inside x && eqB x
def nanB (x : Nat) : Bool := (Ieee.double.read x).isNaN

theorem pn_bounds (x : Nat) (h : nanB x = false) : -2048 ≤ pn x ∧ pn x ≤ 2048 := by
  obtain ⟨n, h1, h2, h3, _, _⟩ := clamp_spec x h
  unfold pn
  rw [h1]
  exact ⟨h2, h3⟩

theorem nan_order (x k : Nat) (h : nanB x = true) : Ieee.double.order x k = none ∧ Ieee.double.order k x = none := by
  unfold nanB at h
  unfold Ieee.Format.order
  cases hx : Ieee.double.read x with
  | number s m e => rw [hx] at h; cases h
  | infinity s => rw [hx] at h; cases h
  | nan s t => cases hk : Ieee.double.read k <;> exact ⟨rfl, rfl⟩

theorem inside_nan (x : Nat) (h : nanB x = true) : inside x = false := by
  unfold inside
  rw [(nan_order x _ h).1, (nan_order x _ h).1]
  rfl

theorem order_self (x : Nat) : (Ieee.double.order x x == some .eq) = !nanB x := by
  unfold nanB Ieee.Format.order
  cases hx : Ieee.double.read x with
  | number s m e =>
    simp only [Ieee.Datum.order, Ieee.Datum.isNaN, Bool.not_false]
    rw [cmp_eq.2 rfl]; rfl
  | infinity s => cases s <;> rfl
  | nan s t => rfl

theorem conv_val (x : Nat) (h : nanB x = false) : floatToIntVal .f64 (clamp x) .i64 = some (pn x) := by
  obtain ⟨n, h1, h2, h3, _, _⟩ := clamp_spec x h
  have e : pn x = n := by unfold pn; rw [h1]; rfl
  unfold floatToIntVal
  show (match (Ieee.double.read (clamp x)).toInt .zero with | some n => _ | none => _) = _
  rw [h1, e]
  have m1 : IntKind.i64.min = -9223372036854775808 := by decide
  have m2 : IntKind.i64.max = 9223372036854775807 := by decide
  rw [e] at *
  simp only [m1, m2]
  rw [if_pos (by omega)]

theorem clamp_in (x : Nat) (h : inside x = true) : clamp x = x := by
  by_cases hn : nanB x = true
  · rw [inside_nan x hn] at h; cases h
  · obtain ⟨n, h1, h2, h3, h4, _⟩ := clamp_spec x (show nanB x = false from by simpa using hn)
    exact (h4 h).1

theorem pok_bounds (x : Nat) (h : pok x = true) : -1024 ≤ pn x ∧ pn x ≤ 1024 := by
  unfold pok at h
  rw [Bool.and_eq_true] at h
  by_cases hn : nanB x = true
  · rw [inside_nan x hn] at h; cases h.1
  · obtain ⟨n, h1, h2, h3, h4, _⟩ := clamp_spec x (show nanB x = false from by simpa using hn)
    have e : pn x = n := by unfold pn; rw [h1]; rfl
    rw [e]
    exact (h4 h.1).2

/-- The program's three tests tell the same as the document's. -/
theorem tests_same (x : Nat) (h : nanB x = false) : (eqB x && decide (-1024 ≤ pn x) && decide (pn x ≤ 1024)) = pok x := by
  obtain ⟨n, h1, h2, h3, h4, h5⟩ := clamp_spec x h
  have e : pn x = n := by unfold pn; rw [h1]; rfl
  unfold pok
  cases hi : inside x with
  | true =>
    have := (h4 hi).2
    rw [e, decide_eq_true this.1, decide_eq_true this.2]; simp
  | false =>
    have h6 := h5 hi
    rw [Bool.false_and]
    cases hq : eqB x with
    | false => rfl
    | true =>
      rw [Bool.true_and]
      have : Ieee.double.order (F n) x = some .eq := by
        unfold eqB at hq; rw [e] at hq; simpa using hq
      rw [Bool.and_eq_false_iff, e]
      simp only [decide_eq_false_iff_not]
      by_cases h7 : -1024 ≤ n
      · right; intro h8; exact h6 ⟨this, h7, h8⟩
      · left; exact h7

theorem run_min (ts : Array TypeId) (t : TypeId) (x : Nat) (w : World) (h : nanB x = false) : (Builtin.min_ ts t #[.float .f64 4656722014701092864, .float .f64 x]).run Try.prog w = .ok (.float .f64 (mn x)) w := by
  have hF : (4656722014701092864 : Nat) = F 2048 := by decide
  have hneg : (FloatKind.f64.decode (F 2048)).neg = false := by decide
  unfold mn
  rw [hF]
  simp only [Builtin.min_, List.foldlM]
  show ((Builtin.min2 (.float .f64 (F 2048)) (.float .f64 x)) >>= pure).run Try.prog w = _
  simp only [Builtin.min2, FloatKind.format]
  cases ho : Ieee.double.order (F 2048) x with
  | none =>
    exfalso
    unfold Ieee.Format.order at ho
    unfold nanB at h
    obtain ⟨s, m, e, r, _⟩ := V_rep (F_rep 2048) (by decide)
    rw [r] at ho
    cases hx : Ieee.double.read x with
    | number s m e => rw [hx] at ho; cases ho
    | infinity s => rw [hx] at ho; cases ho
    | nan s t => rw [hx] at h; cases h
  | some o =>
    cases o
    · simp
    · simp [hneg]
    · simp

theorem run_max (ts : Array TypeId) (t : TypeId) (x : Nat) (w : World) (h : nanB x = false) : (Builtin.max_ ts t #[.float .f64 13880094051555868672, .float .f64 x]).run Try.prog w = .ok (.float .f64 (mx x)) w := by
  have hF : (13880094051555868672 : Nat) = F (-2048) := by decide
  have hneg : (FloatKind.f64.decode (F (-2048))).neg = true := by decide
  unfold mx
  rw [hF]
  simp only [Builtin.max_, List.foldlM]
  show ((Builtin.max2 (.float .f64 (F (-2048))) (.float .f64 x)) >>= pure).run Try.prog w = _
  simp only [Builtin.max2, FloatKind.format]
  cases ho : Ieee.double.order (F (-2048)) x with
  | none =>
    exfalso
    unfold Ieee.Format.order at ho
    unfold nanB at h
    obtain ⟨s, m, e, r, _⟩ := V_rep (F_rep (-2048)) (by decide)
    rw [r] at ho
    cases hx : Ieee.double.read x with
    | number s m e => rw [hx] at ho; cases ho
    | infinity s => rw [hx] at ho; cases ho
    | nan s t => rw [hx] at h; cases h
  | some o =>
    cases o
    · simp
    · simp [hneg]
    · simp

theorem mn_nan (x : Nat) (h : nanB x = false) : nanB (mn x) = false := by
  unfold mn; split
  · decide
  · exact h

def geLo (x : Nat) : Bool := Ieee.double.order x (F (-1024)) == some .gt || Ieee.double.order x (F (-1024)) == some .eq
def leHi (x : Nat) : Bool := Ieee.double.order x (F 1024) == some .lt || Ieee.double.order x (F 1024) == some .eq
theorem inside_eq (x : Nat) : inside x = (geLo x && leHi x) := rfl

theorem op_ge (t : TypeId) (x : Nat) : binOp .geq t (.float .f64 x) (.float .f64 13875590451928498176) = pure (.bool (geLo x)) := by
  have e : (13875590451928498176 : Nat) = F (-1024) := by decide
  rw [binOp_float_cmp_geq, e]; rfl
theorem op_le (t : TypeId) (x : Nat) : binOp .leq t (.float .f64 x) (.float .f64 4652218415073722368) = pure (.bool (leHi x)) := by
  have e : (4652218415073722368 : Nat) = F 1024 := by decide
  rw [binOp_float_cmp_leq, e]; rfl
theorem op_eq (t : TypeId) (x : Nat) : binOp .eql t (.float .f64 (floatOfInt .f64 (pn x))) (.float .f64 x) = pure (.bool (eqB x)) := by
  rw [binOp_float_cmp_eql]; rfl
attribute [local go_sem high] op_ge op_le op_eq

theorem run_conv (x : Nat) (h : nanB x = false) (w : World) : (convert 136 3 (.float .f64 (clamp x))).run Try.prog w = .ok (.int .i64 (pn x)) w :=
  run_convert_float_int w 136 3 .f64 .i64 (clamp x) (pn x) (by rw [Try.underlying136]; rfl) Try.underlying3 (conv_val x h)

theorem inside_notnan (x : Nat) (h : inside x = true) : nanB x = false := by
  cases hn : nanB x with
  | false => rfl
  | true => rw [inside_nan x hn] at h; cases h

/-- plane.whole. -/
theorem whole_any (x : Nat) (h : nanB x = false) (w : World) :
    Calls Try.prog 50 #[.float .f64 x] w fun e w' => e = .returned (.tuple #[.int .i64 (pn x), .bool (pok x)]) ∧ w = w' := by
  have hc := fun w => run_conv x h w
  have hm := fun ts t w => run_min ts t x w h
  have hM := fun ts t w => run_max ts t (mn x) w (mn_nan x h)
  have hb := pn_bounds x h
  have ht := tests_same x h
  unfold clamp at hc
  have HT := Lib.hid ht
  clear ht
  cases h1 : eqB x with
  | false =>
    have hp : pok x = false := by have := HT.out; rw [h1] at this; simpa using this.symm
    clear HT
    rw [hp]
    clear hp
    go_enter Try.func50, Try.ntmps50
    go_wp2
    go_ret2
    exact ⟨rfl, rfl⟩
  | true =>
    have hp : pok x = (decide (-1024 ≤ pn x) && decide (pn x ≤ 1024)) := by have := HT.out; rw [h1] at this; simpa using this.symm
    clear HT
    rw [hp]
    clear hp
    go_enter Try.func50, Try.ntmps50
    go_wp2
    all_goals
      go_ret2
      exact ⟨by simp [*] <;> omega, rfl⟩
end Go.Proofs.Ytpaihfdmjkfegaa.Far
