/- Layer 4's law on Far, walked: at any four floats plane.Far answers what the document's answer says. -/
import Derived.Test.YtmmaolhmhdjldaaFarLeaf
namespace Go.Proofs.Ytmmaolhmhdjldaa.Far
open Go.RowKit Go.Proofs.Ytmmaolhmhdjldaa.FI

/-- bursarref04.Of: is it a place? -/
def ofB (x y : Nat) : Bool := pok x && pok y

set_option maxHeartbeats 400000 in
theorem of_no (x y : Nat) (h : ofB x y = false) (w : World) :
    Calls Try.prog 25 #[.float .f64 x, .float .f64 y] w fun e w' => e = .returned (.tuple #[.agg #[.int .i64 0, .int .i64 0], .bool false]) ∧ Below w.heap.size w w' := by
  have part1 : ∃ n b, (∀ w, Calls Try.prog 76 #[.float .f64 x] w fun e w' => e = .returned (.tuple #[.int .i64 n, .bool b]) ∧ w = w') ∧ b = pok x := by
    cases hi : inside x with
    | false => exact ⟨_, _, part_no x hi, by unfold pok; rw [hi]; rfl⟩
    | true => exact ⟨_, _, part_yes x hi, by unfold pok; rw [hi]; rfl⟩
  have part2 : ∃ n b, (∀ w, Calls Try.prog 76 #[.float .f64 y] w fun e w' => e = .returned (.tuple #[.int .i64 n, .bool b]) ∧ w = w') ∧ b = pok y := by
    cases hi : inside y with
    | false => exact ⟨_, _, part_no y hi, by unfold pok; rw [hi]; rfl⟩
    | true => exact ⟨_, _, part_yes y hi, by unfold pok; rw [hi]; rfl⟩
  obtain ⟨n1, b1, p1, q1⟩ := part1
  obtain ⟨n2, b2, p2, q2⟩ := part2
  have hb : b1 = false ∨ b2 = false := by
    unfold ofB at h; rw [← q1, ← q2] at h; exact Bool.and_eq_false_iff.1 h
  have P1 := Lib.hid p1
  have P2 := Lib.hid p2
  clear p1 p2 q1 q2 h
  go_enter Try.func25, Try.ntmps25
  go_wp2_with fail
  refine (P1.out _).mono ?_
  rintro e w1 ⟨rfl, rfl⟩
  go_wp2_with fail
  refine (P2.out _).mono ?_
  rintro e w1 ⟨rfl, rfl⟩
  cases b1 with
  | false =>
    go_wp2
    exact bodyPost_ret (v := .tuple #[.agg #[.int .i64 0, .int .i64 0], .bool false]) (by simp [results, Try.results25, go_sem]) rfl ⟨rfl, (Below.refl _ _).alloc (Nat.le_refl _) _⟩
  | true =>
    have : b2 = false := by simpa using hb
    subst this
    go_wp2
    exact bodyPost_ret (v := .tuple #[.agg #[.int .i64 0, .int .i64 0], .bool false]) (by simp [results, Try.results25, go_sem]) rfl ⟨rfl, (Below.refl _ _).alloc (Nat.le_refl _) _⟩

set_option maxHeartbeats 400000 in
theorem of_yes (x y : Nat) (h : ofB x y = true) (w : World) :
    Calls Try.prog 25 #[.float .f64 x, .float .f64 y] w fun e w' => e = .returned (.tuple #[.agg #[.int .i64 (pn x), .int .i64 (pn y)], .bool true]) ∧ Below w.heap.size w w' := by
  unfold ofB pok at h
  simp only [Bool.and_eq_true] at h
  obtain ⟨⟨h1, h2⟩, h3, h4⟩ := h
  have P1 := Lib.hid (part_yes x h1)
  have P2 := Lib.hid (part_yes y h3)
  clear h1 h3
  go_enter Try.func25, Try.ntmps25
  go_wp2_with fail
  refine (P1.out _).mono ?_
  rintro e w1 ⟨rfl, rfl⟩
  go_wp2_with fail
  refine (P2.out _).mono ?_
  rintro e w1 ⟨rfl, rfl⟩
  go_wp2
  exact bodyPost_ret (v := .tuple #[.agg #[.int .i64 (pn x), .int .i64 (pn y)], .bool true]) (by simp [results, Try.results25, go_sem]) rfl ⟨rfl, (Below.refl _ _).alloc (Nat.le_refl _) _⟩

/-- plane.parts. -/
def pa (x y : Nat) : Int := if nanB x || nanB y then 0 else pn x
def pb (x y : Nat) : Int := if nanB x || nanB y then 0 else pn y

theorem pok_nan (x : Nat) (h : nanB x = true) : pok x = false := by unfold pok; rw [inside_nan x h]; rfl

theorem neq_self (x y : Nat) (t : TypeId) (w : World) : (binOp .neq t (.complex .f64 x y) (.complex .f64 x y)).run Try.prog w = .ok (.bool (nanB x || nanB y)) w := by
  rw [run_neq_complex]
  show Result.ok (Value.bool !((Ieee.double.order x x == some .eq) && (Ieee.double.order y y == some .eq))) w = _
  rw [order_self, order_self]
  cases nanB x <;> cases nanB y <;> rfl
attribute [local go_sem high] neq_self

set_option maxHeartbeats 400000 in
theorem parts_any (x y : Nat) (w : World) :
    Calls Try.prog 77 #[.complex .f64 x y] w fun e w' => e = .returned (.tuple #[.int .i64 (pa x y), .int .i64 (pb x y), .bool (ofB x y)]) ∧ w = w' := by
  cases hx : (nanB x || nanB y) with
  | true =>
    have e1 : pa x y = 0 := by unfold pa; rw [hx]; rfl
    have e2 : pb x y = 0 := by unfold pb; rw [hx]; rfl
    have e3 : ofB x y = false := by
      unfold ofB
      rw [Bool.or_eq_true] at hx
      rcases hx with h | h
      · rw [pok_nan x h]; rfl
      · rw [pok_nan y h, Bool.and_false]
    rw [e1, e2, e3]
    clear e1 e2 e3
    go_enter Try.func77, Try.ntmps77
    go_wp2
    go_ret3
    exact ⟨rfl, rfl⟩
  | false =>
    have e1 : pa x y = pn x := by unfold pa; rw [hx]; rfl
    have e2 : pb x y = pn y := by unfold pb; rw [hx]; rfl
    rw [e1, e2]
    clear e1 e2
    rw [Bool.or_eq_false_iff] at hx
    obtain ⟨hx1, hx2⟩ := hx
    have P1 := Lib.hid (whole_any x hx1)
    have P2 := Lib.hid (whole_any y hx2)
    unfold ofB
    generalize pok x = b1 at P1 ⊢
    generalize pok y = b2 at P2 ⊢
    go_enter Try.func77, Try.ntmps77
    go_wp2_with fail
    refine (P1.out _).mono ?_
    rintro e w1 ⟨rfl, rfl⟩
    go_wp2_with fail
    refine (P2.out _).mono ?_
    rintro e w1 ⟨rfl, rfl⟩
    cases b1 <;>
    · go_wp2
      go_ret3
      exact ⟨rfl, rfl⟩

/-- How far, as the machine reckons it. -/
def farW (a b c d : Int) : Int := wrap64 (wrap64 ((a - c) * (a - c)) + wrap64 ((b - d) * (b - d)))

/-- bursarref04.Far. -/
theorem ref_far (a b c d : Int) (h1 : -1024 ≤ a ∧ a ≤ 1024) (h2 : -1024 ≤ b ∧ b ≤ 1024) (h3 : -1024 ≤ c ∧ c ≤ 1024) (h4 : -1024 ≤ d ∧ d ≤ 1024) (w : World) :
    Calls Try.prog 26 #[.agg #[.int .i64 a, .int .i64 b], .agg #[.int .i64 c, .int .i64 d]] w fun e w' => e = .returned (.int .i64 (farW a b c d)) ∧ Below w.heap.size w w' := by
  go_enter Try.func26, Try.ntmps26
  go_wp2
  go_ret
  exact ⟨rfl, ((Below.refl _ _).alloc (Nat.le_refl _) _).alloc (by simp) _⟩

theorem ofB_bounds (x y : Nat) (h : ofB x y = true) : (-1024 ≤ pa x y ∧ pa x y ≤ 1024) ∧ (-1024 ≤ pb x y ∧ pb x y ≤ 1024) ∧ pa x y = pn x ∧ pb x y = pn y := by
  unfold ofB at h
  rw [Bool.and_eq_true] at h
  have n1 : nanB x = false := by
    cases hn : nanB x with
    | false => rfl
    | true => rw [pok_nan x hn] at h; cases h.1
  have n2 : nanB y = false := by
    cases hn : nanB y with
    | false => rfl
    | true => rw [pok_nan y hn] at h; cases h.2
  have e1 : pa x y = pn x := by unfold pa; rw [n1, n2]; rfl
  have e2 : pb x y = pn y := by unfold pb; rw [n1, n2]; rfl
  rw [e1, e2]
  exact ⟨pok_bounds x h.1, pok_bounds y h.2, rfl, rfl⟩

set_option maxHeartbeats 400000 in
/-- plane.Far. -/
theorem far_no (x y u v : Nat) (h : (ofB x y && ofB u v) = false) (w : World) :
    Calls Try.prog 27 #[.complex .f64 x y, .complex .f64 u v] w fun e w' => e = .returned (.int .i64 (-1)) ∧ w = w' := by
  have P1 := Lib.hid (parts_any x y)
  have P2 := Lib.hid (parts_any u v)
  generalize ofB x y = b1 at P1 h
  generalize ofB u v = b2 at P2 h
  have hb : b1 = false ∨ b2 = false := Bool.and_eq_false_iff.1 h
  clear h
  go_enter Try.func27, Try.ntmps27
  go_wp2_with fail
  refine (P1.out _).mono ?_
  rintro e w1 ⟨rfl, rfl⟩
  go_wp2_with fail
  refine (P2.out _).mono ?_
  rintro e w1 ⟨rfl, rfl⟩
  cases b1 with
  | false =>
    go_wp2
    go_ret
    exact ⟨rfl, rfl⟩
  | true =>
    have : b2 = false := by simpa using hb
    subst this
    go_wp2
    go_ret
    exact ⟨rfl, rfl⟩

set_option maxHeartbeats 400000 in
theorem far_yes (x y u v : Nat) (h1 : ofB x y = true) (h2 : ofB u v = true) (w : World) :
    Calls Try.prog 27 #[.complex .f64 x y, .complex .f64 u v] w fun e w' => e = .returned (.int .i64 (farW (pn x) (pn y) (pn u) (pn v))) ∧ w = w' := by
  obtain ⟨k1, k2, e1, e2⟩ := ofB_bounds x y h1
  obtain ⟨k3, k4, e3, e4⟩ := ofB_bounds u v h2
  have P1 := parts_any x y
  have P2 := parts_any u v
  rw [e1, e2, h1] at P1
  rw [e3, e4, h2] at P2
  rw [e1] at k1
  rw [e2] at k2
  rw [e3] at k3
  rw [e4] at k4
  have Q1 := Lib.hid P1
  have Q2 := Lib.hid P2
  clear P1 P2 e1 e2 e3 e4 h1 h2
  go_enter Try.func27, Try.ntmps27
  go_wp2_with fail
  refine (Q1.out _).mono ?_
  rintro e w1 ⟨rfl, rfl⟩
  go_wp2_with fail
  refine (Q2.out _).mono ?_
  rintro e w1 ⟨rfl, rfl⟩
  go_wp2
  go_ret
  exact ⟨rfl, rfl⟩

theorem bcell {W w1 : World} (hb : Below W.heap.size W w1) : (∀ b o, b < W.heap.size → w1.cell? ⟨b, o, none⟩ = W.cell? ⟨b, o, none⟩) ∧ (∀ b o, b < W.heap.size → w1.frozen? ⟨b, o, none⟩ = W.frozen? ⟨b, o, none⟩) :=
  ⟨fun b o h => hb.cell (p := ⟨b, o, none⟩) h, fun b o h => hb.frozen (p := ⟨b, o, none⟩) h⟩

/-- Of's answer, either way. -/
def ox (x y : Nat) : Int := if ofB x y then pn x else 0
def oy (x y : Nat) : Int := if ofB x y then pn y else 0
theorem of_any (x y : Nat) (w : World) :
    Calls Try.prog 25 #[.float .f64 x, .float .f64 y] w fun e w' => e = .returned (.tuple #[.agg #[.int .i64 (ox x y), .int .i64 (oy x y)], .bool (ofB x y)]) ∧ Below w.heap.size w w' := by
  unfold ox oy
  cases h : ofB x y with
  | false => exact of_no x y h w
  | true => exact of_yes x y h w

theorem ox_bounds (x y : Nat) : (-1024 ≤ ox x y ∧ ox x y ≤ 1024) ∧ (-1024 ≤ oy x y ∧ oy x y ≤ 1024) := by
  unfold ox oy
  cases h : ofB x y with
  | false => simp
  | true =>
    obtain ⟨k1, k2, e1, e2⟩ := ofB_bounds x y h
    rw [e1] at k1; rw [e2] at k2
    exact ⟨k1, k2⟩

/-- What the law wants. -/
def wantF (x y u v : Nat) : Int := if ofB x y && ofB u v then farW (ox x y) (oy x y) (ox u v) (oy u v) else -1
theorem far_any (x y u v : Nat) (w : World) :
    Calls Try.prog 27 #[.complex .f64 x y, .complex .f64 u v] w fun e w' => e = .returned (.int .i64 (wantF x y u v)) ∧ w = w' := by
  unfold wantF
  cases h : (ofB x y && ofB u v) with
  | false => exact far_no x y u v h w
  | true =>
    rw [Bool.and_eq_true] at h
    have := far_yes x y u v h.1 h.2 w
    unfold ox oy
    rw [h.1, h.2]
    exact this

set_option maxHeartbeats 800000 in
theorem walk (x y u v : Nat) (_h1 : (Lit.float .f64 x).wf = true) (_h2 : (Lit.float .f64 y).wf = true) (_h3 : (Lit.float .f64 u).wf = true) (_h4 : (Lit.float .f64 v).wf = true) (w : World) :
    Calls Try.prog 4 #[.float .f64 x, .float .f64 y, .float .f64 u, .float .f64 v] w fun e w' => e = .returned (.bool true) ∧ Below w.heap.size w w' := by
  have P1 := Lib.hid (of_any x y)
  have P2 := Lib.hid (of_any u v)
  have P3 := Lib.hid (far_any x y u v)
  obtain ⟨k1, k2⟩ := ox_bounds x y
  obtain ⟨k3, k4⟩ := ox_bounds u v
  unfold wantF at P3
  generalize ox x y = a at *
  generalize oy x y = b at *
  generalize ox u v = c at *
  generalize oy u v = d at *
  generalize ofB x y = b1 at *
  generalize ofB u v = b2 at *
  go_enter Try.func4, Try.ntmps4
  go_wp2_with fail
  refine (P1.out _).mono ?_
  rintro e w1 ⟨rfl, hb1⟩
  go_wp2_with fail
  refine (P2.out _).mono ?_
  rintro e w2 ⟨rfl, hb2⟩
  have c0 : w2.cell? ⟨w1.heap.size, 0, none⟩ = some (.int .i64 a) := by rw [hb2.cell (p := ⟨w1.heap.size, 0, none⟩) (by simp)]; simp [go_sem]
  have c1 : w2.cell? ⟨w1.heap.size, 1, none⟩ = some (.int .i64 b) := by rw [hb2.cell (p := ⟨w1.heap.size, 1, none⟩) (by simp)]; simp [go_sem]
  have hs : w1.heap.size < w2.heap.size := by have := hb2.size; simp at this; omega
  have hB : Below w.heap.size w w2 := (hb1.alloc (hb1.size) _).trans (hb2.mono (by have := hb1.size; simp; omega))
  have HB := Lib.hid hB
  clear hB hb1 hb2
  cases b1 with
  | false =>
    go_wp2_with fail
    refine (P3.out _).mono ?_
    rintro e w3 ⟨rfl, rfl⟩
    go_wp2
    go_ret
    exact ⟨rfl, HB.out.alloc (HB.out.size) _⟩
  | true =>
    cases b2 with
    | false =>
      go_wp2_with fail
      refine (P3.out _).mono ?_
      rintro e w3 ⟨rfl, rfl⟩
      go_wp2
      go_ret
      exact ⟨rfl, HB.out.alloc (HB.out.size) _⟩
    | true =>
      go_wp2_with fail
      refine (ref_far a b c d k1 k2 k3 k4 _).mono ?_
      rintro e w3 ⟨rfl, hb3⟩
      have hB3 : Below w.heap.size w w3 := (HB.out.alloc (HB.out.size) _).trans (hb3.mono (by have := HB.out.size; simp; omega))
      clear HB hb3
      have HB := Lib.hid hB3
      clear hB3 c0 c1 hs
      go_wp2_with fail
      refine (P3.out _).mono ?_
      rintro e w4 ⟨rfl, rfl⟩
      simp only [Bool.and_self, if_true]
      go_wp2
      go_ret
      exact ⟨by simp, HB.out⟩
end Go.Proofs.Ytmmaolhmhdjldaa.Far
