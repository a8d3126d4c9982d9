/- The document's Point, walked. -/
import Derived.Test.YtpaihfdmjkfegaaPtWalk
namespace Go.Proofs.Ytpaihfdmjkfegaa.Far
open Go.RowKit Go.Proofs.Ytpaihfdmjkfegaa.FI Go.Proofs.Ytpaihfdmjkfegaa.PM

theorem in_any (x : Int) (w : World) : Calls Try.prog 40 #[.int .i64 x] w fun e w' => e = .returned (.bool (inB x)) ∧ w = w' := by
  unfold inB
  by_cases h1 : -1024 ≤ x
  · by_cases h2 : x ≤ 1024
    · rw [decide_eq_true h1, decide_eq_true h2]
      go_enter Try.func40, Try.ntmps40
      go_wp2
      go_ret
      exact ⟨rfl, rfl⟩
    · rw [decide_eq_true h1, decide_eq_false h2]
      go_enter Try.func40, Try.ntmps40
      go_wp2
      go_ret
      exact ⟨rfl, rfl⟩
  · rw [decide_eq_false h1]
    go_enter Try.func40, Try.ntmps40
    go_wp2
    go_ret
    exact ⟨rfl, rfl⟩

def Cell2 (w : World) (b : Nat) (x y : Int) : Prop := w.cell? ⟨b, 0, none⟩ = some (.int .i64 x) ∧ w.cell? ⟨b, 1, none⟩ = some (.int .i64 y) ∧ w.frozen? ⟨b, 0, none⟩ = false ∧ w.frozen? ⟨b, 1, none⟩ = false

def RefPt (n0 : Nat) (A : Nat) (w : World) (s0 : Value) (wr : World) : Prop := ∃ (j n B : Nat) (px py wx wy : Int), s0 = .int .i64 n ∧ n < 2 ^ j ∧ n ≤ 1099511627776 ∧ B * 2 ^ j ≤ 2 ^ 43 ∧
     Bd B px ∧ Bd B py ∧ Bd B wx ∧ Bd B wy ∧ fx px wx wy (pt j n) = (pt 41 n0).1 ∧ fy py wx wy (pt j n) = (pt 41 n0).2 ∧
     Cell2 wr A 0 0 ∧ Cell2 wr (A + 1) px py ∧ Cell2 wr (A + 2) wx wy ∧ Below A w wr

theorem refpt_next {n0 A : Nat} {w wr : World} {j n B d : Nat} {px py wx wy px' py' wx' wy' : Int} (hd : n % 2 = d) (h0 : 0 < n) (h1 : n < 2 ^ j) (h2 : n ≤ 1099511627776) (h3 : B * 2 ^ j ≤ 2 ^ 43)
    (B1 : Bd B px) (B2 : Bd B py) (B3 : Bd B wx) (B4 : Bd B wy) (hx : fx px wx wy (pt j n) = (pt 41 n0).1) (hy : fy py wx wy (pt j n) = (pt 41 n0).2)
    (e1 : px' = px + (d : Int) * wx) (e2 : py' = py + (d : Int) * wy) (e3 : wx' = -wx - wy) (e4 : wy' = wx - wy) (c0 : Cell2 wr A 0 0) (c1 : Cell2 wr (A + 1) px' py') (c2 : Cell2 wr (A + 2) wx' wy') (hB : Below A w wr) :
    RefPt n0 A w (.int .i64 ((n : Int) / 2)) wr := by
  subst e1 e2 e3 e4
  cases j with
  | zero => simp at h1; omega
  | succ j =>
    rw [Nat.pow_succ] at h1 h3
    have hd2 : d = 0 ∨ d = 1 := by omega
    refine ⟨j, n / 2, 2 * B, _, _, _, _, by simp, by omega, by omega, ?_, ?_, ?_, ?_, ?_, ?_, ?_, c0, c1, c2, hB⟩
    · calc 2 * B * 2 ^ j = B * (2 ^ j * 2) := by rw [Nat.mul_comm (2 ^ j) 2, ← Nat.mul_assoc, Nat.mul_comm B 2]
        _ ≤ 2 ^ 43 := h3
    · unfold Bd at *; rcases hd2 with rfl | rfl <;> simp <;> omega
    · unfold Bd at *; rcases hd2 with rfl | rfl <;> simp <;> omega
    · unfold Bd at *; omega
    · unfold Bd at *; omega
    · rw [fx_step, hd] at hx; exact hx
    · rw [fy_step, hd] at hy; exact hy

def ptAns (X Y : Int) : Int × Int × Int := if inB X && inB Y then (X, Y, 0) else (0, 0, 2)
/-- What the document's Point answers. -/
def refPt (n : Int) : Int × Int × Int := if n < 0 ∨ 1099511627776 < n then (0, 0, 2) else ptAns (pt 41 n.toNat).1 (pt 41 n.toNat).2

theorem refpoint_out (n : Int) (h : n < 0 ∨ 1099511627776 < n) (w : World) :
    Calls Try.prog 26 #[.int .i64 n] w fun e w' => e = .returned (.tuple #[.agg #[.int .i64 0, .int .i64 0], .int .i64 2]) ∧ Below w.heap.size w w' := by
  by_cases h1 : n < 0
  · go_enter Try.func26, Try.ntmps26
    go_wp2
    exact bodyPost_ret (v := .tuple #[.agg #[.int .i64 0, .int .i64 0], .int .i64 2]) (by simp [results, Try.results26, go_sem]) rfl ⟨rfl, (Below.refl _ _).alloc (Nat.le_refl _) _⟩
  · have h2 : 1099511627776 < n := by omega
    go_enter Try.func26, Try.ntmps26
    go_wp2
    exact bodyPost_ret (v := .tuple #[.agg #[.int .i64 0, .int .i64 0], .int .i64 2]) (by simp [results, Try.results26, go_sem]) rfl ⟨rfl, (Below.refl _ _).alloc (Nat.le_refl _) _⟩

set_option maxRecDepth 100000 in
set_option maxHeartbeats 800000 in
theorem refpoint_in (n0 : Nat) (hn : (n0 : Int) ≤ 1099511627776) (w : World) :
    Calls Try.prog 26 #[.int .i64 n0] w fun e w' => e = .returned (.tuple #[.agg #[.int .i64 (ptAns (pt 41 n0).1 (pt 41 n0).2).1, .int .i64 (ptAns (pt 41 n0).1 (pt 41 n0).2).2.1], .int .i64 (ptAns (pt 41 n0).1 (pt 41 n0).2).2.2]) ∧ Below w.heap.size w w' := by
  have hlt : decide ((n0 : Int) < 0) = false := by simp
  have hgt : decide ((n0 : Int) > 1099511627776) = false := by simp; omega
  go_enter Try.func26, Try.ntmps26
  go_wp2
  go_loopw [0] (RefPt n0 w.heap.size w) (fun s0 _ => (intOf s0).toNat)
  case atStart =>
    have e41 : (2 : Nat) ^ 41 = 2199023255552 := by decide
    refine ⟨41, n0, 1, 0, 0, 1, 0, rfl, by omega, by omega, by decide, ?_, ?_, ?_, ?_, by simp [fx], by simp [fy], ?_, ?_, ?_, (((Below.refl _ _).alloc (Nat.le_refl _) _).alloc (by simp) _).alloc (by simp; omega) _⟩
    any_goals (unfold Bd; omega)
    all_goals exact ⟨by simp [go_sem], by simp [go_sem], by simp [go_sem], by simp [go_sem]⟩
  case round =>
    obtain ⟨j, n, B, px, py, wx, wy, rfl, h1, h2, h3, B1, B2, B3, B4, hx, hy, ⟨a0, a1, a2, a3⟩, ⟨b0, b1, b2, b3⟩, ⟨c0, c1, c2, c3⟩, hB⟩ := hrel
    have l1 := B1.lt h3
    have l2 := B2.lt h3
    have l3 := B3.lt h3
    have l4 := B4.lt h3
    have HX := Lib.hid hx
    have HY := Lib.hid hy
    have H3 := Lib.hid h3
    have H1 := Lib.hid h1
    have HBel := Lib.hid hB
    clear hx hy h1 h3 hB
    by_cases h0 : 0 < n
    · rcases (show n % 2 = 0 ∨ n % 2 = 1 by omega) with hd | hd
      · have hd' : ((n : Int) % 2 == 1) = false := by simp; omega
        have HD := Lib.hid hd
        clear hd
        go_wp2
        go_roundw
        case rel =>
          refine refpt_next HD.out h0 H1.out h2 H3.out B1 B2 B3 B4 HX.out HY.out (by simp; rfl) (by simp; rfl) rfl rfl ⟨?_, ?_, ?_, ?_⟩ ⟨?_, ?_, ?_, ?_⟩ ⟨?_, ?_, ?_, ?_⟩ ((HBel.out.setCell (by simp <;> omega) _).setCell (by simp <;> omega) _)
          all_goals simp [go_sem, *]
        case measure => simp [intOf]; omega
      · have hd' : ((n : Int) % 2 == 1) = true := by simp; omega
        have HD := Lib.hid hd
        clear hd
        go_wp2
        go_roundw
        case rel =>
          refine refpt_next HD.out h0 H1.out h2 H3.out B1 B2 B3 B4 HX.out HY.out (by simp; rfl) (by simp; rfl) rfl rfl ⟨?_, ?_, ?_, ?_⟩ ⟨?_, ?_, ?_, ?_⟩ ⟨?_, ?_, ?_, ?_⟩ ((((HBel.out.setCell (by simp <;> omega) _).setCell (by simp <;> omega) _).setCell (by simp <;> omega) _).setCell (by simp <;> omega) _)
          all_goals simp [go_sem, *]
        case measure => simp [intOf]; omega
    · obtain rfl : n = 0 := by omega
      have hx := HX.out
      have hy := HY.out
      rw [fx_end] at hx
      rw [fy_end] at hy
      clear HX HY
      have hfin : ptAns (pt 41 n0).1 (pt 41 n0).2 = ptAns px py := by rw [← hx, ← hy]
      have HF := Lib.hid hfin
      clear hfin hx hy
      have P1 := Lib.hid (in_any px)
      have P2 := Lib.hid (in_any py)
      cases hi : inB px with
      | false =>
        rw [hi] at P1
        have e1 : ptAns px py = (0, 0, 2) := by unfold ptAns; rw [hi]; rfl
        have HE := Lib.hid e1
        clear e1 hi
        go_wp2_with fail
        refine (P1.out _).mono ?_
        rintro e w1 ⟨rfl, rfl⟩
        go_wp2
        exact bodyPost_ret (v := .tuple #[.agg #[.int .i64 0, .int .i64 0], .int .i64 2]) (by simp [results, Try.results26, go_sem, *]) rfl ⟨by rw [HF.out, HE.out], by repeat (first | exact HBel.out | refine Below.setCell ?_ (by simp <;> omega) _)⟩
      | true =>
        cases hj : inB py with
        | false =>
          rw [hi] at P1
          rw [hj] at P2
          have e1 : ptAns px py = (0, 0, 2) := by unfold ptAns; rw [hi, hj]; rfl
          have HE := Lib.hid e1
          clear e1 hi hj
          go_wp2_with fail
          refine (P1.out _).mono ?_
          rintro e w1 ⟨rfl, rfl⟩
          go_wp2_with fail
          refine (P2.out _).mono ?_
          rintro e w1 ⟨rfl, rfl⟩
          go_wp2
          exact bodyPost_ret (v := .tuple #[.agg #[.int .i64 0, .int .i64 0], .int .i64 2]) (by simp [results, Try.results26, go_sem, *]) rfl ⟨by rw [HF.out, HE.out], by repeat (first | exact HBel.out | refine Below.setCell ?_ (by simp <;> omega) _)⟩
        | true =>
          rw [hi] at P1
          rw [hj] at P2
          have e1 : ptAns px py = (px, py, 0) := by unfold ptAns; rw [hi, hj]; rfl
          have HE := Lib.hid e1
          clear e1 hi hj
          go_wp2_with fail
          refine (P1.out _).mono ?_
          rintro e w1 ⟨rfl, rfl⟩
          go_wp2_with fail
          refine (P2.out _).mono ?_
          rintro e w1 ⟨rfl, rfl⟩
          go_wp2
          exact bodyPost_ret (v := .tuple #[.agg #[.int .i64 px, .int .i64 py], .int .i64 0]) (by simp [results, Try.results26, go_sem, *]) rfl ⟨by rw [HF.out, HE.out], by repeat (first | exact HBel.out | refine Below.setCell ?_ (by simp <;> omega) _)⟩

theorem refpoint_any (n : Int) (w : World) :
    Calls Try.prog 26 #[.int .i64 n] w fun e w' => e = .returned (.tuple #[.agg #[.int .i64 (refPt n).1, .int .i64 (refPt n).2.1], .int .i64 (refPt n).2.2]) ∧ Below w.heap.size w w' := by
  by_cases h : n < 0 ∨ 1099511627776 < n
  · unfold refPt
    rw [if_pos h]
    exact refpoint_out n h w
  · unfold refPt
    rw [if_neg h]
    have := refpoint_in n.toNat (by omega) w
    rw [show ((n.toNat : Nat) : Int) = n from by omega] at this
    exact this
end Go.Proofs.Ytpaihfdmjkfegaa.Far
