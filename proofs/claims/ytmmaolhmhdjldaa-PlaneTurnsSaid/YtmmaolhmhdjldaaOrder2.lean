/- plane.Order of two places, walked. -/
import Derived.Test.YtmmaolhmhdjldaaSort2
import Derived.Deep.OwnRows
namespace Go.Proofs.Ytmmaolhmhdjldaa.Far
open Go.RowKit Go.Proofs.Ytmmaolhmhdjldaa.FI Go.Proofs.Ytmmaolhmhdjldaa.PM

theorem point_ok {n X Y : Int} (h : refPt n = (X, Y, 0)) (w : World) :
    Calls Try.prog 32 #[.int .i64 n] w fun e w' => ∃ b1 b2, e = .returned (.tuple #[.complex .f64 b1 b2, .int .i64 0]) ∧ (Rep b1 X ∧ Rep b2 Y) ∧ w = w' := by
  have := point_any n w
  unfold PtBeside at this
  rw [h] at this
  refine this.mono ?_
  rintro e w' ⟨b1, b2, h1, h2, h3, h4⟩
  exact ⟨b1, b2, h3, ⟨h1, h2⟩, h4⟩

set_option maxHeartbeats 1600000 in
theorem info3 : (Try.prog.info? 3).map (fun i => (i.zero, i.size, i.bytes)) = some (some (.int .i64 0), 1, 8) := by kernel_rfl
@[local go_sem] theorem make2 (w : World) : (Instr.makeSlice 71 (.int .i64 2) (.int .i64 2)).run Try.prog w = .ok (.slice (some ⟨w.heap.size, 0, none⟩) 2 2) (w.alloc (.cells #[.int .i64 0, .int .i64 0] 3)) :=
  by
    have h := run_make_row' (P := Try.prog) 71 3 (.int .i64 0) 8 Try.underlying71 info3 rfl .i64 .i64 2 (by omega) (by omega) w
    rw [show madeCells #[Value.int .i64 0] 2 = #[.int .i64 0, .int .i64 0] from by apply Array.ext'; rw [toList_madeCells_one]; rfl] at h
    exact h

/-- What Order's loop holds: places, far, order. -/
structure OS (w : World) (P : Nat) (k j e0 e1 o0 o1 : Int) (v : World) : Prop where
  lt : w.heap.size + 1 + 1 < v.heap.size
  below : Below w.heap.size w v
  p0 : v.cell? ⟨P, 0, none⟩ = some (.int .i64 k)
  p1 : v.cell? ⟨P, 1, none⟩ = some (.int .i64 j)
  vv : v.cell? ⟨w.heap.size + 1, 0, none⟩ = some (.slice (some ⟨w.heap.size, 0, none⟩) 2 2)
  g0 : v.cell? ⟨w.heap.size, 0, none⟩ = some (.int .i64 e0)
  g1 : v.cell? ⟨w.heap.size, 1, none⟩ = some (.int .i64 e1)
  c0 : v.cell? ⟨w.heap.size + 1 + 1, 0, none⟩ = some (.int .i64 o0)
  c1 : v.cell? ⟨w.heap.size + 1 + 1, 1, none⟩ = some (.int .i64 o1)
  h0 : v.frozen? ⟨w.heap.size, 0, none⟩ = false
  h1 : v.frozen? ⟨w.heap.size, 1, none⟩ = false
  f0 : v.frozen? ⟨w.heap.size + 1 + 1, 0, none⟩ = false
  f1 : v.frozen? ⟨w.heap.size + 1 + 1, 1, none⟩ = false

theorem OS.start (w : World) (P : Nat) (k j : Int) (lP : P < w.heap.size) (p0 : w.cell? ⟨P, 0, none⟩ = some (.int .i64 k)) (p1 : w.cell? ⟨P, 1, none⟩ = some (.int .i64 j)) :
    OS w P k j 0 0 0 0 (((w.alloc (.cells #[.int .i64 0, .int .i64 0] 3)).alloc (.cells #[.slice (some ⟨w.heap.size, 0, none⟩) 2 2] 71)).alloc (.cells #[.int .i64 0, .int .i64 0] 3)) := by
  have hb : Below w.heap.size w (((w.alloc (.cells #[.int .i64 0, .int .i64 0] 3)).alloc (.cells #[.slice (some ⟨w.heap.size, 0, none⟩) 2 2] 71)).alloc (.cells #[.int .i64 0, .int .i64 0] 3)) :=
    (((Below.refl _ _).alloc (Nat.le_refl _) _).alloc (by simp) _).alloc (by simp; omega) _
  refine ⟨by simp, hb, by rw [hb.cell (p := ⟨P, 0, none⟩) lP]; exact p0, by rw [hb.cell (p := ⟨P, 1, none⟩) lP]; exact p1, ?_, ?_, ?_, ?_, ?_, ?_, ?_, ?_, ?_⟩
  all_goals simp [go_sem]

theorem OS.put0 {w : World} {P : Nat} {k j e0 e1 o0 o1 a b : Int} {v : World} (lP : P < w.heap.size) (h : OS w P k j e0 e1 o0 o1 v) :
    OS w P k j a e1 b o1 (((v.setCell ⟨w.heap.size, 0, none⟩ (.int .i64 a)).setCell ⟨w.heap.size + 1 + 1, 0, none⟩ (.int .i64 b)).drew) := by
  obtain ⟨lt, below, p0, p1, vv, g0, g1, c0, c1, h0, h1, f0, f1⟩ := h
  have n1 : P ≠ w.heap.size := by omega
  have n2 : P ≠ w.heap.size + 1 + 1 := by omega
  refine ⟨by simpa using lt, ((below.setCell (p := ⟨w.heap.size, 0, none⟩) (Nat.le_refl _) _).setCell (p := ⟨w.heap.size + 1 + 1, 0, none⟩) (by show _ ≤ w.heap.size + 1 + 1; omega) _).drew, ?_, ?_, ?_, ?_, ?_, ?_, ?_, ?_, ?_, ?_, ?_⟩
  all_goals simp [go_sem, *]
theorem OS.put1 {w : World} {P : Nat} {k j e0 e1 o0 o1 a b : Int} {v : World} (lP : P < w.heap.size) (h : OS w P k j e0 e1 o0 o1 v) :
    OS w P k j e0 a o0 b (((v.setCell ⟨w.heap.size, 1, none⟩ (.int .i64 a)).setCell ⟨w.heap.size + 1 + 1, 1, none⟩ (.int .i64 b)).drew) := by
  obtain ⟨lt, below, p0, p1, vv, g0, g1, c0, c1, h0, h1, f0, f1⟩ := h
  have n1 : P ≠ w.heap.size := by omega
  have n2 : P ≠ w.heap.size + 1 + 1 := by omega
  refine ⟨by simpa using lt, ((below.setCell (p := ⟨w.heap.size, 1, none⟩) (Nat.le_refl _) _).setCell (p := ⟨w.heap.size + 1 + 1, 1, none⟩) (by show _ ≤ w.heap.size + 1 + 1; omega) _).drew, ?_, ?_, ?_, ?_, ?_, ?_, ?_, ?_, ?_, ?_, ?_⟩
  all_goals simp [go_sem, *]

def OL (w : World) (P : Nat) (k j D1 D2 : Int) (v30 : Value) (v : World) : Prop :=
  (v30 = .int .i64 0 ∧ OS w P k j 0 0 0 0 v) ∨ (v30 = .int .i64 1 ∧ OS w P k j D1 0 0 0 v) ∨ (v30 = .int .i64 2 ∧ OS w P k j D1 D2 0 1 v)

set_option maxRecDepth 100000 in
set_option maxHeartbeats 3200000 in
theorem order_two (n k j X Y U1 V1 U2 V2 : Int) (hn : refPt n = (X, Y, 0)) (hk : refPt k = (U1, V1, 0)) (hj : refPt j = (U2, V2, 0)) (Pb : Nat) (w : World) (lP : Pb < w.heap.size)
    (p0 : w.cell? ⟨Pb, 0, none⟩ = some (.int .i64 k)) (p1 : w.cell? ⟨Pb, 1, none⟩ = some (.int .i64 j)) :
    Calls Try.prog 52 #[.int .i64 n, .slice (some ⟨Pb, 0, none⟩) 2 2] w fun e w' => ∃ O : Nat, e = .returned (.tuple #[.slice (some ⟨O, 0, none⟩) 2 2, .int .i64 0]) ∧ w.heap.size ≤ O ∧ O < w'.heap.size ∧
      w'.cell? ⟨O, 0, none⟩ = some (.int .i64 (if farW X Y U2 V2 < farW X Y U1 V1 then 1 else 0)) ∧ w'.cell? ⟨O, 1, none⟩ = some (.int .i64 (if farW X Y U2 V2 < farW X Y U1 V1 then 0 else 1)) ∧ Below w.heap.size w w' := by
  have N := Lib.hid (point_ok hn)
  have K := Lib.hid (point_ok hk)
  have J := Lib.hid (point_ok hj)
  have F1 := fun (b1 b2 c1 c2 : Nat) (r : Rep b1 X ∧ Rep b2 Y) (q : Rep c1 U1 ∧ Rep c2 V1) (w : World) => far_rep (w := w) r.1 r.2 q.1 q.2 (by have := (refPt_bounds n).1; rw [hn] at this; exact this) (by have := (refPt_bounds n).2; rw [hn] at this; exact this) (by have := (refPt_bounds k).1; rw [hk] at this; exact this) (by have := (refPt_bounds k).2; rw [hk] at this; exact this)
  have F2 := fun (b1 b2 c1 c2 : Nat) (r : Rep b1 X ∧ Rep b2 Y) (q : Rep c1 U2 ∧ Rep c2 V2) (w : World) => far_rep (w := w) r.1 r.2 q.1 q.2 (by have := (refPt_bounds n).1; rw [hn] at this; exact this) (by have := (refPt_bounds n).2; rw [hn] at this; exact this) (by have := (refPt_bounds j).1; rw [hj] at this; exact this) (by have := (refPt_bounds j).2; rw [hj] at this; exact this)
  generalize farW X Y U1 V1 = D1 at F1 ⊢
  generalize farW X Y U2 V2 = D2 at F2 ⊢
  generalize hx : (if D2 < D1 then (1 : Int) else 0) = x
  generalize hy : (if D2 < D1 then (0 : Int) else 1) = y
  have HX := Lib.hid hx
  have HY := Lib.hid hy
  clear hx hy
  have G1 := Lib.hid F1
  have G2 := Lib.hid F2
  have S0 := Lib.hid (OS.start w Pb k j lP p0 p1)
  have LP := Lib.hid lP
  clear hn hk hj F1 F2 lP p0 p1
  go_enter Try.func52, Try.ntmps52
  go_wp2_with fail
  refine (N.out _).mono ?_
  rintro e w1 ⟨b1, b2, rfl, hr, rfl⟩
  have R := Lib.hid hr
  clear hr
  go_wp2
  go_loopw [30] (OL w Pb k j D1 D2) (fun v30 _ => (2 - intOf v30).toNat)
  case atStart => exact Or.inl ⟨rfl, S0.out⟩
  case round =>
    rcases hrel with ⟨rfl, hS⟩ | ⟨rfl, hS⟩ | ⟨rfl, hS⟩
    · have S1 := Lib.hid hS
      have p0 := hS.p0
      have vv := hS.vv
      have g0 := hS.g0
      have c0 := hS.c0
      have h0 := hS.h0
      have f0 := hS.f0
      clear hS
      go_wp2_with fail
      refine (K.out _).mono ?_
      rintro e w1 ⟨c1, c2, rfl, hq, rfl⟩
      have Q := Lib.hid hq
      clear hq
      go_wp2_with fail
      go_region_with ((go_at_call 27; refine (G1.out _ _ _ _ R.out Q.out _).mono ?_; rintro e w' ⟨rfl, rfl⟩))
      all_goals
        go_wp2
        go_roundw
        case rel => exact Or.inr (Or.inl ⟨rfl, OS.put0 LP.out S1.out⟩)
        case measure => simp [intOf]
    · have S1 := Lib.hid hS
      have p1 := hS.p1
      have vv := hS.vv
      have g1 := hS.g1
      have c1 := hS.c1
      have h1 := hS.h1
      have f1 := hS.f1
      clear hS
      go_wp2_with fail
      refine (J.out _).mono ?_
      rintro e w1 ⟨c1, c2, rfl, hq, rfl⟩
      have Q := Lib.hid hq
      clear hq
      go_wp2_with fail
      go_region_with ((go_at_call 27; refine (G2.out _ _ _ _ R.out Q.out _).mono ?_; rintro e w' ⟨rfl, rfl⟩))
      all_goals
        go_wp2
        go_roundw
        case rel => exact Or.inr (Or.inr ⟨rfl, OS.put1 LP.out S1.out⟩)
        case measure => simp [intOf]
    · have S1 := Lib.hid hS
      have T0 := (sort2_any w.heap.size (w.heap.size + 1 + 1) (w.heap.size + 1) w.heap.size D1 D2 wr (by omega) (by omega) (by omega) ⟨hS.lt, by have := hS.lt; omega, by have := hS.lt; omega, hS.c0, hS.c1, hS.f0, hS.f1, hS.vv, hS.g0, hS.g1⟩)
      rw [HX.out, HY.out] at T0
      have T := Lib.hid T0
      clear hS T0
      go_wp2_with fail
      refine T.out.mono ?_
      rintro e w2 ⟨rfl, hS, hb⟩
      have S2 := Lib.hid hS
      have B2 := Lib.hid (S1.out.below.trans hb)
      clear hS hb
      go_wp2
      exact bodyPost_ret (v := .tuple #[.slice (some ⟨w.heap.size + 1 + 1, 0, none⟩) 2 2, .int .i64 0]) (by simp [results, Try.results52, go_sem]) rfl ⟨_, rfl, by omega, S2.out.lO, S2.out.c0, S2.out.c1, B2.out⟩
end Go.Proofs.Ytmmaolhmhdjldaa.Far
