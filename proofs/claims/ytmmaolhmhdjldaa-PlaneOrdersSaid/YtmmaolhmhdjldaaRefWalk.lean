/- The document's Number and Point, walked. -/
import Derived.Test.YtmmaolhmhdjldaaNmWalk
namespace Go.Proofs.Ytmmaolhmhdjldaa.Far
open Go.RowKit Go.Proofs.Ytmmaolhmhdjldaa.FI Go.Proofs.Ytmmaolhmhdjldaa.PM

/-- Are both parts 0? -/
def zB (x y : Int) : Bool := x == 0 && y == 0
theorem neq35 (x y : Int) (w : World) : (binOp .neq 35 (.agg #[.int .i64 x, .int .i64 y]) (.agg #[.int .i64 0, .int .i64 0])).run Try.prog w = .ok (.bool (!zB x y)) w := by
  have hu := Try.underlying35
  unfold zB
  go_simp
  by_cases h1 : x = 0 <;> by_cases h2 : y = 0 <;> simp [h1, h2]
attribute [local go_sem high] neq35

def RefNm (N : Int) (B : Nat) (w : World) (s3 s4 : Value) (wr : World) : Prop := ∃ (k i : Nat) (x y m b : Int), s3 = .int .i64 m ∧ s4 = .int .i64 b ∧ b = 2 ^ i ∧ k + i = 36 ∧ en k x y ∧
  (-2048 ≤ x ∧ x ≤ 2048) ∧ (-2048 ≤ y ∧ y ≤ 2048) ∧ 0 ≤ m ∧ m < b ∧ m + b * nm k x y = N ∧
  wr.cell? ⟨B, 0, none⟩ = some (.int .i64 x) ∧ wr.cell? ⟨B, 1, none⟩ = some (.int .i64 y) ∧ wr.frozen? ⟨B, 0, none⟩ = false ∧ wr.frozen? ⟨B, 1, none⟩ = false ∧ Below B w wr

theorem ref_next {N x y m b d : Int} {B : Nat} {w wr : World} {k i : Nat} {m' X Y : Int} (hd : (x + y) % 2 = d) (h0 : ¬ (x = 0 ∧ y = 0)) (hb : b = 2 ^ i) (hk : k + i = 36) (he : en k x y) (hx : -2048 ≤ x ∧ x ≤ 2048) (hy : -2048 ≤ y ∧ y ≤ 2048)
    (hm1 : 0 ≤ m) (hm2 : m < b) (hN : m + b * nm k x y = N) (em : m' = m + d * b) (eX : X = (y - (x - d)).tdiv 2) (eY : Y = (-(x - d) - y).tdiv 2)
    (c0 : wr.cell? ⟨B, 0, none⟩ = some (.int .i64 X)) (c1 : wr.cell? ⟨B, 1, none⟩ = some (.int .i64 Y)) (f0 : wr.frozen? ⟨B, 0, none⟩ = false) (f1 : wr.frozen? ⟨B, 1, none⟩ = false) (hB : Below B w wr) :
    RefNm N B w (.int .i64 m') (.int .i64 (b * 2)) wr := by
  subst em eX eY
  obtain ⟨k', i', x', y', m1, b', e4, e5, e7, e8, hb', hk', he', hx', hy', hm1', hm2', hN'⟩ := nm_next N x y m b d k i hd h0 hb hk he hx hy hm1 hm2 hN
  simp only [Value.int.injEq, true_and] at e4 e5 e7 e8
  rw [e4] at c0
  rw [e5] at c1
  exact ⟨k', i', x', y', m1, b', by rw [e7], by rw [e8], hb', hk', he', hx', hy', hm1', hm2', hN', c0, c1, f0, f1, hB⟩

theorem ret1 {a b : Int} (h : a = b) : Ending.returned (.int .i64 a) = .returned (.int .i64 b) := by rw [h]

theorem par_tmod (x y : Int) : ((x + y).tmod 2 != 0) = decide ((x + y) % 2 = 1) := by
  rw [Bool.eq_iff_iff]
  simp only [bne_iff_ne, ne_eq, decide_eq_true_eq]
  rw [← Int.dvd_iff_tmod_eq_zero, Int.dvd_iff_emod_eq_zero]
  omega

set_option maxRecDepth 100000 in
set_option maxHeartbeats 800000 in
theorem ref_number (x0 y0 : Int) (k1 : -1024 ≤ x0 ∧ x0 ≤ 1024) (k2 : -1024 ≤ y0 ∧ y0 ≤ 1024) (w : World) :
    Calls Try.prog 37 #[.agg #[.int .i64 x0, .int .i64 y0]] w fun e w' => e = .returned (.int .i64 (nm 36 x0 y0)) ∧ Below w.heap.size w w' := by
  go_enter Try.func37, Try.ntmps37
  go_wp2
  go_loopw [3, 4] (RefNm (nm 36 x0 y0) w.heap.size w) (fun _ s4 _ => (2199023255552 - intOf s4).toNat)
  case atStart => exact ⟨36, 0, x0, y0, 0, 1, rfl, rfl, rfl, rfl, en_place _ _ k1 k2, by omega, by omega, by omega, by omega, by omega, by simp [go_sem], by simp [go_sem], by simp [go_sem], by simp [go_sem], (Below.refl _ _).alloc (Nat.le_refl _) _⟩
  case round =>
    obtain ⟨k, i, x, y, m, b, rfl, rfl, hb, hk, he, hx, hy, hm1, hm2, hN, c0, c1, f0, f1, hB⟩ := hrel
    obtain ⟨hb0, hb1⟩ := bit_bound hb hk
    have HB := Lib.hid hb
    have HN := Lib.hid hN
    have HBel := Lib.hid hB
    clear hb hN hB
    cases hz : zB x y with
    | true =>
      have h0 : x = 0 ∧ y = 0 := by simpa [zB] using hz
      obtain ⟨rfl, rfl⟩ := h0
      have hN := HN.out
      rw [nm_end] at hN
      have HM := Lib.hid (show m = nm 36 x0 y0 by omega)
      clear hN HN HB he
      go_wp2
      go_ret
      exact ⟨ret1 HM.out, HBel.out⟩
    | false =>
      have h0 : ¬ (x = 0 ∧ y = 0) := by
        rintro ⟨rfl, rfl⟩
        cases hz
      have HO := Lib.hid h0
      clear h0
      have hpar := par_tmod x y
      rcases (show (x + y) % 2 = 0 ∨ (x + y) % 2 = 1 by omega) with hd | hd
      · rw [hd] at hpar
        replace hpar : ((x + y).tmod 2 != 0) = false := hpar
        have HD := Lib.hid hd
        clear hd
        go_wp2
        go_roundw
        case rel =>
          refine ref_next HD.out HO.out HB.out hk he hx hy hm1 hm2 HN.out (by omega) rfl rfl ?_ ?_ ?_ ?_ ((HBel.out.setCell (by simp) _).setCell (by simp) _)
          all_goals simp [go_sem, *]
        case measure => simp [intOf]; omega
      · rw [hd] at hpar
        replace hpar : ((x + y).tmod 2 != 0) = true := hpar
        have HD := Lib.hid hd
        clear hd
        go_wp2
        go_roundw
        case rel =>
          refine ref_next HD.out HO.out HB.out hk he hx hy hm1 hm2 HN.out (by omega) rfl rfl ?_ ?_ ?_ ?_ (((HBel.out.setCell (by simp) _).setCell (by simp) _).setCell (by simp) _)
          all_goals simp [go_sem, *]
        case measure => simp [intOf]; omega
end Go.Proofs.Ytmmaolhmhdjldaa.Far
