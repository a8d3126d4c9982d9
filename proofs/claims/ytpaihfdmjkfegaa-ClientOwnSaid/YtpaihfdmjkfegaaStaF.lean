/- The stable sort: rotate, walked. -/
import Derived.Test.YtpaihfdmjkfegaaStaE
namespace Go.Proofs.Ytpaihfdmjkfegaa.Sta
open Go.Shelf Go.RowKit Go.Lib Go.Sort
variable {α : Type} [Inhabited α]

set_option maxHeartbeats 4000000 in
set_option maxRecDepth 1000000 in
theorem rotate_any (enc : α → Value) (fv : Value) (blk off cap a m b : Nat) (d0 d : Array α) (w0 w : World)
    (R : Row1 enc w0 blk off d0) (hs : d0.size = d.size) (S : SW enc w0 blk off d w) (h1 : a < m) (h2 : m < b) (h3 : b ≤ d.size) (hsz : d.size < 4611686018427387904) :
    Calls Try.prog 67 #[.slice (some ⟨blk, off, none⟩) d.size cap, .int .i64 a, .int .i64 m, .int .i64 b, fv] w fun e w' => e = .returned (.tuple #[]) ∧ ∃ d', Rot a m b d d' ∧ SW enc w0 blk off d' w' := by
  have S0 : Aside (SW enc w0 blk off d w) := S
  clear S
  go_enter Try.func67, Try.ntmps67
  go_wp2_with fail
  go_loopg [10, 11] (b - a) (fun g v10 v11 wr => ∃ (i j : Nat) (dk : Array α), i + j = g ∧ 1 ≤ i ∧ 1 ≤ j ∧ i ≤ m ∧ m + j ≤ d.size ∧ v10 = .int .i64 i ∧ v11 = .int .i64 j ∧ dk.size = d.size ∧ Aside (SW enc w0 blk off dk wr) ∧ ∀ d', Rot (m - i) m (m + j) dk d' → Rot a m b d d')
  case atStart =>
    refine ⟨m - a, b - m, d, by omega, by omega, by omega, by omega, by omega, ?_, ?_, rfl, S0, fun d' h => ?_⟩
    · go_num
    · go_num
    · rwa [show m - (m - a) = a by omega, show m + (b - m) = b by omega] at h
  case round =>
    clear S0
    obtain ⟨i, j, dk, hg, hi1, hj1, him, hjm, rfl, rfl, hds, S1, hR⟩ := hrel
    have HR := Lib.hid hR
    clear hR
    have C := fun (p q n : Nat) (hp : p + n ≤ d.size) (hq : q + n ≤ d.size) => swapRange_any enc fv blk off cap p q n d0 dk w0 wr R (by omega) S1.out (by omega) (by omega) (by omega)
    rw [hds] at C
    rcases Nat.lt_trichotomy i j with hij | rfl | hij
    · have hij' : ¬ ((j : Int) < (i : Int)) := by omega
      have hne : ((i : Int) == (j : Int)) = false := by simp; omega
      have hne2 : ¬ (i : Int) = (j : Int) := by omega
      have c1 := Lib.hid (C (m - i) (m + j - i) i (by omega) (by omega))
      have e1 : (m : Int) - (i : Int) = ((m - i : Nat) : Int) := by omega
      have e2 : (m : Int) + (j : Int) - (i : Int) = ((m + j - i : Nat) : Int) := by omega
      clear C
      go_wp2_with fail
      refine c1.out.mono ?_
      rintro e w2 ⟨rfl, hS2⟩
      have S2 := Lib.hid hS2
      clear hS2 c1
      have e3 : (j : Int) - (i : Int) = ((j - i : Nat) : Int) := by omega
      go_wp2_with fail
      go_roundg (i + (j - i))
      case measure => omega
      case rel =>
        refine ⟨i, j - i, _, rfl, hi1, by omega, him, by omega, rfl, by go_num, by rw [exN_size]; exact hds, S2.out, fun d' h => HR.out d' ?_⟩
        have hx := exN_exch (m - i) (m + j - i) dk i (by omega) (by omega)
        have := rot_right (s := m - i) (i := i) (j := j) hij (by rwa [show m - i + j = m + j - i by omega]) (show Rot (m - i) (m - i + i) (m - i + j) _ d' by rwa [show m - i + i = m by omega, show m - i + j = m + (j - i) by omega])
        rwa [show m - i + i = m by omega] at this
    · have c1 := Lib.hid (C (m - i) m i (by omega) (by omega))
      have e1 : (m : Int) - (i : Int) = ((m - i : Nat) : Int) := by omega
      clear C
      go_wp2_with fail
      refine c1.out.mono ?_
      rintro e w2 ⟨rfl, hS2⟩
      have S2 := Lib.hid hS2
      clear hS2 c1
      go_wp2_with fail
      go_end0
      refine ⟨rfl, _, HR.out _ ?_, S2.out⟩
      have hx := exN_exch (m - i) m dk i (by omega) (by omega)
      have := rot_same (s := m - i) (i := i) (show Exch (m - i) (m - i + i) i dk _ by rwa [show m - i + i = m by omega])
      rwa [show m - i + i = m by omega] at this
    · have hij' : (j : Int) < (i : Int) := by omega
      have hne : ((i : Int) == (j : Int)) = false := by simp; omega
      have hne2 : ¬ (i : Int) = (j : Int) := by omega
      have c1 := Lib.hid (C (m - i) m j (by omega) (by omega))
      have e1 : (m : Int) - (i : Int) = ((m - i : Nat) : Int) := by omega
      clear C
      go_wp2_with fail
      refine c1.out.mono ?_
      rintro e w2 ⟨rfl, hS2⟩
      have S2 := Lib.hid hS2
      clear hS2 c1
      have e3 : (i : Int) - (j : Int) = ((i - j : Nat) : Int) := by omega
      go_wp2_with fail
      go_roundg (i - j + j)
      case measure => omega
      case rel =>
        refine ⟨i - j, j, _, rfl, by omega, hj1, by omega, hjm, by go_num, rfl, by rw [exN_size]; exact hds, S2.out, fun d' h => HR.out d' ?_⟩
        have hx := exN_exch (m - i) m dk j (by omega) (by omega)
        have := rot_left (s := m - i) (i := i) (j := j) hij (show Exch (m - i) (m - i + i) j dk _ by rwa [show m - i + i = m by omega]) (show Rot (m - i + j) (m - i + i) (m - i + i + j) _ d' by rwa [show m - i + i = m by omega, show m - i + j = m - (i - j) by omega])
        rwa [show m - i + i = m by omega] at this
end Go.Proofs.Ytpaihfdmjkfegaa.Sta
