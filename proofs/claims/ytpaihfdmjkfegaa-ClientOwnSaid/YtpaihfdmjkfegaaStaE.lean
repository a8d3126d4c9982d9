/- The stable sort: swapRange, rotate, walked. -/
import Derived.Test.YtpaihfdmjkfegaaStaAD
import Derived.Test.YtpaihfdmjkfegaaProg
import Derived.Shelf.SlSortCmp.Kit1
import Derived.Sort.WalkB2
import Derived.Sort.WalkB12
import Derived.Deep.LoopGhost
import Derived.Lib.Hide
namespace Go.Proofs.Ytpaihfdmjkfegaa.Sta
open Go.Shelf Go.RowKit Go.Lib Go.Sort
variable {α : Type} [Inhabited α]

/-- The first t are exchanged. -/
def exN (p q : Nat) : Nat → Array α → Array α
  | 0, d => d
  | t + 1, d => swp (exN p q t d) (p + t) (q + t)
theorem exN_exch (p q : Nat) (d : Array α) : ∀ n, p + n ≤ q → q + n ≤ d.size → Exch p q n d (exN p q n d)
  | 0, _, _ => ⟨rfl, fun t h => by omega, fun t h => by omega, fun _ _ _ => rfl⟩
  | n + 1, h1, h2 => by
    have h := exN_exch p q d n (by omega) (by omega)
    unfold exN
    refine ⟨by rw [size_swp, h.size], fun t ht => ?_, fun t ht => ?_, fun i hi hj => ?_⟩
    · by_cases e : t = n
      · subst e
        rw [swp_left _ _ _ (by rw [h.size]; omega) (by omega), h.far _ (by omega) (by omega)]
      · rw [swp_other _ _ _ _ (by omega) (by omega)]
        exact h.left t (by omega)
    · by_cases e : t = n
      · subst e
        rw [swp_right _ _ _ (by rw [h.size]; omega), h.far _ (by omega) (by omega)]
      · rw [swp_other _ _ _ _ (by omega) (by omega)]
        exact h.right t (by omega)
    · rw [swp_other _ _ _ _ (by omega) (by omega)]
      exact h.far i (by omega) (by omega)
theorem exN_size (p q : Nat) (d : Array α) : ∀ n, (exN p q n d).size = d.size
  | 0 => rfl
  | n + 1 => by unfold exN; rw [size_swp, exN_size p q d n]

set_option maxHeartbeats 4000000 in
set_option maxRecDepth 1000000 in
theorem swapRange_any (enc : α → Value) (fv : Value) (blk off cap p q n : Nat) (d0 d : Array α) (w0 w : World)
    (R : Row1 enc w0 blk off d0) (hs : d0.size = d.size) (S : SW enc w0 blk off d w) (hp : p + n ≤ d.size) (hq : q + n ≤ d.size) (hsz : d.size < 4611686018427387904) :
    Calls Try.prog 81 #[.slice (some ⟨blk, off, none⟩) d.size cap, .int .i64 p, .int .i64 q, .int .i64 n, fv] w fun e w' => e = .returned (.tuple #[]) ∧ SW enc w0 blk off (exN p q n d) w' := by
  have mixed : Try.prog.follows Departure.mixedOrders = true := by kernel_rfl
  have hcl0 := R.hO.cells
  simp only [Value.cells] at hcl0
  have hst := R.hO.store Try.prog
  have S0 : Aside (SW enc w0 blk off d w) := S
  clear S
  go_enter Try.func81, Try.ntmps81
  go_wp2
  go_loopg [10] n (fun g v wr => ∃ t : Nat, t + g = n ∧ v = .int .i64 t ∧ Aside (SW enc w0 blk off (exN p q t d) wr))
  case atStart => exact ⟨0, by omega, rfl, S0⟩
  case round =>
    clear S0
    obtain ⟨t, ht, rfl, S1⟩ := hrel
    have hds : (exN p q t d).size = d.size := exN_size p q d t
    by_cases hlt : t < n
    · have hlt' : (t : Int) < (n : Int) := by omega
      have hsw : Aside (exN p q (t + 1) d = swp (exN p q t d) (p + t) (q + t)) := rfl
      obtain ⟨dk, hdk⟩ : ∃ dk, exN p q t d = dk := ⟨_, rfl⟩
      rw [hdk] at S1 hds hsw
      go_wp2_with fail
      obtain ⟨iN, hiN⟩ : ∃ x, x = p + t := ⟨_, rfl⟩
      obtain ⟨jN, hjN⟩ : ∃ x, x = q + t := ⟨_, rfl⟩
      have ra : IntKind.i64.wrap ((p : Int) + (t : Int)) = (p : Int) + t := by rw [IntKind.wrap_i64]; omega
      have rc : IntKind.i64.wrap ((q : Int) + (t : Int)) = (q : Int) + t := by rw [IntKind.wrap_i64]; omega
      have ea : ((p : Int) + (t : Int)).toNat = iN := by omega
      have pa : (0 : Int) ≤ (p : Int) + t := by omega
      have ba : (p : Int) + t < (d.size : Int) := by omega
      have ec : ((q : Int) + (t : Int)).toNat = jN := by omega
      have pc : (0 : Int) ≤ (q : Int) + t := by omega
      have bc : (q : Int) + t < (d.size : Int) := by omega
      obtain ⟨x, hx⟩ : ∃ x, x = dk[p + t]! := ⟨_, rfl⟩
      obtain ⟨y, hy⟩ : ∃ x, x = dk[q + t]! := ⟨_, rfl⟩
      have S2 : Aside (SW enc w0 blk off (swp dk (p + t) (q + t)) ((wr.setCell ⟨blk, off + iN, none⟩ (enc y)).setCell ⟨blk, off + jN, none⟩ (enc x)).drew) := by rw [hiN, hjN, hx, hy]; exact S1.out.swapped R (p + t) (q + t) (by omega) (by omega)
      have ca := S1.out.c1 R (by omega) (p + t) (by omega)
      have cb := S1.out.c1 R (by omega) (q + t) (by omega)
      have fa := S1.out.f1 R (by omega) (p + t) (by omega)
      have fb := S1.out.f1 R (by omega) (q + t) (by omega)
      obtain ⟨u, cc⟩ := S1.out.c2 R (by omega) (p + t) (q + t) (by omega) (by omega) (enc y)
      rw [← hjN, ← hiN] at cc
      rw [← hx, ← hiN] at ca
      rw [← hy, ← hjN] at cb
      rw [← hiN] at fa
      rw [← hjN] at fb
      clear S1 hx hy hiN hjN
      go_big_region_o
      clear ca cb cc fa fb
      generalize ((wr.setCell ⟨blk, off + iN, none⟩ (enc y)).setCell ⟨blk, off + jN, none⟩ (enc x)).drew = w2 at S2 ⊢
      clear ea ec
      go_wp2
      go_roundg (n - (t + 1))
      case measure => omega
      case rel => exact ⟨t + 1, by omega, by simp, by rw [hsw.out]; exact S2⟩
    · obtain rfl : t = n := by omega
      have hnn : decide ((t : Int) < (t : Int)) = false := decide_eq_false (by omega)
      go_wp2
      go_end0
      exact ⟨rfl, S1.out⟩
end Go.Proofs.Ytpaihfdmjkfegaa.Sta
