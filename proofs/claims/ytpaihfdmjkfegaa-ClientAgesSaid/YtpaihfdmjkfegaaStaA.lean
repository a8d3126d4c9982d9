/- The stable sort, in plain Lean: parts exchanged, rotations. -/
import Derived.Sort.Lot0
import Derived.Sort.LotA
namespace Go.Proofs.Ytpaihfdmjkfegaa.Sta
open Go.Sort
variable {α : Type} [Inhabited α]

/-- The n at p and the n at q are exchanged. -/
structure Exch (p q n : Nat) (d d' : Array α) : Prop where
  size : d'.size = d.size
  left : ∀ t, t < n → d'[p + t]! = d[q + t]!
  right : ∀ t, t < n → d'[q + t]! = d[p + t]!
  far : ∀ i, (i < p ∨ p + n ≤ i) → (i < q ∨ q + n ≤ i) → d'[i]! = d[i]!
/-- The parts [s, m) and [m, e) are exchanged. -/
structure Rot (s m e : Nat) (d d' : Array α) : Prop where
  size : d'.size = d.size
  left : ∀ i, s ≤ i → i < s + (e - m) → d'[i]! = d[i + (m - s)]!
  right : ∀ i, s + (e - m) ≤ i → i < e → d'[i]! = d[i - (e - m)]!
  far : ∀ i, i < s ∨ e ≤ i → d'[i]! = d[i]!

theorem rot_same {s i : Nat} {d d' : Array α} (h : Exch s (s + i) i d d') : Rot s (s + i) (s + i + i) d d' where
  size := h.size
  left k h1 h2 := by
    have := h.left (k - s) (by omega)
    rw [show s + (k - s) = k by omega, show s + i + (k - s) = k + (s + i - s) by omega] at this
    exact this
  right k h1 h2 := by
    have := h.right (k - (s + i)) (by omega)
    rw [show s + i + (k - (s + i)) = k by omega, show s + (k - (s + i)) = k - (s + i + i - (s + i)) by omega] at this
    exact this
  far k hk := h.far k (by omega) (by omega)

/-- The left one is the longer. -/
theorem rot_left {s i j : Nat} {d d2 d' : Array α} (hij : j < i) (h : Exch s (s + i) j d d2) (h' : Rot (s + j) (s + i) (s + i + j) d2 d') : Rot s (s + i) (s + i + j) d d' where
  size := h'.size.trans h.size
  left k h1 h2 := by
    rw [h'.far k (by omega)]
    have := h.left (k - s) (by omega)
    rw [show s + (k - s) = k by omega, show s + i + (k - s) = k + (s + i - s) by omega] at this
    exact this
  right k h1 h2 := by
    by_cases c : k < s + j + j
    · rw [h'.left k (by omega) (by omega)]
      have := h.right (k - (s + j)) (by omega)
      rw [show s + i + (k - (s + j)) = k + (s + i - (s + j)) by omega, show s + (k - (s + j)) = k - (s + i + j - (s + i)) by omega] at this
      exact this
    · rw [h'.right k (by omega) (by omega)]
      exact h.far _ (by omega) (by omega)
  far k hk := by
    rw [h'.far k (by omega)]
    exact h.far k (by omega) (by omega)

/-- The right one is the longer. -/
theorem rot_right {s i j : Nat} {d d2 d' : Array α} (hij : i < j) (h : Exch s (s + j) i d d2) (h' : Rot s (s + i) (s + j) d2 d') : Rot s (s + i) (s + i + j) d d' where
  size := h'.size.trans h.size
  left k h1 h2 := by
    by_cases c : k < s + (j - i)
    · rw [h'.left k (by omega) (by omega)]
      rw [h.far _ (by omega) (by omega)]
    · rw [h'.right k (by omega) (by omega)]
      have := h.left (k - (j - i) - s) (by omega)
      rw [show s + (k - (j - i) - s) = k - (s + j - (s + i)) by omega, show s + j + (k - (j - i) - s) = k + (s + i - s) by omega] at this
      exact this
  right k h1 h2 := by
    rw [h'.far k (by omega)]
    have := h.right (k - (s + j)) (by omega)
    rw [show s + j + (k - (s + j)) = k by omega, show s + (k - (s + j)) = k - (s + i + j - (s + i)) by omega] at this
    exact this
  far k hk := by
    rw [h'.far k (by omega)]
    exact h.far k (by omega) (by omega)

/-- Nothing is exchanged where a part is empty. -/
theorem rot_nil_left (s e : Nat) (d : Array α) : Rot s s e d d where
  size := rfl
  left k _ _ := by rw [Nat.sub_self, Nat.add_zero]
  right k h1 h2 := by omega
  far _ _ := rfl
theorem rot_nil_right (s m : Nat) (d : Array α) : Rot s m m d d where
  size := rfl
  left k h1 h2 := by omega
  right k h1 h2 := by rw [Nat.sub_self, Nat.sub_zero]
  far _ _ := rfl
end Go.Proofs.Ytpaihfdmjkfegaa.Sta
