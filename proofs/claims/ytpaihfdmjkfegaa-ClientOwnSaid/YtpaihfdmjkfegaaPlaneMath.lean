/- Numbers in the base -1 + i, in whole numbers: the point of a number, the number of a point. -/
namespace Go.Proofs.Ytpaihfdmjkfegaa.PM

/-- The point of n, of whose digits k are looked at. -/
def pt : Nat → Nat → Int × Int
  | 0, _ => (0, 0)
  | k + 1, n => (((n % 2 : Nat) : Int) - (pt k (n / 2)).1 - (pt k (n / 2)).2, (pt k (n / 2)).1 - (pt k (n / 2)).2)

theorem pt_bound : ∀ (k n : Nat), -(2 ^ k : Int) < (pt k n).1 ∧ (pt k n).1 < 2 ^ k ∧ -(2 ^ k : Int) < (pt k n).2 ∧ (pt k n).2 < 2 ^ k
  | 0, _ => by simp [pt]
  | k + 1, n => by
    have ih := pt_bound k (n / 2)
    have hp : (2 ^ (k + 1) : Int) = 2 * 2 ^ k := by rw [Int.pow_succ, Int.mul_comm]
    rw [hp]
    simp only [pt]
    generalize (2 ^ k : Int) = P at *
    omega

theorem pt_more : ∀ (k n j : Nat), n < 2 ^ k → pt (k + j) n = pt k n
  | 0, n, j, h => by
    have : n = 0 := by simp at h; exact h
    subst this
    simp only [Nat.zero_add]
    induction j with
    | zero => rfl
    | succ j ih => simp [pt, ih]
  | k + 1, n, j, h => by
    rw [show k + 1 + j = (k + j) + 1 from by omega]
    simp only [pt]
    rw [pt_more k (n / 2) j (by rw [Nat.pow_succ] at h; omega)]

theorem pt_zero : ∀ (k n : Nat), n < 2 ^ k → (pt k n).1 = 0 → (pt k n).2 = 0 → n = 0
  | 0, n, h, _, _ => by simp at h; exact h
  | k + 1, n, h, h1, h2 => by
    simp only [pt] at h1 h2
    have h3 : n % 2 = 0 := by omega
    have := pt_zero k (n / 2) (by rw [Nat.pow_succ] at h; omega) (by omega) (by omega)
    omega

/-- One digit less: of a point whose lowest digit is d. -/
def dig (x y : Int) : Int := (x + y) % 2
def nx (x y : Int) : Int := (y - (x - dig x y)) / 2
def ny (x y : Int) : Int := (-(x - dig x y) - y) / 2

theorem dig_or (x y : Int) : dig x y = 0 ∨ dig x y = 1 := by unfold dig; omega
theorem nx_two (x y : Int) : 2 * nx x y = y - (x - dig x y) := by unfold nx dig; omega
theorem ny_two (x y : Int) : 2 * ny x y = -(x - dig x y) - y := by unfold ny dig; omega

/-- The loop is over within k rounds. -/
def en : Nat → Int → Int → Prop
  | 0, x, y => x = 0 ∧ y = 0
  | k + 1, x, y => (x = 0 ∧ y = 0) ∨ en k (nx x y) (ny x y)

/-- The number that k rounds tell. -/
def nm : Nat → Int → Int → Int
  | 0, _, _ => 0
  | k + 1, x, y => if x = 0 ∧ y = 0 then 0 else dig x y + 2 * nm k (nx x y) (ny x y)

theorem en_zero (k : Nat) : en k 0 0 := by cases k <;> simp [en]

theorem en_more : ∀ (k j : Nat) (x y : Int), en k x y → en (k + j) x y
  | 0, j, x, y, h => by obtain ⟨rfl, rfl⟩ := h; exact en_zero _
  | k + 1, j, x, y, h => by
    rw [show k + 1 + j = (k + j) + 1 from by omega]
    rcases h with h | h
    · exact Or.inl h
    · exact Or.inr (en_more k j _ _ h)

theorem nm_more : ∀ (k j : Nat) (x y : Int), en k x y → nm (k + j) x y = nm k x y
  | 0, j, x, y, h => by
    obtain ⟨rfl, rfl⟩ := h
    simp only [Nat.zero_add]
    cases j <;> simp [nm]
  | k + 1, j, x, y, h => by
    rw [show k + 1 + j = (k + j) + 1 from by omega]
    simp only [nm]
    by_cases h0 : x = 0 ∧ y = 0
    · rw [if_pos h0, if_pos h0]
    · rw [if_neg h0, if_neg h0]
      rcases h with h | h
      · exact absurd h h0
      · rw [nm_more k j _ _ h]

theorem nm_bound : ∀ (k : Nat) (x y : Int), 0 ≤ nm k x y ∧ nm k x y < 2 ^ k
  | 0, _, _ => by simp [nm]
  | k + 1, x, y => by
    have ih := nm_bound k (nx x y) (ny x y)
    have hd := dig_or x y
    have hp : (2 ^ (k + 1) : Int) = 2 * 2 ^ k := by rw [Int.pow_succ, Int.mul_comm]
    have hP : (0 : Int) < 2 ^ k := Int.pow_pos (by omega)
    rw [hp]
    simp only [nm]
    generalize (2 ^ k : Int) = P at *
    split <;> omega

theorem two_steps (x y : Int) : (2 * nx (nx x y) (ny x y) = -y + dig (nx x y) (ny x y)) ∧ (2 * ny (nx x y) (ny x y) = x - dig x y + dig (nx x y) (ny x y)) := by
  have h1 := nx_two x y
  have h2 := ny_two x y
  have h3 := nx_two (nx x y) (ny x y)
  have h4 := ny_two (nx x y) (ny x y)
  omega

theorem en_half (k : Nat) (M : Int) (x y : Int) (hx : -M ≤ x ∧ x ≤ M) (hy : -M ≤ y ∧ y ≤ M)
    (h : ∀ x y, -((M + 1) / 2) ≤ x ∧ x ≤ (M + 1) / 2 → -((M + 1) / 2) ≤ y ∧ y ≤ (M + 1) / 2 → en k x y) : en (k + 2) x y := by
  refine Or.inr (Or.inr (h _ _ ?_ ?_))
  · have := two_steps x y
    have := dig_or (nx x y) (ny x y)
    omega
  · have := two_steps x y
    have := dig_or (nx x y) (ny x y)
    have := dig_or x y
    omega

def enB : Nat → Int → Int → Bool
  | 0, x, y => x == 0 && y == 0
  | k + 1, x, y => (x == 0 && y == 0) || enB k (nx x y) (ny x y)

theorem enB_en : ∀ (k : Nat) (x y : Int), enB k x y = true → en k x y
  | 0, x, y, h => by simpa [enB, en] using h
  | k + 1, x, y, h => by
    simp only [enB, Bool.or_eq_true, Bool.and_eq_true, beq_iff_eq] at h
    rcases h with h | h
    · exact Or.inl h
    · exact Or.inr (enB_en k _ _ h)

theorem en_one (x y : Int) (hx : -1 ≤ x ∧ x ≤ 1) (hy : -1 ≤ y ∧ y ≤ 1) : en 16 x y := by
  have h1 : x = -1 ∨ x = 0 ∨ x = 1 := by omega
  have h2 : y = -1 ∨ y = 0 ∨ y = 1 := by omega
  apply enB_en
  rcases h1 with rfl | rfl | rfl <;> rcases h2 with rfl | rfl | rfl <;> decide

theorem en_place (x y : Int) (hx : -1024 ≤ x ∧ x ≤ 1024) (hy : -1024 ≤ y ∧ y ≤ 1024) : en 36 x y :=
  en_half 34 1024 x y hx hy fun x y hx hy =>
  en_half 32 512 x y (by omega) (by omega) fun x y hx hy =>
  en_half 30 256 x y (by omega) (by omega) fun x y hx hy =>
  en_half 28 128 x y (by omega) (by omega) fun x y hx hy =>
  en_half 26 64 x y (by omega) (by omega) fun x y hx hy =>
  en_half 24 32 x y (by omega) (by omega) fun x y hx hy =>
  en_half 22 16 x y (by omega) (by omega) fun x y hx hy =>
  en_half 20 8 x y (by omega) (by omega) fun x y hx hy =>
  en_half 18 4 x y (by omega) (by omega) fun x y hx hy =>
  en_half 16 2 x y (by omega) (by omega) fun x y hx hy => en_one x y (by omega) (by omega)

/-- The number of a point is that number. -/
theorem nm_pt : ∀ (k n : Nat), n < 2 ^ k → nm k (pt k n).1 (pt k n).2 = n
  | 0, n, h => by simp at h; subst h; rfl
  | k + 1, n, h => by
    have ih := nm_pt k (n / 2) (by rw [Nat.pow_succ] at h; omega)
    simp only [nm]
    by_cases h0 : (pt (k + 1) n).1 = 0 ∧ (pt (k + 1) n).2 = 0
    · rw [if_pos h0, pt_zero (k + 1) n h h0.1 h0.2]; rfl
    · rw [if_neg h0]
      have hd : dig (pt (k + 1) n).1 (pt (k + 1) n).2 = (n % 2 : Nat) := by
        unfold dig; simp only [pt]; omega
      have h1 : nx (pt (k + 1) n).1 (pt (k + 1) n).2 = (pt k (n / 2)).1 := by
        have := nx_two (pt (k + 1) n).1 (pt (k + 1) n).2
        rw [hd] at this
        simp only [pt] at this ⊢
        omega
      have h2 : ny (pt (k + 1) n).1 (pt (k + 1) n).2 = (pt k (n / 2)).2 := by
        have := ny_two (pt (k + 1) n).1 (pt (k + 1) n).2
        rw [hd] at this
        simp only [pt] at this ⊢
        omega
      rw [hd, h1, h2, ih]
      omega

/-- The point of a place's number is that place. -/
theorem pt_nm : ∀ (k : Nat) (x y : Int), en k x y → (pt k (nm k x y).toNat).1 = x ∧ (pt k (nm k x y).toNat).2 = y
  | 0, x, y, h => by obtain ⟨rfl, rfl⟩ := h; exact ⟨rfl, rfl⟩
  | k + 1, x, y, h => by
    by_cases h0 : x = 0 ∧ y = 0
    · obtain ⟨rfl, rfl⟩ := h0
      have e : nm (k + 1) 0 0 = 0 := by simp [nm]
      rw [e]
      have := pt_more 0 0 (k + 1) (by simp)
      rw [Nat.zero_add] at this
      show (pt (k + 1) 0).1 = 0 ∧ (pt (k + 1) 0).2 = 0
      rw [this]
      exact ⟨rfl, rfl⟩
    · have h' : en k (nx x y) (ny x y) := h.resolve_left h0
      obtain ⟨i1, i2⟩ := pt_nm k _ _ h'
      have e : nm (k + 1) x y = dig x y + 2 * nm k (nx x y) (ny x y) := by simp only [nm]; rw [if_neg h0]
      have hb := nm_bound k (nx x y) (ny x y)
      have hd := dig_or x y
      have e1 : (nm (k + 1) x y).toNat / 2 = (nm k (nx x y) (ny x y)).toNat := by rw [e]; omega
      have e2 : (((nm (k + 1) x y).toNat % 2 : Nat) : Int) = dig x y := by rw [e]; omega
      simp only [pt]
      rw [e1, e2, i1, i2]
      have := nx_two x y
      have := ny_two x y
      omega
end Go.Proofs.Ytpaihfdmjkfegaa.PM
