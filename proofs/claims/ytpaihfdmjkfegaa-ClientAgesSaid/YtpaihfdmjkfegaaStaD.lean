/- The stable sort, in plain Lean: a rotation lays a part in another order; one is put in. -/
import Derived.Test.YtpaihfdmjkfegaaStaC
namespace Go.Proofs.Ytpaihfdmjkfegaa.Sta
open Go.Sort
variable {α : Type} [Inhabited α] {lt : α → α → Prop} {cl : α → α → Bool}

theorem extract_list (d : Array α) {a b : Nat} (hb : b ≤ d.size) : (d.extract a b).toList = (List.range (b - a)).map fun k => d[a + k]! := by
  apply List.ext_getElem?
  intro k
  rw [List.getElem?_map, Array.getElem?_toList]
  by_cases hk : k < b - a
  · rw [List.getElem?_range hk]
    simp only [Option.map_some]
    rw [getElem!_pos d (a + k) (by omega)]
    rw [Array.getElem?_eq_getElem (by simp; omega)]
    simp
  · rw [List.getElem?_eq_none (by simp; omega), Array.getElem?_eq_none (by simp; omega)]
    rfl
omit [Inhabited α] in
theorem range_split (p q : Nat) (f : Nat → α) : (List.range (p + q)).map f = (List.range p).map f ++ (List.range q).map fun k => f (p + k) := by
  rw [List.range_add, List.map_append, List.map_map]
  rfl
theorem Rot.perm {s m e : Nat} {d d' : Array α} (h : Rot s m e d d') (h1 : s ≤ m) (h2 : m ≤ e) (h3 : e ≤ d.size) : PermIn s e d d' := by
  refine ⟨h.size, h.far, ?_⟩
  rw [extract_list d h3, extract_list d' (by rw [h.size]; exact h3)]
  have e1 : (List.range (e - s)).map (fun k => d'[s + k]!) = (List.range (e - m)).map (fun k => d[m + k]!) ++ (List.range (m - s)).map fun k => d[s + k]! := by
    rw [show e - s = (e - m) + (m - s) by omega, range_split]
    congr 1
    · apply List.map_congr_left
      intro k hk
      rw [List.mem_range] at hk
      rw [h.left (s + k) (by omega) (by omega), show s + k + (m - s) = m + k by omega]
    · apply List.map_congr_left
      intro k hk
      rw [List.mem_range] at hk
      rw [h.right (s + (e - m + k)) (by omega) (by omega), show s + (e - m + k) - (e - m) = s + k by omega]
  have e2 : (List.range (e - s)).map (fun k => d[s + k]!) = (List.range (m - s)).map (fun k => d[s + k]!) ++ (List.range (e - m)).map fun k => d[m + k]! := by
    rw [show e - s = (m - s) + (e - m) by omega, range_split]
    congr 1
    apply List.map_congr_left
    intro k _
    rw [show s + (m - s + k) = m + k by omega]
  rw [e1, e2]
  exact List.perm_append_comm

/-- The one of the left is put in. -/
theorem ins_left {a b i : Nat} {d d' : Array α} (T : Two lt cl a (a + 1) b d) (h1 : a + 1 ≤ i) (h2 : i ≤ b) (hb : ∀ h, a + 1 ≤ h → h < i → cl d[h]! d[a]! = true) (hn : ∀ h, i ≤ h → h < b → cl d[h]! d[a]! = false) (R : Rot a (a + 1) i d d') : Asc lt a b d' := by
  have g1 : ∀ h, a + 1 ≤ h → h < i → lt d[h]! d[a]! := fun h q1 q2 => (T.agree a h (Nat.le_refl _) (by omega) q1 (by omega)).1 (hb h q1 q2)
  have g2 : ∀ h, i ≤ h → h < b → lt d[a]! d[h]! := fun h q1 q2 => (T.apart a h (Nat.le_refl _) (by omega) (by omega) q2).resolve_right fun hl => by
    have := (T.agree a h (Nat.le_refl _) (by omega) (by omega) q2).2 hl
    rw [hn h q1 q2] at this
    cases this
  have r1 : ∀ k, a ≤ k → k < i - 1 → d'[k]! = d[k + 1]! := fun k q1 q2 => by
    rw [R.left k q1 (by omega), show k + (a + 1 - a) = k + 1 by omega]
  have r2 : d'[i - 1]! = d[a]! := by
    rw [R.right (i - 1) (by omega) (by omega), show i - 1 - (i - (a + 1)) = a by omega]
  have r3 : ∀ k, i ≤ k → d'[k]! = d[k]! := fun k q => R.far k (.inr q)
  intro p q q1 q2 q3
  by_cases c1 : q < i - 1
  · rw [r1 p q1 (by omega), r1 q (by omega) c1]
    exact T.right _ _ (by omega) (by omega) (by omega)
  · by_cases c2 : q = i - 1
    · subst c2
      rw [r1 p q1 q2, r2]
      exact g1 _ (by omega) (by omega)
    · rw [r3 q (by omega)]
      by_cases c3 : p < i - 1
      · rw [r1 p q1 c3]
        exact T.right _ _ (by omega) (by omega) q3
      · by_cases c4 : p = i - 1
        · subst c4
          rw [r2]
          exact g2 _ (by omega) q3
        · rw [r3 p (by omega)]
          exact T.right _ _ (by omega) q2 q3
/-- The one of the right is put in. -/
theorem ins_right {a m i : Nat} {d d' : Array α} (T : Two lt cl a m (m + 1) d) (h1 : a ≤ i) (h2 : i ≤ m) (hb : ∀ h, a ≤ h → h < i → cl d[m]! d[h]! = false) (hn : ∀ h, i ≤ h → h < m → cl d[m]! d[h]! = true) (R : Rot i m (m + 1) d d') : Asc lt a (m + 1) d' := by
  have g1 : ∀ h, a ≤ h → h < i → lt d[h]! d[m]! := fun h q1 q2 => (T.apart h m q1 (by omega) (Nat.le_refl _) (by omega)).resolve_right fun hl => by
    have := (T.agree h m q1 (by omega) (Nat.le_refl _) (by omega)).2 hl
    rw [hb h q1 q2] at this
    cases this
  have g2 : ∀ h, i ≤ h → h < m → lt d[m]! d[h]! := fun h q1 q2 => (T.agree h m (by omega) q2 (Nat.le_refl _) (by omega)).1 (hn h q1 q2)
  have r1 : ∀ k, k < i → d'[k]! = d[k]! := fun k q => R.far k (.inl q)
  have r2 : d'[i]! = d[m]! := by
    rw [R.left i (Nat.le_refl _) (by omega), show i + (m - i) = m by omega]
  have r3 : ∀ k, i < k → k < m + 1 → d'[k]! = d[k - 1]! := fun k q1 q2 => by
    rw [R.right k (by omega) q2, show k - (m + 1 - m) = k - 1 by omega]
  intro p q q1 q2 q3
  by_cases c1 : p < i
  · rw [r1 p c1]
    by_cases c2 : q < i
    · rw [r1 q c2]
      exact T.left _ _ q1 q2 (by omega)
    · by_cases c3 : q = i
      · subst c3
        rw [r2]
        exact g1 _ q1 c1
      · rw [r3 q (by omega) q3]
        exact T.left _ _ q1 (by omega) (by omega)
  · by_cases c2 : p = i
    · subst c2
      rw [r2, r3 q q2 q3]
      exact g2 _ (by omega) (by omega)
    · rw [r3 p (by omega) (by omega), r3 q (by omega) q3]
      exact T.left _ _ (by omega) (by omega) (by omega)

/-- A swap carries the one that is put in a place on. -/
theorem rot_step_right {a k : Nat} {d d' : Array α} (h : Rot a (a + 1) (k + 1) d d') (hk : a ≤ k) (hs : k + 1 < d.size) : Rot a (a + 1) (k + 2) d (swp d' k (k + 1)) where
  size := by rw [size_swp, h.size]
  left x h1 h2 := by
    by_cases e : x = k
    · subst e
      rw [swp_left d' x (x + 1) (by rw [h.size]; omega) (by omega), h.far (x + 1) (by omega), show x + (a + 1 - a) = x + 1 by omega]
    · rw [swp_other d' k (k + 1) x e (by omega)]
      exact h.left x h1 (by omega)
  right x h1 h2 := by
    obtain rfl : x = k + 1 := by omega
    rw [swp_right d' k (k + 1) (by rw [h.size]; omega), h.right k (by omega) (by omega)]
    congr 1
    omega
  far x hx := by
    rw [swp_other d' k (k + 1) x (by omega) (by omega)]
    exact h.far x (by omega)
theorem rot_step_left {m k : Nat} {d d' : Array α} (h : Rot (k + 1) m (m + 1) d d') (hk : k + 1 ≤ m) (hs : m < d.size) : Rot k m (m + 1) d (swp d' (k + 1) k) where
  size := by rw [size_swp, h.size]
  left x h1 h2 := by
    obtain rfl : x = k := by omega
    rw [swp_right d' (x + 1) x (by rw [h.size]; omega), h.left (x + 1) (by omega) (by omega)]
    congr 1
    omega
  right x h1 h2 := by
    by_cases e : x = k + 1
    · subst e
      rw [swp_left d' (k + 1) k (by rw [h.size]; omega) (by omega), h.far k (by omega)]
      congr 1
      omega
    · rw [swp_other d' (k + 1) k x e (by omega)]
      exact h.right x (by omega) (by omega)
  far x hx := by
    rw [swp_other d' (k + 1) k x (by omega) (by omega)]
    exact h.far x (by omega)
end Go.Proofs.Ytpaihfdmjkfegaa.Sta
