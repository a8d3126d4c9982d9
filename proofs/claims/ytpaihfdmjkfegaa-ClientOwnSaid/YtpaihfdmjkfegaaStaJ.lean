/- The stable sort, in plain Lean: insertion, blocks of their own indices. -/
import Derived.Test.YtpaihfdmjkfegaaStaAD
namespace Go.Proofs.Ytpaihfdmjkfegaa.Sta
open Go.Sort
variable {α : Type} [Inhabited α] (far : α → Int) (ix : α → Nat)

/-- The nearer one first; of the equally far the earlier one. -/
def Nearer (x y : α) : Prop := far x < far y ∨ far x = far y ∧ ix x < ix y
def nearer (x y : α) : Bool := decide (far x < far y) || (decide (far x = far y) && decide (ix x < ix y))
omit [Inhabited α] in
theorem nearer_iff (x y : α) : nearer far ix x y = true ↔ Nearer far ix x y := by simp [nearer, Nearer]
omit [Inhabited α] in
theorem nearer_no (x y : α) : nearer far ix x y = false ↔ ¬ Nearer far ix x y := by rw [← nearer_iff, Bool.not_eq_true]
omit [Inhabited α] in
theorem nearer_ord : Ord (Nearer far ix) where
  trans x y z h1 h2 := by unfold Nearer at *; omega
  asymm x y h1 h2 := by unfold Nearer at *; omega
omit [Inhabited α] in
theorem nearer_swo : SWO (nearer far ix) where
  irrefl x := by rw [nearer_no]; unfold Nearer; omega
  trans x y z h1 h2 := by rw [nearer_iff] at *; unfold Nearer at *; omega
  ntrans x y z h1 h2 := by rw [nearer_no] at *; unfold Nearer at *; omega

/-- It holds its own indices, and rises. -/
structure Good (s e : Nat) (d : Array α) : Prop where
  own : ∀ i, s ≤ i → i < e → s ≤ ix d[i]! ∧ ix d[i]! < e
  asc : Asc (Nearer far ix) s e d

variable {far ix} {cl : α → α → Bool}

theorem Good.two (hcl : ∀ x y, cl x y = decide (far x < far y)) {a m b : Nat} {d : Array α} (h1 : Good far ix a m d) (h2 : Good far ix m b d) : Two (Nearer far ix) cl a m b d where
  left := h1.asc
  right := h2.asc
  agree i j q1 q2 q3 q4 := by
    have e1 := h1.own i q1 q2
    have e2 := h2.own j q3 q4
    rw [hcl, decide_eq_true_iff]
    unfold Nearer
    omega
  apart i j q1 q2 q3 q4 := by
    have e1 := h1.own i q1 q2
    have e2 := h2.own j q3 q4
    unfold Nearer
    omega
theorem Good.laid {a m b : Nat} {d d' : Array α} (h1 : Good far ix a m d) (h2 : Good far ix m b d) (am : a ≤ m) (mb : m ≤ b) (hb : b ≤ d.size) (p : PermIn a b d d') (q : Asc (Nearer far ix) a b d') : Good far ix a b d' where
  own := permIn_all d d' a b (fun x => a ≤ ix x ∧ ix x < b) hb p fun i q1 q2 => by
    by_cases c : i < m
    · have := h1.own i q1 c; omega
    · have := h2.own i (by omega) q2; omega
  asc := q
theorem Good.same {s e : Nat} {d d' : Array α} (h : Good far ix s e d) (k : ∀ i, s ≤ i → i < e → d'[i]! = d[i]!) : Good far ix s e d' where
  own i q1 q2 := by rw [k i q1 q2]; exact h.own i q1 q2
  asc := h.asc.same k
theorem Good.kept {s e a b : Nat} {d d' : Array α} (h : Good far ix s e d) (p : PermIn a b d d') (o : e ≤ a ∨ b ≤ s) : Good far ix s e d' := h.same fun i q1 q2 => p.2.1 i (by omega)
theorem Good.none {s e : Nat} (d : Array α) (h : e ≤ s) : Good far ix s e d := ⟨fun i q1 q2 => by omega, fun i j q1 q2 q3 => by omega⟩

/-! ### Insertion -/
theorem insInner_eq (hcl : ∀ x y, cl x y = decide (far x < far y)) (a : Nat) : ∀ (j : Nat) (d : Array α), j < d.size → (∀ p, a ≤ p → p < j → ix d[p]! < ix d[j]!) → insInner cl a j d = insInner (nearer far ix) a j d
  | 0, d, _, _ => by simp [insInner]
  | j + 1, d, hj, h => by
    unfold insInner
    by_cases hja : a < j + 1
    · have e : cl d[j + 1]! d[j]! = nearer far ix d[j + 1]! d[j]! := by
        have h1 := h j (by omega) (by omega)
        rw [hcl]
        unfold nearer
        rw [show decide (ix d[j + 1]! < ix d[j]!) = false from decide_eq_false (by omega)]
        simp
      rw [e]
      split
      · exact insInner_eq hcl a j _ (by rw [size_swp]; omega) fun p hp hpj => by
          rw [swp_other _ _ _ _ (by omega) (by omega), swp_right _ _ _ (by omega)]
          exact h p hp (by omega)
      · rfl
    · rw [if_neg (by simp; omega), if_neg (by simp; omega)]

theorem insOuter_eq (hcl : ∀ x y, cl x y = decide (far x < far y)) (a b : Nat) : ∀ (n i : Nat) (d : Array α), b - i = n → a < i → i ≤ b → b ≤ d.size → (∀ p, a ≤ p → p < i → ix d[p]! < i) → (∀ p, i ≤ p → p < b → ix d[p]! = p) → SortedIn (nearer far ix) a i d → insOuter cl a b i d = insOuter (nearer far ix) a b i d
  | 0, i, d, hn, _, hib, _, _, _, _ => by
    rw [insOuter, if_neg (by omega), insOuter, if_neg (by omega)]
  | n + 1, i, d, hn, hai, hib, hb, h1, h2, hs => by
    have hlt : i < b := by omega
    have e1 : insOuter cl a b i d = insOuter cl a b (i + 1) (insInner cl a i d) := by rw [insOuter, if_pos hlt]
    have e2 : insOuter (nearer far ix) a b i d = insOuter (nearer far ix) a b (i + 1) (insInner (nearer far ix) a i d) := by rw [insOuter, if_pos hlt]
    rw [e1, e2]
    rw [insInner_eq (far := far) (ix := ix) hcl a i d (by omega) fun p q1 q2 => by rw [h2 i (Nat.le_refl _) hlt]; exact h1 p q1 q2]
    have h3 := insInner_spec (nearer_swo far ix) swp_permIn permIn_refl permIn_trans a (i + 1) i (by omega) i d (by omega) (Nat.le_refl _) (by omega) ⟨fun p q hap hpq hqi _ hq => hs p q hap hpq (by omega), fun q h1 h2 => by omega⟩
    refine insOuter_eq hcl a b n (i + 1) _ (by omega) (by omega) (by omega) (by rw [h3.1.1]; exact hb) ?_ ?_ h3.2
    · exact permIn_all d _ a (i + 1) (fun x => ix x < i + 1) (by omega) h3.1 fun p q1 q2 => by
        by_cases c : p < i
        · have := h1 p q1 c; omega
        · have := h2 p (by omega) (by omega); omega
    · intro p q1 q2
      rw [h3.1.2.1 p (by omega)]
      exact h2 p (by omega) q2

theorem perm_apart {a b : Nat} {d d' : Array α} (hb : b ≤ d.size) (p : PermIn a b d d') (h : ∀ i, a ≤ i → i < b → ix d[i]! = i) : ∀ i j, a ≤ i → i < j → j < b → ix d'[i]! ≠ ix d'[j]! := by
  have q := p.2.2.map ix
  rw [extract_list d hb, extract_list d' (by rw [p.1]; exact hb), List.map_map, List.map_map] at q
  have n : ((List.range (b - a)).map (ix ∘ fun k => d[a + k]!)).Pairwise (· ≠ ·) := by
    rw [List.pairwise_map]
    refine List.Pairwise.imp_of_mem ?_ (List.nodup_range (n := b - a))
    intro x y hx hy hne
    rw [List.mem_range] at hx hy
    show ix d[a + x]! ≠ ix d[a + y]!
    rw [h _ (by omega) (by omega), h _ (by omega) (by omega)]
    omega
  have n' := q.symm.pairwise n (fun h => Ne.symm h)
  rw [List.pairwise_map, List.pairwise_iff_getElem] at n'
  intro i j h1 h2 h3
  have := n' (i - a) (j - a) (by simp; omega) (by simp; omega) (by omega)
  simp only [List.getElem_range, Function.comp] at this
  rwa [show a + (i - a) = i by omega, show a + (j - a) = j by omega] at this

/-- Insertion over a block of its own indices. -/
theorem insertion_good (hcl : ∀ x y, cl x y = decide (far x < far y)) {a b : Nat} {d : Array α} (hab : a ≤ b) (hb : b ≤ d.size) (h : ∀ i, a ≤ i → i < b → ix d[i]! = i) :
    PermIn a b d (insertionSort cl d a b) ∧ Good far ix a b (insertionSort cl d a b) := by
  have e : insertionSort cl d a b = insertionSort (nearer far ix) d a b := by
    unfold insertionSort
    by_cases c : a < b
    · refine insOuter_eq hcl a b (b - (a + 1)) (a + 1) d rfl (by omega) (by omega) hb (fun p q1 q2 => ?_) (fun p q1 q2 => h p (by omega) q2) (fun i j q1 q2 q3 => by omega)
      obtain rfl : p = a := by omega
      rw [h p (Nat.le_refl _) c]
      omega
    · rw [insOuter, if_neg (by omega), insOuter, if_neg (by omega)]
  have s := insertionSort_holds (nearer_swo far ix) d a b hab hb
  rw [← e] at s
  refine ⟨s.1, permIn_all d _ a b (fun x => a ≤ ix x ∧ ix x < b) hb s.1 (fun i q1 q2 => by rw [h i q1 q2]; omega), fun i j q1 q2 q3 => ?_⟩
  have n1 := perm_apart hb s.1 h i j q1 q2 q3
  have n2 := (nearer_no far ix _ _).1 (s.2 i j q1 q2 q3)
  unfold Nearer at *
  omega

/-! ### Passes -/
/-- The blocks of w below n are good. -/
def Even (far : α → Int) (ix : α → Nat) (w n : Nat) (d : Array α) : Prop := ∀ q, q * w < n → Good far ix (q * w) (min ((q + 1) * w) n) d
/-- The first k pairs are joined. -/
structure Pass (far : α → Int) (ix : α → Nat) (w n k : Nat) (d : Array α) : Prop where
  left : ∀ q, q < k → Good far ix (q * (2 * w)) ((q + 1) * (2 * w)) d
  right : ∀ q, 2 * k ≤ q → q * w < n → Good far ix (q * w) (min ((q + 1) * w) n) d
/-- The first k blocks are sorted, the others as they were. -/
structure First (far : α → Int) (ix : α → Nat) (w n k : Nat) (d : Array α) : Prop where
  left : ∀ q, q < k → Good far ix (q * w) ((q + 1) * w) d
  right : ∀ p, k * w ≤ p → p < n → ix d[p]! = p

theorem First.step {w n k : Nat} {d d' : Array α} (h : First far ix w n k d) (g : Good far ix (k * w) (k * w + w) d') (p : PermIn (k * w) (k * w + w) d d') : First far ix w n (k + 1) d' where
  left q hq := by
    by_cases c : q < k
    · have := Nat.mul_le_mul_right w (show q + 1 ≤ k by omega)
      exact (h.left q c).kept p (.inl this)
    · obtain rfl : q = k := by omega
      rw [Nat.succ_mul]
      exact g
  right i h1 h2 := by
    rw [Nat.succ_mul] at h1
    rw [p.2.1 i (by omega)]
    exact h.right i (by omega) h2
theorem First.last {w n k : Nat} {d d' : Array α} (h : First far ix w n k d) (hk : k * w ≤ n) (hn : n < k * w + w) (g : Good far ix (k * w) n d') (p : PermIn (k * w) n d d') : Even far ix w n d' := by
  intro q hq
  by_cases c : q < k
  · have := Nat.mul_le_mul_right w (show q + 1 ≤ k by omega)
    rw [Nat.min_eq_left (by omega)]
    exact (h.left q c).kept p (.inl this)
  · obtain rfl : q = k := by
      rcases Nat.lt_or_ge k q with c2 | c2
      · have := Nat.mul_le_mul_right w (show k + 1 ≤ q by omega)
        rw [Nat.succ_mul] at this
        omega
      · omega
    rw [Nat.succ_mul, Nat.min_eq_right (by omega)]
    exact g
theorem Pass.start {w n : Nat} {d : Array α} (h : Even far ix w n d) : Pass far ix w n 0 d := ⟨fun q hq => by omega, fun q _ hq => h q hq⟩
theorem Pass.pair {w n k : Nat} {d : Array α} (h : Pass far ix w n k d) (hw : 0 < w) (hb : k * (2 * w) + 2 * w ≤ n) : Good far ix (k * (2 * w)) (k * (2 * w) + w) d ∧ Good far ix (k * (2 * w) + w) (k * (2 * w) + 2 * w) d := by
  have e0 : 2 * k * w = k * (2 * w) := by rw [Nat.mul_comm 2 k, Nat.mul_assoc]
  have e1 : (2 * k + 1) * w = k * (2 * w) + w := by rw [Nat.succ_mul, e0]
  have e2 : (2 * k + 1 + 1) * w = k * (2 * w) + 2 * w := by rw [Nat.succ_mul, e1]; omega
  have h1 := h.right (2 * k) (Nat.le_refl _) (by omega)
  have h2 := h.right (2 * k + 1) (by omega) (by omega)
  rw [e0, e1, Nat.min_eq_left (by omega)] at h1
  rw [e1, e2, Nat.min_eq_left (by omega)] at h2
  exact ⟨h1, h2⟩
theorem Pass.step {w n k : Nat} {d d' : Array α} (h : Pass far ix w n k d) (g : Good far ix (k * (2 * w)) (k * (2 * w) + 2 * w) d') (p : PermIn (k * (2 * w)) (k * (2 * w) + 2 * w) d d') : Pass far ix w n (k + 1) d' where
  left q hq := by
    by_cases c : q < k
    · have := Nat.mul_le_mul_right (2 * w) (show q + 1 ≤ k by omega)
      exact (h.left q c).kept p (.inl this)
    · obtain rfl : q = k := by omega
      rw [show (q + 1) * (2 * w) = q * (2 * w) + 2 * w from Nat.succ_mul q _]
      exact g
  right q hq hn := by
    have e0 : 2 * k * w = k * (2 * w) := by rw [Nat.mul_comm 2 k, Nat.mul_assoc]
    have := Nat.mul_le_mul_right w (show 2 * k + 1 + 1 ≤ q by omega)
    rw [Nat.succ_mul, Nat.succ_mul, e0] at this
    exact (h.right q (by omega) hn).kept p (.inr (by omega))
theorem Pass.halves {w n k : Nat} {d : Array α} (h : Pass far ix w n k d) (h1 : k * (2 * w) + w < n) (h2 : n < k * (2 * w) + 2 * w) : Good far ix (k * (2 * w)) (k * (2 * w) + w) d ∧ Good far ix (k * (2 * w) + w) n d := by
  have e0 : 2 * k * w = k * (2 * w) := by rw [Nat.mul_comm 2 k, Nat.mul_assoc]
  have e1 : (2 * k + 1) * w = k * (2 * w) + w := by rw [Nat.succ_mul, e0]
  have e2 : (2 * k + 1 + 1) * w = k * (2 * w) + 2 * w := by rw [Nat.succ_mul, e1]; omega
  have g1 := h.right (2 * k) (Nat.le_refl _) (by omega)
  have g2 := h.right (2 * k + 1) (by omega) (by omega)
  rw [e0, e1, Nat.min_eq_left (by omega)] at g1
  rw [e1, e2, Nat.min_eq_right (by omega)] at g2
  exact ⟨g1, g2⟩
theorem Pass.done {w n k : Nat} {d d' : Array α} (h : Pass far ix w n k d) (hk : k * (2 * w) ≤ n) (hn : n < k * (2 * w) + 2 * w) (g : Good far ix (k * (2 * w)) n d') (p : PermIn (k * (2 * w)) n d d') : Even far ix (2 * w) n d' := by
  intro q hq
  by_cases c : q < k
  · have := Nat.mul_le_mul_right (2 * w) (show q + 1 ≤ k by omega)
    rw [Nat.min_eq_left (by omega)]
    exact (h.left q c).kept p (.inl this)
  · obtain rfl : q = k := by
      rcases Nat.lt_or_ge k q with c2 | c2
      · have := Nat.mul_le_mul_right (2 * w) (show k + 1 ≤ q by omega)
        rw [show (k + 1) * (2 * w) = k * (2 * w) + 2 * w from Nat.succ_mul k _] at this
        omega
      · omega
    rw [show (q + 1) * (2 * w) = q * (2 * w) + 2 * w from Nat.succ_mul q _, Nat.min_eq_right (by omega)]
    exact g
theorem Pass.one {w n k : Nat} {d : Array α} (h : Pass far ix w n k d) (h1 : n ≤ k * (2 * w) + w) : Good far ix (k * (2 * w)) n d := by
  by_cases c : k * (2 * w) < n
  · have e0 : 2 * k * w = k * (2 * w) := by rw [Nat.mul_comm 2 k, Nat.mul_assoc]
    have e1 : (2 * k + 1) * w = k * (2 * w) + w := by rw [Nat.succ_mul, e0]
    have g1 := h.right (2 * k) (Nat.le_refl _) (by omega)
    rwa [e0, e1, Nat.min_eq_right (by omega)] at g1
  · exact Good.none _ (by omega)
theorem Even.whole {w n : Nat} {d : Array α} (h : Even far ix w n d) (hw : n ≤ w) : Good far ix 0 n d := by
  by_cases c : 0 < n
  · have := h 0 (by omega)
    rwa [Nat.zero_mul, Nat.zero_add, Nat.one_mul, Nat.min_eq_right hw] at this
  · exact Good.none _ (by omega)
end Go.Proofs.Ytpaihfdmjkfegaa.Sta
