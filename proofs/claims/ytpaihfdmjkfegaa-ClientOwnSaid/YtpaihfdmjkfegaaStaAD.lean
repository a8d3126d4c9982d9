/- The stable sort, in plain Lean: parts exchanged, rotations. -/
import Derived.Sort.Lot0
import Derived.Sort.LotA
/- The stable sort, in plain Lean: parts exchanged, rotations. -/
namespace Go.Proofs.Ytpaihfdmjkfegaa.Sta
open Go.Sort
variable {α : Type} [Inhabited α]

/-- The n at p and the n at q are exchanged. -/
structure Exch (p q n : Nat) (d d' : Array α) : Prop where
  size : d'.size = d.size
  left : ∀ t, t < n → d'[p + t]! = d[q + t]!
  right : ∀ t, t < n → d'[q + t]! = d[p + t]!
  far : ∀ i, (i < p ∨ p + n ≤ i) → (i < q ∨ q + n ≤ i) → d'[i]! = d[i]!
/-- The parts [s, m) and [m, e) are exchanged. -/
structure Rot (s m e : Nat) (d d' : Array α) : Prop where
  size : d'.size = d.size
  left : ∀ i, s ≤ i → i < s + (e - m) → d'[i]! = d[i + (m - s)]!
  right : ∀ i, s + (e - m) ≤ i → i < e → d'[i]! = d[i - (e - m)]!
  far : ∀ i, i < s ∨ e ≤ i → d'[i]! = d[i]!

theorem rot_same {s i : Nat} {d d' : Array α} (h : Exch s (s + i) i d d') : Rot s (s + i) (s + i + i) d d' where
  size := h.size
  left k h1 h2 := by
    have := h.left (k - s) (by omega)
    rw [show s + (k - s) = k by omega, show s + i + (k - s) = k + (s + i - s) by omega] at this
    exact this
  right k h1 h2 := by
    have := h.right (k - (s + i)) (by omega)
    rw [show s + i + (k - (s + i)) = k by omega, show s + (k - (s + i)) = k - (s + i + i - (s + i)) by omega] at this
    exact this
  far k hk := h.far k (by omega) (by omega)

/-- The left one is the longer. -/
theorem rot_left {s i j : Nat} {d d2 d' : Array α} (hij : j < i) (h : Exch s (s + i) j d d2) (h' : Rot (s + j) (s + i) (s + i + j) d2 d') : Rot s (s + i) (s + i + j) d d' where
  size := h'.size.trans h.size
  left k h1 h2 := by
    rw [h'.far k (by omega)]
    have := h.left (k - s) (by omega)
    rw [show s + (k - s) = k by omega, show s + i + (k - s) = k + (s + i - s) by omega] at this
    exact this
  right k h1 h2 := by
    by_cases c : k < s + j + j
    · rw [h'.left k (by omega) (by omega)]
      have := h.right (k - (s + j)) (by omega)
      rw [show s + i + (k - (s + j)) = k + (s + i - (s + j)) by omega, show s + (k - (s + j)) = k - (s + i + j - (s + i)) by omega] at this
      exact this
    · rw [h'.right k (by omega) (by omega)]
      exact h.far _ (by omega) (by omega)
  far k hk := by
    rw [h'.far k (by omega)]
    exact h.far k (by omega) (by omega)

/-- The right one is the longer. -/
theorem rot_right {s i j : Nat} {d d2 d' : Array α} (hij : i < j) (h : Exch s (s + j) i d d2) (h' : Rot s (s + i) (s + j) d2 d') : Rot s (s + i) (s + i + j) d d' where
  size := h'.size.trans h.size
  left k h1 h2 := by
    by_cases c : k < s + (j - i)
    · rw [h'.left k (by omega) (by omega)]
      rw [h.far _ (by omega) (by omega)]
    · rw [h'.right k (by omega) (by omega)]
      have := h.left (k - (j - i) - s) (by omega)
      rw [show s + (k - (j - i) - s) = k - (s + j - (s + i)) by omega, show s + j + (k - (j - i) - s) = k + (s + i - s) by omega] at this
      exact this
  right k h1 h2 := by
    rw [h'.far k (by omega)]
    have := h.right (k - (s + j)) (by omega)
    rw [show s + j + (k - (s + j)) = k by omega, show s + (k - (s + j)) = k - (s + i + j - (s + i)) by omega] at this
    exact this
  far k hk := by
    rw [h'.far k (by omega)]
    exact h.far k (by omega) (by omega)

/-- Nothing is exchanged where a part is empty. -/
theorem rot_nil_left (s e : Nat) (d : Array α) : Rot s s e d d where
  size := rfl
  left k _ _ := by rw [Nat.sub_self, Nat.add_zero]
  right k h1 h2 := by omega
  far _ _ := rfl
theorem rot_nil_right (s m : Nat) (d : Array α) : Rot s m m d d where
  size := rfl
  left k h1 h2 := by omega
  right k h1 h2 := by rw [Nat.sub_self, Nat.sub_zero]
  far _ _ := rfl
end Go.Proofs.Ytpaihfdmjkfegaa.Sta

/- The stable sort, in plain Lean: where two rising parts are cut. -/
namespace Go.Proofs.Ytpaihfdmjkfegaa.Sta
open Go.Sort
variable {α : Type} [Inhabited α]

/-- A strict order. -/
structure Ord (lt : α → α → Prop) : Prop where
  trans : ∀ x y z, lt x y → lt y z → lt x z
  asymm : ∀ x y, lt x y → ¬ lt y x
/-- It rises from a to b. -/
def Asc (lt : α → α → Prop) (a b : Nat) (d : Array α) : Prop := ∀ i j, a ≤ i → i < j → j < b → lt d[i]! d[j]!
/-- Two rising parts; the comparison of one of the right with one of the left says what the order says. -/
structure Two (lt : α → α → Prop) (cl : α → α → Bool) (a m b : Nat) (d : Array α) : Prop where
  left : Asc lt a m d
  right : Asc lt m b d
  agree : ∀ i j, a ≤ i → i < m → m ≤ j → j < b → (cl d[j]! d[i]! = true ↔ lt d[j]! d[i]!)
  apart : ∀ i j, a ≤ i → i < m → m ≤ j → j < b → lt d[i]! d[j]! ∨ lt d[j]! d[i]!

variable {lt : α → α → Prop} {cl : α → α → Bool}

theorem Asc.le {a b : Nat} {d : Array α} (h : Asc lt a b d) {i j : Nat} (hi : a ≤ i) (hij : i ≤ j) (hj : j < b) : d[i]! = d[j]! ∨ lt d[i]! d[j]! := by
  rcases Nat.lt_or_ge i j with c | c
  · exact .inr (h i j hi c hj)
  · obtain rfl : i = j := by omega
    exact .inl rfl
omit [Inhabited α] in
theorem Ord.chain (O : Ord lt) {x y z u : α} (h1 : x = y ∨ lt x y) (h2 : lt y z) (h3 : z = u ∨ lt z u) : lt x u := by
  rcases h1 with rfl | h1 <;> rcases h3 with rfl | h3
  · exact h2
  · exact O.trans _ _ _ h2 h3
  · exact O.trans _ _ _ h1 h2
  · exact O.trans _ _ _ (O.trans _ _ _ h1 h2) h3

/-- Where symMerge looks for the cut. -/
def lo (a m b : Nat) : Nat := if (a + b) / 2 < m then (a + b) / 2 + m - b else a
def hi (a m b : Nat) : Nat := if (a + b) / 2 < m then (a + b) / 2 else m
/-- The cut is found. -/
structure CutAt (cl : α → α → Bool) (a m b s : Nat) (d : Array α) : Prop where
  ls : lo a m b ≤ s
  sh : s ≤ hi a m b
  before : ∀ c, lo a m b ≤ c → c < s → cl d[(a + b) / 2 + m - 1 - c]! d[c]! = false
  behind : ∀ c, s ≤ c → c < hi a m b → cl d[(a + b) / 2 + m - 1 - c]! d[c]! = true

theorem lo_hi {a m b : Nat} (h1 : a < m) (h2 : m < b) : a ≤ lo a m b ∧ lo a m b ≤ hi a m b ∧ hi a m b ≤ m ∧ hi a m b ≤ (a + b) / 2 ∧ (a + b) / 2 + m - b ≤ lo a m b := by
  unfold lo hi
  split <;> omega

/-- What lies left of the middle behind the exchange is less than what lies right of it. -/
theorem cut_facts (O : Ord lt) {a m b s : Nat} {d : Array α} (T : Two lt cl a m b d) (h1 : a < m) (h2 : m < b) (K : CutAt cl a m b s d) :
    (∀ i j, a ≤ i → i < s → (a + b) / 2 + m - s ≤ j → j < b → lt d[i]! d[j]!) ∧ (∀ i j, m ≤ i → i < (a + b) / 2 + m - s → s ≤ j → j < m → lt d[i]! d[j]!) := by
  obtain ⟨q1, q2, q3, q4, q5⟩ := lo_hi h1 h2
  have k1 := K.ls
  have k2 := K.sh
  constructor
  · intro i j hi1 hi2 hj1 hj2
    have hls : lo a m b < s := by
      rcases Nat.lt_or_ge (lo a m b) s with c | c
      · exact c
      · exfalso
        have : s = lo a m b := by omega
        unfold lo at this
        split at this <;> omega
    have hp := K.before (s - 1) (by omega) (by omega)
    have hc : ¬ lt d[(a + b) / 2 + m - 1 - (s - 1)]! d[s - 1]! := fun hl => by
      rw [(T.agree (s - 1) _ (by omega) (by omega) (by omega) (by omega)).2 hl] at hp
      cases hp
    have hd := (T.apart (s - 1) ((a + b) / 2 + m - 1 - (s - 1)) (by omega) (by omega) (by omega) (by omega)).resolve_right hc
    exact O.chain (T.left.le (by omega) (by omega) (by omega)) hd (T.right.le (by omega) (by omega) (by omega))
  · intro i j hi1 hi2 hj1 hj2
    have hsh : s < hi a m b := by
      rcases Nat.lt_or_ge s (hi a m b) with c | c
      · exact c
      · exfalso
        have : s = hi a m b := by omega
        unfold hi at this
        split at this <;> omega
    have hp := K.behind s (Nat.le_refl _) hsh
    have hd := (T.agree s _ (by omega) (by omega) (by omega) (by omega)).1 hp
    exact O.chain (T.right.le (by omega) (by omega) (by omega)) hd (T.left.le (by omega) (by omega) (by omega))

/-- Behind the exchange. -/
theorem cut_two (O : Ord lt) {a m b s : Nat} {d d' : Array α} (T : Two lt cl a m b d) (h1 : a < m) (h2 : m < b) (K : CutAt cl a m b s d) (R : Rot s m ((a + b) / 2 + m - s) d d') :
    Two lt cl a s ((a + b) / 2) d' ∧ Two lt cl ((a + b) / 2) ((a + b) / 2 + m - s) b d' ∧ ∀ i j, a ≤ i → i < (a + b) / 2 → (a + b) / 2 ≤ j → j < b → lt d'[i]! d'[j]! := by
  obtain ⟨q1, q2, q3, q4, q5⟩ := lo_hi h1 h2
  have k1 := K.ls
  have k2 := K.sh
  obtain ⟨f1, f2⟩ := cut_facts O T h1 h2 K
  have r1 : ∀ i, i < s → d'[i]! = d[i]! := fun i hi => R.far i (.inl hi)
  have r2 : ∀ i, s ≤ i → i < (a + b) / 2 → d'[i]! = d[i + (m - s)]! := fun i hi hj => R.left i hi (by omega)
  have r3 : ∀ i, (a + b) / 2 ≤ i → i < (a + b) / 2 + m - s → d'[i]! = d[i - ((a + b) / 2 - s)]! := fun i hi hj => by
    rw [R.right i (by omega) hj, show (a + b) / 2 + m - s - m = (a + b) / 2 - s by omega]
  have r4 : ∀ i, (a + b) / 2 + m - s ≤ i → d'[i]! = d[i]! := fun i hi => R.far i (.inr hi)
  refine ⟨⟨fun i j hi hij hj => ?_, fun i j hi hij hj => ?_, fun i j hi hij hj hjb => ?_, fun i j hi hij hj hjb => ?_⟩, ⟨fun i j hi hij hj => ?_, fun i j hi hij hj => ?_, fun i j hi hij hj hjb => ?_, fun i j hi hij hj hjb => ?_⟩, fun i j hi hij hj hjb => ?_⟩
  · rw [r1 i (by omega), r1 j hj]
    exact T.left i j hi hij (by omega)
  · rw [r2 i hi (by omega), r2 j (by omega) hj]
    exact T.right _ _ (by omega) (by omega) (by omega)
  · rw [r1 i hij, r2 j hj hjb]
    exact T.agree _ _ hi (by omega) (by omega) (by omega)
  · rw [r1 i hij, r2 j hj hjb]
    exact T.apart _ _ hi (by omega) (by omega) (by omega)
  · rw [r3 i hi (by omega), r3 j (by omega) hj]
    exact T.left _ _ (by omega) (by omega) (by omega)
  · rw [r4 i hi, r4 j (by omega)]
    exact T.right _ _ (by omega) hij hj
  · rw [r3 i hi hij, r4 j hj]
    exact T.agree _ _ (by omega) (by omega) (by omega) hjb
  · rw [r3 i hi hij, r4 j hj]
    exact T.apart _ _ (by omega) (by omega) (by omega) hjb
  · by_cases c1 : i < s
    · rw [r1 i c1]
      by_cases c2 : j < (a + b) / 2 + m - s
      · rw [r3 j hj c2]
        exact T.left _ _ hi (by omega) (by omega)
      · rw [r4 j (by omega)]
        exact f1 i j hi c1 (by omega) hjb
    · rw [r2 i (by omega) hij]
      by_cases c2 : j < (a + b) / 2 + m - s
      · rw [r3 j hj c2]
        exact f2 _ _ (by omega) (by omega) (by omega) (by omega)
      · rw [r4 j (by omega)]
        exact T.right _ _ (by omega) (by omega) hjb
end Go.Proofs.Ytpaihfdmjkfegaa.Sta

/- The stable sort, in plain Lean: the parts are joined. -/
namespace Go.Proofs.Ytpaihfdmjkfegaa.Sta
open Go.Sort
variable {α : Type} [Inhabited α] {lt : α → α → Prop} {cl : α → α → Bool}

theorem Asc.same {a b : Nat} {d d' : Array α} (h : Asc lt a b d) (e : ∀ i, a ≤ i → i < b → d'[i]! = d[i]!) : Asc lt a b d' := fun i j h1 h2 h3 => by
  rw [e i h1 (by omega), e j (by omega) h3]
  exact h i j h1 h2 h3
theorem Two.same {a m b : Nat} {d d' : Array α} (h : Two lt cl a m b d) (e : ∀ i, a ≤ i → i < b → d'[i]! = d[i]!) (h1 : a ≤ m) (h2 : m ≤ b) : Two lt cl a m b d' where
  left := h.left.same (fun i q1 q2 => e i q1 (by omega))
  right := h.right.same (fun i q1 q2 => e i (by omega) q2)
  agree i j q1 q2 q3 q4 := by rw [e i q1 (by omega), e j (by omega) q4]; exact h.agree i j q1 q2 q3 q4
  apart i j q1 q2 q3 q4 := by rw [e i q1 (by omega), e j (by omega) q4]; exact h.apart i j q1 q2 q3 q4
theorem asc_join {a c b : Nat} {d : Array α} (h1 : Asc lt a c d) (h2 : Asc lt c b d) (h : ∀ i j, a ≤ i → i < c → c ≤ j → j < b → lt d[i]! d[j]!) : Asc lt a b d := fun i j q1 q2 q3 => by
  by_cases c1 : j < c
  · exact h1 i j q1 q2 c1
  · by_cases c2 : i < c
    · exact h i j q1 c2 (by omega) q3
    · exact h2 i j (by omega) q2 q3
/-- One part is laid in another order, then the other. -/
theorem two_laid {a c b : Nat} {d1 d2 d3 : Array α} (hb : b ≤ d1.size) (_h1 : a ≤ c) (_h2 : c ≤ b) (p1 : PermIn a c d1 d2) (p2 : PermIn c b d2 d3) (a1 : Asc lt a c d2) (a2 : Asc lt c b d3) (h : ∀ i j, a ≤ i → i < c → c ≤ j → j < b → lt d1[i]! d1[j]!) : Asc lt a b d3 := by
  have hs2 : d2.size = d1.size := p1.1
  refine asc_join (a1.same fun i q1 q2 => p2.2.1 i (.inl q2)) a2 fun i j q1 q2 q3 q4 => ?_
  rw [p2.2.1 i (.inl q2)]
  have s1 : ∀ i, a ≤ i → i < c → ∀ j, c ≤ j → j < b → lt d2[i]! d1[j]! := permIn_all d1 d2 a c (fun x => ∀ j, c ≤ j → j < b → lt x d1[j]!) (by omega) p1 (fun i q1 q2 j q3 q4 => h i j q1 q2 q3 q4)
  exact permIn_all d2 d3 c b (fun y => lt d2[i]! y) (by omega) p2 (fun j q3 q4 => by
    rw [p1.2.1 j (.inr q3)]
    exact s1 i q1 q2 j q3 q4) j q3 q4
end Go.Proofs.Ytpaihfdmjkfegaa.Sta

/- The stable sort, in plain Lean: a rotation lays a part in another order; one is put in. -/
namespace Go.Proofs.Ytpaihfdmjkfegaa.Sta
open Go.Sort
variable {α : Type} [Inhabited α] {lt : α → α → Prop} {cl : α → α → Bool}

theorem extract_list (d : Array α) {a b : Nat} (hb : b ≤ d.size) : (d.extract a b).toList = (List.range (b - a)).map fun k => d[a + k]! := by
  apply List.ext_getElem?
  intro k
  rw [List.getElem?_map, Array.getElem?_toList]
  by_cases hk : k < b - a
  · rw [List.getElem?_range hk]
    simp only [Option.map_some]
    rw [getElem!_pos d (a + k) (by omega)]
    rw [Array.getElem?_eq_getElem (by simp; omega)]
    simp
  · rw [List.getElem?_eq_none (by simp; omega), Array.getElem?_eq_none (by simp; omega)]
    rfl
omit [Inhabited α] in
theorem range_split (p q : Nat) (f : Nat → α) : (List.range (p + q)).map f = (List.range p).map f ++ (List.range q).map fun k => f (p + k) := by
  rw [List.range_add, List.map_append, List.map_map]
  rfl
theorem Rot.perm {s m e : Nat} {d d' : Array α} (h : Rot s m e d d') (h1 : s ≤ m) (h2 : m ≤ e) (h3 : e ≤ d.size) : PermIn s e d d' := by
  refine ⟨h.size, h.far, ?_⟩
  rw [extract_list d h3, extract_list d' (by rw [h.size]; exact h3)]
  have e1 : (List.range (e - s)).map (fun k => d'[s + k]!) = (List.range (e - m)).map (fun k => d[m + k]!) ++ (List.range (m - s)).map fun k => d[s + k]! := by
    rw [show e - s = (e - m) + (m - s) by omega, range_split]
    congr 1
    · apply List.map_congr_left
      intro k hk
      rw [List.mem_range] at hk
      rw [h.left (s + k) (by omega) (by omega), show s + k + (m - s) = m + k by omega]
    · apply List.map_congr_left
      intro k hk
      rw [List.mem_range] at hk
      rw [h.right (s + (e - m + k)) (by omega) (by omega), show s + (e - m + k) - (e - m) = s + k by omega]
  have e2 : (List.range (e - s)).map (fun k => d[s + k]!) = (List.range (m - s)).map (fun k => d[s + k]!) ++ (List.range (e - m)).map fun k => d[m + k]! := by
    rw [show e - s = (m - s) + (e - m) by omega, range_split]
    congr 1
    apply List.map_congr_left
    intro k _
    rw [show s + (m - s + k) = m + k by omega]
  rw [e1, e2]
  exact List.perm_append_comm

/-- The one of the left is put in. -/
theorem ins_left {a b i : Nat} {d d' : Array α} (T : Two lt cl a (a + 1) b d) (h1 : a + 1 ≤ i) (h2 : i ≤ b) (hb : ∀ h, a + 1 ≤ h → h < i → cl d[h]! d[a]! = true) (hn : ∀ h, i ≤ h → h < b → cl d[h]! d[a]! = false) (R : Rot a (a + 1) i d d') : Asc lt a b d' := by
  have g1 : ∀ h, a + 1 ≤ h → h < i → lt d[h]! d[a]! := fun h q1 q2 => (T.agree a h (Nat.le_refl _) (by omega) q1 (by omega)).1 (hb h q1 q2)
  have g2 : ∀ h, i ≤ h → h < b → lt d[a]! d[h]! := fun h q1 q2 => (T.apart a h (Nat.le_refl _) (by omega) (by omega) q2).resolve_right fun hl => by
    have := (T.agree a h (Nat.le_refl _) (by omega) (by omega) q2).2 hl
    rw [hn h q1 q2] at this
    cases this
  have r1 : ∀ k, a ≤ k → k < i - 1 → d'[k]! = d[k + 1]! := fun k q1 q2 => by
    rw [R.left k q1 (by omega), show k + (a + 1 - a) = k + 1 by omega]
  have r2 : d'[i - 1]! = d[a]! := by
    rw [R.right (i - 1) (by omega) (by omega), show i - 1 - (i - (a + 1)) = a by omega]
  have r3 : ∀ k, i ≤ k → d'[k]! = d[k]! := fun k q => R.far k (.inr q)
  intro p q q1 q2 q3
  by_cases c1 : q < i - 1
  · rw [r1 p q1 (by omega), r1 q (by omega) c1]
    exact T.right _ _ (by omega) (by omega) (by omega)
  · by_cases c2 : q = i - 1
    · subst c2
      rw [r1 p q1 q2, r2]
      exact g1 _ (by omega) (by omega)
    · rw [r3 q (by omega)]
      by_cases c3 : p < i - 1
      · rw [r1 p q1 c3]
        exact T.right _ _ (by omega) (by omega) q3
      · by_cases c4 : p = i - 1
        · subst c4
          rw [r2]
          exact g2 _ (by omega) q3
        · rw [r3 p (by omega)]
          exact T.right _ _ (by omega) q2 q3
/-- The one of the right is put in. -/
theorem ins_right {a m i : Nat} {d d' : Array α} (T : Two lt cl a m (m + 1) d) (h1 : a ≤ i) (h2 : i ≤ m) (hb : ∀ h, a ≤ h → h < i → cl d[m]! d[h]! = false) (hn : ∀ h, i ≤ h → h < m → cl d[m]! d[h]! = true) (R : Rot i m (m + 1) d d') : Asc lt a (m + 1) d' := by
  have g1 : ∀ h, a ≤ h → h < i → lt d[h]! d[m]! := fun h q1 q2 => (T.apart h m q1 (by omega) (Nat.le_refl _) (by omega)).resolve_right fun hl => by
    have := (T.agree h m q1 (by omega) (Nat.le_refl _) (by omega)).2 hl
    rw [hb h q1 q2] at this
    cases this
  have g2 : ∀ h, i ≤ h → h < m → lt d[m]! d[h]! := fun h q1 q2 => (T.agree h m (by omega) q2 (Nat.le_refl _) (by omega)).1 (hn h q1 q2)
  have r1 : ∀ k, k < i → d'[k]! = d[k]! := fun k q => R.far k (.inl q)
  have r2 : d'[i]! = d[m]! := by
    rw [R.left i (Nat.le_refl _) (by omega), show i + (m - i) = m by omega]
  have r3 : ∀ k, i < k → k < m + 1 → d'[k]! = d[k - 1]! := fun k q1 q2 => by
    rw [R.right k (by omega) q2, show k - (m + 1 - m) = k - 1 by omega]
  intro p q q1 q2 q3
  by_cases c1 : p < i
  · rw [r1 p c1]
    by_cases c2 : q < i
    · rw [r1 q c2]
      exact T.left _ _ q1 q2 (by omega)
    · by_cases c3 : q = i
      · subst c3
        rw [r2]
        exact g1 _ q1 c1
      · rw [r3 q (by omega) q3]
        exact T.left _ _ q1 (by omega) (by omega)
  · by_cases c2 : p = i
    · subst c2
      rw [r2, r3 q q2 q3]
      exact g2 _ (by omega) (by omega)
    · rw [r3 p (by omega) (by omega), r3 q (by omega) q3]
      exact T.left _ _ (by omega) (by omega) (by omega)

/-- A swap carries the one that is put in a place on. -/
theorem rot_step_right {a k : Nat} {d d' : Array α} (h : Rot a (a + 1) (k + 1) d d') (hk : a ≤ k) (hs : k + 1 < d.size) : Rot a (a + 1) (k + 2) d (swp d' k (k + 1)) where
  size := by rw [size_swp, h.size]
  left x h1 h2 := by
    by_cases e : x = k
    · subst e
      rw [swp_left d' x (x + 1) (by rw [h.size]; omega) (by omega), h.far (x + 1) (by omega), show x + (a + 1 - a) = x + 1 by omega]
    · rw [swp_other d' k (k + 1) x e (by omega)]
      exact h.left x h1 (by omega)
  right x h1 h2 := by
    obtain rfl : x = k + 1 := by omega
    rw [swp_right d' k (k + 1) (by rw [h.size]; omega), h.right k (by omega) (by omega)]
    congr 1
    omega
  far x hx := by
    rw [swp_other d' k (k + 1) x (by omega) (by omega)]
    exact h.far x (by omega)
theorem rot_step_left {m k : Nat} {d d' : Array α} (h : Rot (k + 1) m (m + 1) d d') (hk : k + 1 ≤ m) (hs : m < d.size) : Rot k m (m + 1) d (swp d' (k + 1) k) where
  size := by rw [size_swp, h.size]
  left x h1 h2 := by
    obtain rfl : x = k := by omega
    rw [swp_right d' (x + 1) x (by rw [h.size]; omega), h.left (x + 1) (by omega) (by omega)]
    congr 1
    omega
  right x h1 h2 := by
    by_cases e : x = k + 1
    · subst e
      rw [swp_left d' (k + 1) k (by rw [h.size]; omega) (by omega), h.far k (by omega)]
      congr 1
      omega
    · rw [swp_other d' (k + 1) k x e (by omega)]
      exact h.right x (by omega) (by omega)
  far x hx := by
    rw [swp_other d' (k + 1) k x (by omega) (by omega)]
    exact h.far x (by omega)
end Go.Proofs.Ytpaihfdmjkfegaa.Sta
