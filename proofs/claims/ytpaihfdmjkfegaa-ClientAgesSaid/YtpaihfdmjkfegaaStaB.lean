/- The stable sort, in plain Lean: where two rising parts are cut. -/
import Derived.Test.YtpaihfdmjkfegaaStaA
namespace Go.Proofs.Ytpaihfdmjkfegaa.Sta
open Go.Sort
variable {α : Type} [Inhabited α]

/-- A strict order. -/
structure Ord (lt : α → α → Prop) : Prop where
  trans : ∀ x y z, lt x y → lt y z → lt x z
  asymm : ∀ x y, lt x y → ¬ lt y x
/-- It rises from a to b. -/
def Asc (lt : α → α → Prop) (a b : Nat) (d : Array α) : Prop := ∀ i j, a ≤ i → i < j → j < b → lt d[i]! d[j]!
/-- Two rising parts; the comparison of one of the right with one of the left says what the order says. -/
structure Two (lt : α → α → Prop) (cl : α → α → Bool) (a m b : Nat) (d : Array α) : Prop where
  left : Asc lt a m d
  right : Asc lt m b d
  agree : ∀ i j, a ≤ i → i < m → m ≤ j → j < b → (cl d[j]! d[i]! = true ↔ lt d[j]! d[i]!)
  apart : ∀ i j, a ≤ i → i < m → m ≤ j → j < b → lt d[i]! d[j]! ∨ lt d[j]! d[i]!

variable {lt : α → α → Prop} {cl : α → α → Bool}

theorem Asc.le {a b : Nat} {d : Array α} (h : Asc lt a b d) {i j : Nat} (hi : a ≤ i) (hij : i ≤ j) (hj : j < b) : d[i]! = d[j]! ∨ lt d[i]! d[j]! := by
  rcases Nat.lt_or_ge i j with c | c
  · exact .inr (h i j hi c hj)
  · obtain rfl : i = j := by omega
    exact .inl rfl
omit [Inhabited α] in
theorem Ord.chain (O : Ord lt) {x y z u : α} (h1 : x = y ∨ lt x y) (h2 : lt y z) (h3 : z = u ∨ lt z u) : lt x u := by
  rcases h1 with rfl | h1 <;> rcases h3 with rfl | h3
  · exact h2
  · exact O.trans _ _ _ h2 h3
  · exact O.trans _ _ _ h1 h2
  · exact O.trans _ _ _ (O.trans _ _ _ h1 h2) h3

/-- Where symMerge looks for the cut. -/
def lo (a m b : Nat) : Nat := if (a + b) / 2 < m then (a + b) / 2 + m - b else a
def hi (a m b : Nat) : Nat := if (a + b) / 2 < m then (a + b) / 2 else m
/-- The cut is found. -/
structure CutAt (cl : α → α → Bool) (a m b s : Nat) (d : Array α) : Prop where
  ls : lo a m b ≤ s
  sh : s ≤ hi a m b
  before : ∀ c, lo a m b ≤ c → c < s → cl d[(a + b) / 2 + m - 1 - c]! d[c]! = false
  behind : ∀ c, s ≤ c → c < hi a m b → cl d[(a + b) / 2 + m - 1 - c]! d[c]! = true

theorem lo_hi {a m b : Nat} (h1 : a < m) (h2 : m < b) : a ≤ lo a m b ∧ lo a m b ≤ hi a m b ∧ hi a m b ≤ m ∧ hi a m b ≤ (a + b) / 2 ∧ (a + b) / 2 + m - b ≤ lo a m b := by
  unfold lo hi
  split <;> omega

/-- What lies left of the middle behind the exchange is less than what lies right of it. -/
theorem cut_facts (O : Ord lt) {a m b s : Nat} {d : Array α} (T : Two lt cl a m b d) (h1 : a < m) (h2 : m < b) (K : CutAt cl a m b s d) :
    (∀ i j, a ≤ i → i < s → (a + b) / 2 + m - s ≤ j → j < b → lt d[i]! d[j]!) ∧ (∀ i j, m ≤ i → i < (a + b) / 2 + m - s → s ≤ j → j < m → lt d[i]! d[j]!) := by
  obtain ⟨q1, q2, q3, q4, q5⟩ := lo_hi h1 h2
  have k1 := K.ls
  have k2 := K.sh
  constructor
  · intro i j hi1 hi2 hj1 hj2
    have hls : lo a m b < s := by
      rcases Nat.lt_or_ge (lo a m b) s with c | c
      · exact c
      · exfalso
        have : s = lo a m b := by omega
        unfold lo at this
        split at this <;> omega
    have hp := K.before (s - 1) (by omega) (by omega)
    have hc : ¬ lt d[(a + b) / 2 + m - 1 - (s - 1)]! d[s - 1]! := fun hl => by
      rw [(T.agree (s - 1) _ (by omega) (by omega) (by omega) (by omega)).2 hl] at hp
      cases hp
    have hd := (T.apart (s - 1) ((a + b) / 2 + m - 1 - (s - 1)) (by omega) (by omega) (by omega) (by omega)).resolve_right hc
    exact O.chain (T.left.le (by omega) (by omega) (by omega)) hd (T.right.le (by omega) (by omega) (by omega))
  · intro i j hi1 hi2 hj1 hj2
    have hsh : s < hi a m b := by
      rcases Nat.lt_or_ge s (hi a m b) with c | c
      · exact c
      · exfalso
        have : s = hi a m b := by omega
        unfold hi at this
        split at this <;> omega
    have hp := K.behind s (Nat.le_refl _) hsh
    have hd := (T.agree s _ (by omega) (by omega) (by omega) (by omega)).1 hp
    exact O.chain (T.right.le (by omega) (by omega) (by omega)) hd (T.left.le (by omega) (by omega) (by omega))

/-- Behind the exchange. -/
theorem cut_two (O : Ord lt) {a m b s : Nat} {d d' : Array α} (T : Two lt cl a m b d) (h1 : a < m) (h2 : m < b) (K : CutAt cl a m b s d) (R : Rot s m ((a + b) / 2 + m - s) d d') :
    Two lt cl a s ((a + b) / 2) d' ∧ Two lt cl ((a + b) / 2) ((a + b) / 2 + m - s) b d' ∧ ∀ i j, a ≤ i → i < (a + b) / 2 → (a + b) / 2 ≤ j → j < b → lt d'[i]! d'[j]! := by
  obtain ⟨q1, q2, q3, q4, q5⟩ := lo_hi h1 h2
  have k1 := K.ls
  have k2 := K.sh
  obtain ⟨f1, f2⟩ := cut_facts O T h1 h2 K
  have r1 : ∀ i, i < s → d'[i]! = d[i]! := fun i hi => R.far i (.inl hi)
  have r2 : ∀ i, s ≤ i → i < (a + b) / 2 → d'[i]! = d[i + (m - s)]! := fun i hi hj => R.left i hi (by omega)
  have r3 : ∀ i, (a + b) / 2 ≤ i → i < (a + b) / 2 + m - s → d'[i]! = d[i - ((a + b) / 2 - s)]! := fun i hi hj => by
    rw [R.right i (by omega) hj, show (a + b) / 2 + m - s - m = (a + b) / 2 - s by omega]
  have r4 : ∀ i, (a + b) / 2 + m - s ≤ i → d'[i]! = d[i]! := fun i hi => R.far i (.inr hi)
  refine ⟨⟨fun i j hi hij hj => ?_, fun i j hi hij hj => ?_, fun i j hi hij hj hjb => ?_, fun i j hi hij hj hjb => ?_⟩, ⟨fun i j hi hij hj => ?_, fun i j hi hij hj => ?_, fun i j hi hij hj hjb => ?_, fun i j hi hij hj hjb => ?_⟩, fun i j hi hij hj hjb => ?_⟩
  · rw [r1 i (by omega), r1 j hj]
    exact T.left i j hi hij (by omega)
  · rw [r2 i hi (by omega), r2 j (by omega) hj]
    exact T.right _ _ (by omega) (by omega) (by omega)
  · rw [r1 i hij, r2 j hj hjb]
    exact T.agree _ _ hi (by omega) (by omega) (by omega)
  · rw [r1 i hij, r2 j hj hjb]
    exact T.apart _ _ hi (by omega) (by omega) (by omega)
  · rw [r3 i hi (by omega), r3 j (by omega) hj]
    exact T.left _ _ (by omega) (by omega) (by omega)
  · rw [r4 i hi, r4 j (by omega)]
    exact T.right _ _ (by omega) hij hj
  · rw [r3 i hi hij, r4 j hj]
    exact T.agree _ _ (by omega) (by omega) (by omega) hjb
  · rw [r3 i hi hij, r4 j hj]
    exact T.apart _ _ (by omega) (by omega) (by omega) hjb
  · by_cases c1 : i < s
    · rw [r1 i c1]
      by_cases c2 : j < (a + b) / 2 + m - s
      · rw [r3 j hj c2]
        exact T.left _ _ hi (by omega) (by omega)
      · rw [r4 j (by omega)]
        exact f1 i j hi c1 (by omega) hjb
    · rw [r2 i (by omega) hij]
      by_cases c2 : j < (a + b) / 2 + m - s
      · rw [r3 j hj c2]
        exact f2 _ _ (by omega) (by omega) (by omega) (by omega)
      · rw [r4 j (by omega)]
        exact T.right _ _ (by omega) (by omega) hjb
end Go.Proofs.Ytpaihfdmjkfegaa.Sta
