/- The stable sort, in plain Lean: the parts are joined. -/
import Derived.Test.YtpaihfdmjkfegaaStaB
namespace Go.Proofs.Ytpaihfdmjkfegaa.Sta
open Go.Sort
variable {α : Type} [Inhabited α] {lt : α → α → Prop} {cl : α → α → Bool}

theorem Asc.same {a b : Nat} {d d' : Array α} (h : Asc lt a b d) (e : ∀ i, a ≤ i → i < b → d'[i]! = d[i]!) : Asc lt a b d' := fun i j h1 h2 h3 => by
  rw [e i h1 (by omega), e j (by omega) h3]
  exact h i j h1 h2 h3
theorem Two.same {a m b : Nat} {d d' : Array α} (h : Two lt cl a m b d) (e : ∀ i, a ≤ i → i < b → d'[i]! = d[i]!) (h1 : a ≤ m) (h2 : m ≤ b) : Two lt cl a m b d' where
  left := h.left.same (fun i q1 q2 => e i q1 (by omega))
  right := h.right.same (fun i q1 q2 => e i (by omega) q2)
  agree i j q1 q2 q3 q4 := by rw [e i q1 (by omega), e j (by omega) q4]; exact h.agree i j q1 q2 q3 q4
  apart i j q1 q2 q3 q4 := by rw [e i q1 (by omega), e j (by omega) q4]; exact h.apart i j q1 q2 q3 q4
theorem asc_join {a c b : Nat} {d : Array α} (h1 : Asc lt a c d) (h2 : Asc lt c b d) (h : ∀ i j, a ≤ i → i < c → c ≤ j → j < b → lt d[i]! d[j]!) : Asc lt a b d := fun i j q1 q2 q3 => by
  by_cases c1 : j < c
  · exact h1 i j q1 q2 c1
  · by_cases c2 : i < c
    · exact h i j q1 c2 (by omega) q3
    · exact h2 i j (by omega) q2 q3
/-- One part is laid in another order, then the other. -/
theorem two_laid {a c b : Nat} {d1 d2 d3 : Array α} (hb : b ≤ d1.size) (_h1 : a ≤ c) (_h2 : c ≤ b) (p1 : PermIn a c d1 d2) (p2 : PermIn c b d2 d3) (a1 : Asc lt a c d2) (a2 : Asc lt c b d3) (h : ∀ i j, a ≤ i → i < c → c ≤ j → j < b → lt d1[i]! d1[j]!) : Asc lt a b d3 := by
  have hs2 : d2.size = d1.size := p1.1
  refine asc_join (a1.same fun i q1 q2 => p2.2.1 i (.inl q2)) a2 fun i j q1 q2 q3 q4 => ?_
  rw [p2.2.1 i (.inl q2)]
  have s1 : ∀ i, a ≤ i → i < c → ∀ j, c ≤ j → j < b → lt d2[i]! d1[j]! := permIn_all d1 d2 a c (fun x => ∀ j, c ≤ j → j < b → lt x d1[j]!) (by omega) p1 (fun i q1 q2 j q3 q4 => h i j q1 q2 q3 q4)
  exact permIn_all d2 d3 c b (fun y => lt d2[i]! y) (by omega) p2 (fun j q3 q4 => by
    rw [p1.2.1 j (.inr q3)]
    exact s1 i q1 q2 j q3 q4) j q3 q4
end Go.Proofs.Ytpaihfdmjkfegaa.Sta
