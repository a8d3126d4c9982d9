/- Plain: the program's Check of a history (a map of the last transaction of each client) is the document's (the last one begun). -/
import Derived.Test.YtmmaolhmhdjldaaActs
namespace Go.Proofs.Ytmmaolhmhdjldaa.Hist

/-- Is an identity well formed? -/
def good (n c : Int) : Bool := decide (1 ≤ n) && decide (n ≤ 1099511627776) && decide (0 ≤ c) && decide (c < 16)
/-- By N, then by Client. -/
def ageCmp (a b c d : Int) : Int := if a < c then -1 else if a > c then 1 else if b < d then -1 else if b > d then 1 else 0

/-- What asks nothing of other acts, but for From. -/
def baseB (x : AV) : Bool :=
  decide (0 ≤ x.cl) && decide (x.cl < 16) && decide (1 ≤ x.call) && decide (x.call ≤ 6) && good x.n x.c && decide (x.c = x.cl) && decide (-1 ≤ x.to) && !(decide (0 ≤ x.to) && decide (x.to < x.fr))
/-- What asks of the client's last transaction. -/
def idB (o : Option (Int × Int)) (x : AV) : Bool :=
  if x.call = 1 then decide (x.to = x.fr) && decide (x.code = 0) && (match o with | some l => decide (ageCmp l.1 l.2 x.n x.c < 0) | none => true)
  else (match o with | some l => decide (l.1 = x.n) && decide (l.2 = x.c) | none => false)

/-- The program's map behind k acts. -/
def mapR (X : Nat → AV) (cl : Int) : Nat → Option (Int × Int)
  | 0 => none
  | k + 1 => if (X k).cl = cl then some ((X k).n, (X k).c) else mapR X cl k
/-- The document's last one begun, of k acts. -/
def begR (X : Nat → AV) (cl : Int) : Nat → Option (Int × Int)
  | 0 => none
  | k + 1 => if (X k).cl = cl ∧ (X k).call = 1 then some ((X k).n, (X k).c) else begR X cl k
/-- From of the act ahead. -/
def frP (X : Nat → AV) : Nat → Int
  | 0 => 0
  | k + 1 => (X k).fr

def stepP (X : Nat → AV) (i : Nat) : Bool := baseB (X i) && decide (frP X i ≤ (X i).fr) && idB (mapR X (X i).cl i) (X i)
def stepR (X : Nat → AV) (i : Nat) : Bool := baseB (X i) && (decide (0 ≤ (X i).fr) && decide (frP X i ≤ (X i).fr)) && idB (begR X (X i).cl i) (X i)
def allP (X : Nat → AV) : Nat → Bool
  | 0 => true
  | k + 1 => allP X k && stepP X k
def allR (X : Nat → AV) : Nat → Bool
  | 0 => true
  | k + 1 => allR X k && stepR X k

theorem inv (X : Nat → AV) : ∀ k, allP X k = true → (∀ cl, mapR X cl k = begR X cl k) ∧ 0 ≤ frP X k := by
  intro k
  induction k with
  | zero => intro _; exact ⟨fun _ => rfl, Int.le_refl _⟩
  | succ k ih =>
    intro h
    simp only [allP, Bool.and_eq_true] at h
    obtain ⟨h1, h2⟩ := h
    obtain ⟨i1, i2⟩ := ih h1
    unfold stepP at h2
    simp only [Bool.and_eq_true, decide_eq_true_eq] at h2
    obtain ⟨⟨h3, h4⟩, h5⟩ := h2
    refine ⟨fun cl => ?_, ?_⟩
    · unfold mapR begR
      by_cases hc : (X k).cl = cl
      · subst hc
        rw [if_pos rfl]
        by_cases hb : (X k).call = 1
        · rw [if_pos ⟨rfl, hb⟩]
        · rw [if_neg (fun e => hb e.2), ← i1]
          unfold idB at h5
          rw [if_neg hb] at h5
          cases hm : mapR X (X k).cl k with
          | none => rw [hm] at h5; cases h5
          | some l =>
            rw [hm] at h5
            simp only [Bool.and_eq_true, decide_eq_true_eq] at h5
            obtain ⟨l1, l2⟩ := l
            simp only at h5
            rw [h5.1, h5.2]
      · rw [if_neg hc, if_neg (fun e => hc e.1), i1]
    · show 0 ≤ (X k).fr
      omega

theorem all_eq (X : Nat → AV) : ∀ k, allP X k = allR X k := by
  intro k
  induction k with
  | zero => rfl
  | succ k ih =>
    simp only [allP, allR]
    rw [← ih]
    cases hP : allP X k with
    | false => rfl
    | true =>
      obtain ⟨i1, i2⟩ := inv X k hP
      unfold stepP stepR
      rw [i1]
      by_cases hf : frP X k ≤ (X k).fr
      · have h0 : 0 ≤ (X k).fr := by omega
        simp [hf, h0]
      · simp [hf]
end Go.Proofs.Ytmmaolhmhdjldaa.Hist
