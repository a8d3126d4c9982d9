/- Whole numbers as texts: the canonical numeral, what Atoi makes of it, what is no numeral. -/
import Derived.Lib.ItoaNum
import Derived.Lib.AtoiAll
namespace Go.Proofs.YtmmaolhmhdjldaaDoor.NT
open Go.Lib

/-- What a row of digits spells. -/
def st (a : Nat) (c : UInt8) : Nat := a * 10 + (c.toNat - 48)
def V (acc : Nat) (l : List UInt8) : Nat := l.foldl st acc
theorem V_nil (acc : Nat) : V acc [] = acc := by unfold V; rw [List.foldl_nil]
theorem V_cons' (acc : Nat) (c : UInt8) (r : List UInt8) : V acc (c :: r) = V (st acc c) r := by unfold V; rw [List.foldl_cons]
theorem V_cons (acc : Nat) (c : UInt8) (r : List UInt8) : V acc (c :: r) = V (acc * 10 + (c.toNat - 48)) r := by rw [V_cons', st]
theorem V_one (acc : Nat) (c : UInt8) : V acc [c] = acc * 10 + (c.toNat - 48) := by rw [V_cons, V_nil]

def isD (c : UInt8) : Prop := 48 ≤ c.toNat ∧ c.toNat ≤ 57
def D (l : List UInt8) : Prop := ∀ c ∈ l, isD c

theorem V_append (l m : List UInt8) : ∀ acc, V acc (l ++ m) = V (V acc l) m := by
  induction l with
  | nil => intro acc; rw [List.nil_append, V_nil]
  | cons c r ih => intro acc; rw [List.cons_append, V_cons, V_cons, ih]

theorem V_ge (l : List UInt8) : ∀ acc, acc ≤ V acc l := by
  induction l with
  | nil => intro acc; exact Nat.le_refl _
  | cons c r ih => intro acc; exact Nat.le_trans (by omega) (ih (acc * 10 + (c.toNat - 48)))

theorem digit_nat (u : Nat) (h : u < 10) : (UInt8.ofNat (48 + u)).toNat = 48 + u := by
  rw [UInt8.toNat_ofNat']; omega

theorem dec_facts (u : Nat) : decDigits u ≠ [] ∧ D (decDigits u) ∧ V 0 (decDigits u) = u ∧ (u = 0 → decDigits u = [48]) ∧ (0 < u → ∃ c r, decDigits u = c :: r ∧ c ≠ 48) := by
  induction u using Nat.strongRecOn with
  | _ u ih =>
    by_cases h : u < 10
    · rw [decDigits_one h]
      have hd := digit_nat u h
      refine ⟨by simp, ?_, ?_, ?_, ?_⟩
      · intro c hc
        simp only [List.mem_singleton] at hc
        subst hc
        unfold isD; omega
      · rw [V_one]; omega
      · intro h0; subst h0; rfl
      · intro h0
        refine ⟨_, [], rfl, fun he => ?_⟩
        rw [he] at hd
        have : (48 : UInt8).toNat = 48 := rfl
        omega
    · have e : decDigits u = decDigits (u / 10) ++ [UInt8.ofNat (48 + u % 10)] := by rw [decDigits, dif_neg h]
      obtain ⟨h1, h2, h3, h4, h5⟩ := ih (u / 10) (by omega)
      have hd := digit_nat (u % 10) (by omega)
      rw [e]
      refine ⟨by simp, ?_, ?_, by omega, ?_⟩
      · intro c hc
        rw [List.mem_append] at hc
        rcases hc with hc | hc
        · exact h2 c hc
        · simp only [List.mem_singleton] at hc
          subst hc
          unfold isD; omega
      · rw [V_append, h3, V_one]; omega
      · intro _
        obtain ⟨c, r, hc, hn⟩ := h5 (by omega)
        exact ⟨c, r ++ [UInt8.ofNat (48 + u % 10)], by rw [hc]; rfl, hn⟩

/-- A row of digits without a needless nought is the numeral of what it spells. -/
theorem dec_of (l : List UInt8) (hn : l ≠ []) (hD : D l) (hz : l.head? ≠ some 48 ∨ l.length = 1) : decDigits (V 0 l) = l := by
  obtain ⟨m, hm⟩ : ∃ m, l.length = m := ⟨_, rfl⟩
  induction m using Nat.strongRecOn generalizing l with
  | _ m ih =>
    rcases List.eq_nil_or_concat l with rfl | ⟨r, c, rfl⟩
    · exact absurd rfl hn
    · have hc : isD c := hD c (by simp)
      unfold isD at hc
      have ec : UInt8.ofNat (48 + (c.toNat - 48)) = c := by
        apply UInt8.toNat_inj.1
        rw [UInt8.toNat_ofNat']; omega
      by_cases hr : r = []
      · subst hr
        rw [List.concat_eq_append, List.nil_append, V_one, Nat.zero_mul, Nat.zero_add]
        rw [decDigits_one (by omega), ec]
      · have hz' : r.head? ≠ some 48 := by
          rcases hz with h | h
          · cases r with
            | nil => exact absurd rfl hr
            | cons a b => simpa using h
          · simp at h; exact absurd h hr
        have hDr : D r := fun x hx => hD x (by simp [hx])
        have hV := ih r.length (by rw [← hm]; simp) r hr hDr (Or.inl hz') rfl
        have hpos : 0 < V 0 r := by
          rcases Nat.eq_zero_or_pos (V 0 r) with h0 | h0
          · rw [h0] at hV
            have := (dec_facts 0).2.2.2.1 rfl
            rw [this] at hV
            rw [← hV] at hz'
            exact absurd rfl hz'
          · exact h0
        have e1 : V 0 (r.concat c) = V 0 r * 10 + (c.toNat - 48) := by
          rw [List.concat_eq_append, V_append, V_one]
        rw [e1, decDigits, dif_neg (by omega), show (V 0 r * 10 + (c.toNat - 48)) / 10 = V 0 r from by omega, show (V 0 r * 10 + (c.toNat - 48)) % 10 = c.toNat - 48 from by omega, hV, ec, List.concat_eq_append]

/-- Atoi's digits, where they fit. -/
theorem parse_digits (l : List UInt8) : ∀ acc, D l → V acc l < 18446744073709551616 → parseUint10 acc l = .ok (V acc l) := by
  induction l with
  | nil => intro acc _ _; rfl
  | cons c r ih =>
    intro acc hD hV
    have hc := hD c (by simp)
    unfold isD at hc
    have hg := Nat.lt_of_le_of_lt (V_ge r (acc * 10 + (c.toNat - 48))) (by rw [V_cons] at hV; exact hV)
    rw [V_cons] at hV ⊢
    simp only [parseUint10]
    rw [if_pos hc, if_neg (by omega), if_neg (by omega)]
    exact ih _ (fun x hx => hD x (by simp [hx])) hV

/-- Atoi of a numeral. -/
theorem atoi_itoa (n : Int) (h0 : -9223372036854775808 ≤ n) (h1 : n ≤ 9223372036854775807) : atoiAll (itoa n) = .ok n := by
  unfold itoa
  by_cases hn : n < 0
  · rw [if_pos hn]
    obtain ⟨f1, f2, f3, f4, f5⟩ := dec_facts n.natAbs
    have hp : parseMag (decDigits n.natAbs) = .ok n.natAbs := by
      unfold parseMag
      rw [if_neg f1, parse_digits _ 0 f2 (by rw [f3]; omega), f3]
    unfold atoiAll
    simp only [show (45 : UInt8).toNat = 45 from rfl]
    rw [if_pos (Or.inr trivial), hp]
    simp only
    rw [if_neg (by simp), if_neg (by omega)]
    simp
    omega
  · rw [if_neg hn]
    obtain ⟨f1, f2, f3, f4, f5⟩ := dec_facts n.toNat
    have hp : parseMag (decDigits n.toNat) = .ok n.toNat := by
      unfold parseMag
      rw [if_neg f1, parse_digits _ 0 f2 (by rw [f3]; omega), f3]
    cases hl : decDigits n.toNat with
    | nil => exact absurd hl f1
    | cons c r =>
      have hc := f2 c (by rw [hl]; simp)
      unfold isD at hc
      unfold atoiAll
      simp only
      rw [if_neg (by omega), ← hl, hp]
      simp only
      rw [if_neg (by omega), if_neg (by omega)]
      simp
      omega

/-- The document's loop over digits: none, where one is none, or the number would pass the most. -/
def pwl (most : Nat) : Nat → List UInt8 → Option Nat
  | n, [] => some n
  | n, c :: r => if 48 ≤ c.toNat ∧ c.toNat ≤ 57 ∧ n ≤ (most - (c.toNat - 48)) / 10 then pwl most (st n c) r else none

theorem pwl_some (most : Nat) (_h9 : 9 ≤ most) (l : List UInt8) : ∀ n, n ≤ most → D l → V n l ≤ most → pwl most n l = some (V n l) := by
  induction l with
  | nil => intro n _ _ _; rw [V_nil]; rfl
  | cons c r ih =>
    intro n hn hD hV
    have hc := hD c (by simp)
    unfold isD at hc
    rw [V_cons'] at hV ⊢
    have hg := Nat.le_trans (V_ge r (st n c)) hV
    have hs : st n c = n * 10 + (c.toNat - 48) := rfl
    unfold pwl
    rw [if_pos ⟨hc.1, hc.2, by omega⟩]
    exact ih _ hg (fun x hx => hD x (by simp [hx])) hV

theorem pwl_back (most : Nat) (_h9 : 9 ≤ most) (l : List UInt8) : ∀ n v, n ≤ most → pwl most n l = some v → D l ∧ V n l = v ∧ v ≤ most := by
  induction l with
  | nil =>
    intro n v hn h
    simp only [pwl, Option.some.injEq] at h
    rw [V_nil]
    exact ⟨fun c hc => by simp at hc, h, by omega⟩
  | cons c r ih =>
    intro n v hn h
    unfold pwl at h
    split at h
    · rename_i hc
      have hs : st n c = n * 10 + (c.toNat - 48) := rfl
      obtain ⟨h1, h2, h3⟩ := ih _ v (by omega) h
      rw [V_cons']
      refine ⟨fun x hx => ?_, h2, h3⟩
      rcases List.mem_cons.1 hx with rfl | hx
      · exact ⟨hc.1, hc.2.1⟩
      · exact h1 x hx
    · cases h

/-- A whole number of 64 bits, in just that form. -/
def parse (s : List UInt8) : Option Int :=
  match s with
  | [] => none
  | c :: r =>
    if c = 45 then
      match r with
      | [] => none
      | d :: _ => if d = 48 then none else (pwl 9223372036854775808 0 r).map fun (u : Nat) => -(u : Int)
    else if c = 48 ∧ r ≠ [] then none else (pwl 9223372036854775807 0 (c :: r)).map fun (u : Nat) => (u : Int)

def inI (n : Int) : Prop := -9223372036854775808 ≤ n ∧ n ≤ 9223372036854775807

theorem parse_itoa (n : Int) (h : inI n) : parse (itoa n) = some n := by
  unfold inI at h
  unfold itoa
  by_cases hn : n < 0
  · rw [if_pos hn]
    obtain ⟨f1, f2, f3, f4, f5⟩ := dec_facts n.natAbs
    obtain ⟨c, r, hl, hc⟩ := f5 (by omega)
    rw [hl] at f2 f3 ⊢
    unfold parse
    simp only
    rw [if_pos trivial, if_neg hc, pwl_some _ (by omega) _ 0 (by omega) f2 (by rw [f3]; omega), f3]
    simp
    omega
  · rw [if_neg hn]
    obtain ⟨f1, f2, f3, f4, f5⟩ := dec_facts n.toNat
    have key : ∀ c r, decDigits n.toNat = c :: r → c ≠ 45 ∧ ¬ (c = 48 ∧ r ≠ []) := by
      intro c r hl
      constructor
      · intro hc
        have := f2 c (by rw [hl]; simp)
        rw [hc] at this
        have e : (45 : UInt8).toNat = 45 := rfl
        unfold isD at this; omega
      · rintro ⟨hc, hr⟩
        rcases Nat.eq_zero_or_pos n.toNat with h0 | h0
        · have := f4 h0
          rw [hl] at this
          simp only [List.cons.injEq] at this
          exact hr this.2
        · obtain ⟨c', r', hl', hc'⟩ := f5 h0
          rw [hl] at hl'
          simp only [List.cons.injEq] at hl'
          exact hc' (by rw [← hl'.1]; exact hc)
    cases hl : decDigits n.toNat with
    | nil => exact absurd hl f1
    | cons c r =>
      obtain ⟨k1, k2⟩ := key c r hl
      unfold parse
      simp only
      rw [if_neg k1, if_neg k2, ← hl, pwl_some _ (by omega) _ 0 (by omega) f2 (by rw [f3]; omega), f3]
      simp
      omega

theorem parse_back (s : List UInt8) (n : Int) (h : parse s = some n) : inI n ∧ s = itoa n := by
  unfold parse at h
  split at h
  · cases h
  · rename_i c r
    split at h
    · rename_i hc
      subst hc
      split at h
      · cases h
      · rename_i d r
        split at h
        · cases h
        · rename_i hd
          rw [Option.map_eq_some_iff] at h
          obtain ⟨u, hu, rfl⟩ := h
          obtain ⟨g1, g2, g3⟩ := pwl_back _ (by omega) _ 0 u (by omega) hu
          have hdec := dec_of (d :: r) (by simp) g1 (Or.inl (by simpa using hd))
          rw [g2] at hdec
          have hpos : 0 < u := by
            rcases Nat.eq_zero_or_pos u with h0 | h0
            · rw [h0, (dec_facts 0).2.2.2.1 rfl] at hdec
              simp only [List.cons.injEq] at hdec
              exact absurd hdec.1.symm hd
            · exact h0
          refine ⟨by unfold inI; omega, ?_⟩
          unfold itoa
          rw [if_pos (by omega), show (-(u : Int)).natAbs = u from by omega, hdec]
    · rename_i hc
      split at h
      · cases h
      · rename_i hz
        rw [Option.map_eq_some_iff] at h
        obtain ⟨u, hu, rfl⟩ := h
        obtain ⟨g1, g2, g3⟩ := pwl_back _ (by omega) _ 0 u (by omega) hu
        have hdec := dec_of (c :: r) (by simp) g1 (by
          by_cases h48 : c = 48
          · right
            have : r = [] := by
              cases r with
              | nil => rfl
              | cons a b => exact absurd ⟨h48, by simp⟩ hz
            rw [this]; rfl
          · left; simpa using h48)
        rw [g2] at hdec
        refine ⟨by unfold inI; omega, ?_⟩
        unfold itoa
        rw [if_neg (by omega), Int.toNat_natCast, hdec]

theorem atoi_bounds {l : List UInt8} {v : Int} (h : atoiAll l = .ok v) : inI v := by
  unfold atoiAll at h
  split at h
  · cases h
  · dsimp only at h
    split at h
    · cases h
    · cases h
    · split at h
      · cases h
      · split at h
        · cases h
        · rename_i h1 h2
          simp only [NumEnd.ok.injEq] at h
          unfold inI
          split at h <;> omega

/-- What the program does: Atoi, and back. -/
theorem parse_atoi (s : List UInt8) : parse s = match atoiAll s with | .ok v => if itoa v = s then some v else none | _ => none := by
  cases hp : parse s with
  | some n =>
    obtain ⟨h1, h2⟩ := parse_back s n hp
    unfold inI at h1
    rw [h2, atoi_itoa n h1.1 h1.2]
    simp
  | none =>
    rcases ha : atoiAll s with v | _ | _
    · simp only
      rw [if_neg]
      intro he
      have := parse_itoa v (atoi_bounds ha)
      rw [he, hp] at this
      cases this
    · rfl
    · rfl
end Go.Proofs.YtmmaolhmhdjldaaDoor.NT
