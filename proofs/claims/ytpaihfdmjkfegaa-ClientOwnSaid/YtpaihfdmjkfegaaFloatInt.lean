/- The floats of 64 bits that are whole numbers: reading, sums, products and comparisons are exact. -/
import Ieee.Arith
namespace Go.Proofs.Ytpaihfdmjkfegaa.FI
open Ieee

theorem cut_zero_drop (w : Toward) (neg : Bool) (n : Nat) : w.cut neg n 0 = n := by
  unfold Toward.cut
  have h1 : (1 <<< min 0 (n.log2 + 2) : Nat) = 1 := by simp
  simp only [h1, Nat.div_one, Nat.mod_one]
  cases w <;> simp

theorem log2_double {n : Nat} (h : n ≠ 0) : (2 * n).log2 = n.log2 + 1 := by
  rw [Nat.log2_eq_iff (by omega)]
  have h1 := Nat.log2_self_le h
  have h2 := Nat.lt_log2_self (n := n)
  rw [Nat.pow_succ, Nat.pow_succ]
  constructor
  · omega
  · rw [Nat.pow_succ] at h2; omega

theorem cut_double (neg : Bool) {n : Nat} (h : n ≠ 0) (d : Nat) : Toward.even.cut neg (2 * n) (d + 1) = Toward.even.cut neg n d := by
  unfold Toward.cut
  have hg : (1 <<< min (d + 1) ((2 * n).log2 + 2) : Nat) = 2 * (1 <<< min d (n.log2 + 2)) := by
    rw [log2_double h, show min (d + 1) (n.log2 + 1 + 2) = min d (n.log2 + 2) + 1 from by omega]
    rw [Nat.shiftLeft_eq, Nat.shiftLeft_eq, Nat.pow_succ]; omega
  have hp : 0 < (1 <<< min d (n.log2 + 2) : Nat) := by rw [Nat.shiftLeft_eq]; have := Nat.two_pow_pos (min d (n.log2 + 2)); omega
  simp only [hg]
  generalize (1 <<< min d (n.log2 + 2) : Nat) = g at hp
  have e1 : 2 * n / (2 * g) = n / g := Nat.mul_div_mul_left n g (by omega)
  have e2 : 2 * n % (2 * g) = 2 * (n % g) := Nat.mul_mod_mul_left 2 n g
  simp only [e1, e2]
  have e3 : decide (2 * g < 2 * (2 * (n % g))) = decide (g < 2 * (n % g)) := by
    rw [Bool.eq_iff_iff]; simp only [decide_eq_true_eq]; omega
  have e4 : ((2 * g : Nat) == 2 * (2 * (n % g))) = (g == 2 * (n % g)) := by
    rw [Bool.eq_iff_iff]; simp only [beq_iff_eq]; omega
  simp only [e3, e4]

theorem nearest_double (f : Format) (neg : Bool) {m : Nat} (h : m ≠ 0) (p : Int) : f.nearest neg (2 * m) (p - 1) = f.nearest neg m p := by
  unfold Format.nearest
  rw [if_neg (by omega), if_neg h]
  have hl : max (p - 1 + ((2 * m).log2 : Nat) - f.fractionBits) f.leastPlace = max (p + (m.log2 : Nat) - f.fractionBits) f.leastPlace := by
    rw [log2_double h]; congr 1; omega
  simp only [hl]
  generalize max (p + (m.log2 : Nat) - f.fractionBits) f.leastPlace = L
  have hk : Toward.even.cut neg ((2 * m) <<< (p - 1 - L).toNat) (L - (p - 1)).toNat = Toward.even.cut neg (m <<< (p - L).toNat) (L - p).toNat := by
    by_cases hp : p ≤ L
    · rw [show (p - 1 - L).toNat = 0 from by omega, show (p - L).toNat = 0 from by omega, show (L - (p - 1)).toNat = (L - p).toNat + 1 from by omega]
      simp only [Nat.shiftLeft_zero]
      exact cut_double neg h _
    · rw [show (L - (p - 1)).toNat = 0 from by omega, show (L - p).toNat = 0 from by omega, cut_zero_drop, cut_zero_drop, show (p - L).toNat = (p - 1 - L).toNat + 1 from by omega, Nat.shiftLeft_eq, Nat.shiftLeft_eq, Nat.pow_succ]
      rw [Nat.mul_comm 2 m, Nat.mul_assoc, Nat.mul_comm 2]
  rw [hk]

theorem nearest_shift (f : Format) (neg : Bool) {m : Nat} (h : m ≠ 0) (t : Nat) (p : Int) : f.nearest neg (m * 2 ^ t) (p - t) = f.nearest neg m p := by
  induction t with
  | zero => simp
  | succ t ih =>
    rw [← ih, ← nearest_double f neg (m := m * 2 ^ t) (by have := Nat.two_pow_pos t; exact Nat.mul_ne_zero h (by omega)) (p - t)]
    congr 1
    · rw [Nat.pow_succ, Nat.mul_comm 2, Nat.mul_assoc]
    · omega

/-- 'mag * 2 ^ place' is the whole number 'n': the nearest word is n's own. -/
theorem nearest_whole (f : Format) (neg : Bool) {m n : Nat} {p : Int} (hp : p ≤ 0) (h : m = n * 2 ^ (-p).toNat) (hn : n ≠ 0) : f.nearest neg m p = f.nearest neg n 0 := by
  subst h
  have := nearest_shift f neg hn (-p).toNat 0
  rw [show (0 : Int) - ((-p).toNat : Nat) = p from by omega] at this
  exact this

theorem nearest_zero (f : Format) (neg : Bool) (p : Int) : f.nearest neg 0 p = f.word neg 0 := by unfold Format.nearest; rw [if_pos rfl]

/-- The word of a whole number. -/
def F (k : Int) : Nat := double.nearest (decide (k < 0)) k.natAbs 0

/-- A zero with a sign. -/
def Z : Nat := 9223372036854775808

/-- A word that stands for a whole number. -/
def Rep (b : Nat) (k : Int) : Prop := b = F k ∨ (k = 0 ∧ b = Z)

theorem F_rep (k : Int) : Rep (F k) k := Or.inl rfl
theorem Z_rep : Rep Z 0 := Or.inr ⟨rfl, rfl⟩

def sh (n : Nat) : Nat := 52 - n.log2

theorem sh_bounds {n : Nat} (h0 : n ≠ 0) (h : n < 9007199254740992) : n.log2 ≤ 52 ∧ 4503599627370496 ≤ n * 2 ^ sh n ∧ n * 2 ^ sh n < 9007199254740992 := by
  have h1 : n.log2 < 53 := (Nat.log2_lt h0).2 h
  have h2 := Nat.log2_self_le h0
  have h3 := Nat.lt_log2_self (n := n)
  have e : 2 ^ n.log2 * 2 ^ sh n = 4503599627370496 := by
    rw [← Nat.pow_add]; unfold sh; rw [show n.log2 + (52 - n.log2) = 52 from by omega]
  have hp : 0 < 2 ^ sh n := Nat.two_pow_pos _
  refine ⟨by omega, ?_, ?_⟩
  · rw [← e]; exact Nat.mul_le_mul_right _ h2
  · have := Nat.mul_lt_mul_of_pos_right h3 hp
    rw [Nat.pow_succ, Nat.mul_assoc, Nat.mul_comm 2, ← Nat.mul_assoc, e] at this
    omega

theorem rung_any (B l x R : Nat) (hB : 0 < B) (h1 : B ≤ x) (h2 : x < 2 * B) (hR : (l + 1022) * B + x = R) : R / B = l + 1023 ∧ B + R % B = x := by
  obtain ⟨y, rfl⟩ : ∃ y, x = B + y := ⟨x - B, by omega⟩
  have hy : y < B := by omega
  have e : R = y + B * (l + 1023) := by rw [← hR, Nat.mul_add, Nat.add_mul, Nat.mul_comm l B]; omega
  rw [e, Nat.add_mul_div_left _ _ hB, Nat.add_mul_mod_self_left, Nat.div_eq_of_lt hy, Nat.mod_eq_of_lt hy]
  exact ⟨by omega, rfl⟩

theorem rung_parts (l x R : Nat) (h1 : 4503599627370496 ≤ x) (h2 : x < 9007199254740992) (hR : (l + 1022) * 4503599627370496 + x = R) : R / 4503599627370496 = l + 1023 ∧ 4503599627370496 + R % 4503599627370496 = x :=
  rung_any _ l x R (by decide) h1 h2 hR

theorem word_parts (neg : Bool) (R : Nat) (h : R < 9223372036854775808) : ((if neg then 9223372036854775808 + R else R) / 9223372036854775808 % 2 == 1) = neg ∧ (if neg then 9223372036854775808 + R else R) % 9223372036854775808 = R := by
  cases neg
  · simp only [Bool.false_eq_true, if_false]
    exact ⟨by rw [show R / 9223372036854775808 = 0 from by omega]; rfl, by omega⟩
  · simp only [if_true]
    exact ⟨by rw [show (9223372036854775808 + R) / 9223372036854775808 = 1 from by omega]; rfl, by omega⟩

theorem read_nearest {n : Nat} (neg : Bool) (h0 : n ≠ 0) (h : n < 9007199254740992) : double.read (double.nearest neg n 0) = .number neg (n * 2 ^ sh n) (-(sh n : Int)) := by
  obtain ⟨hl, hb1, hb2⟩ := sh_bounds h0 h
  have hlp : double.leastPlace = -1074 := by decide
  have hbin : double.binade = 4503599627370496 := by decide
  have hinf : double.infRung = 9218868437227405312 := by decide
  have hsw : double.signWeight = 9223372036854775808 := by decide
  have hfb : double.fractionBits = 52 := rfl
  have hlast : max ((0 : Int) + (n.log2 : Nat) - (double.fractionBits : Nat)) double.leastPlace = (n.log2 : Int) - 52 := by rw [hlp, hfb]; omega
  have hn : double.nearest neg n 0 = double.word neg ((n.log2 + 1022) * 4503599627370496 + n * 2 ^ sh n) := by
    unfold Format.nearest
    rw [if_neg h0]
    simp only [hlast]
    rw [hlp, hbin, hinf, show ((0 : Int) - ((n.log2 : Int) - 52)).toNat = sh n from by unfold sh; omega, show ((n.log2 : Int) - 52 - 0).toNat = 0 from by omega, cut_zero_drop, Nat.shiftLeft_eq,
      show ((n.log2 : Int) - 52 - -1074).toNat = n.log2 + 1022 from by omega, Nat.min_eq_left (by omega)]
  rw [hn]
  unfold Format.read Format.word
  rw [hsw, hbin, hinf, hlp]
  have hr1 : (n.log2 + 1022) * 4503599627370496 + n * 2 ^ sh n < 9223372036854775808 := by omega
  have hr2 : (n.log2 + 1022) * 4503599627370496 + n * 2 ^ sh n < 9218868437227405312 := by omega
  have hr3 : ¬ (n.log2 + 1022) * 4503599627370496 + n * 2 ^ sh n < 4503599627370496 := by omega
  obtain ⟨R, hR⟩ : ∃ R, (n.log2 + 1022) * 4503599627370496 + n * 2 ^ sh n = R := ⟨_, rfl⟩
  obtain ⟨e1, e2⟩ := rung_parts _ _ R hb1 hb2 hR
  rw [hR] at hr1 hr2 hr3 ⊢
  obtain ⟨hneg, hrung⟩ := word_parts neg R hr1
  dsimp only
  rw [hneg, hrung, if_neg hr3, if_pos hr2, e1, e2]
  have e3 : (-1074 : Int) + ((n.log2 + 1023 - 1 : Nat) : Int) = -(sh n : Int) := by unfold sh; omega
  rw [e3]

theorem zero_pow (t : Nat) : (0 : Nat) = (0 : Int).natAbs * 2 ^ t := (Nat.zero_mul _).symm

theorem read_F {k : Int} (h0 : k ≠ 0) (h : k.natAbs < 9007199254740992) : double.read (F k) = .number (decide (k < 0)) (k.natAbs * 2 ^ sh k.natAbs) (-(sh k.natAbs : Int)) :=
  read_nearest _ (by omega) h

theorem F_zero : F 0 = 0 := by decide
/-- The least place, negated. -/
def lp : Nat := 1074

theorem read_F0 : double.read (F 0) = .number false 0 (-(lp : Int)) := by decide
theorem read_Z : double.read Z = .number true 0 (-(lp : Int)) := by decide

/-- What a word of a whole number reads as. -/
theorem read_rep {b : Nat} {k : Int} (hb : Rep b k) (h : k.natAbs < 9007199254740992) : ∃ (neg : Bool) (m : Nat) (t : Nat), double.read b = .number neg m (-(t : Int)) ∧ m = k.natAbs * 2 ^ t ∧ (k ≠ 0 → neg = decide (k < 0)) ∧ t ≤ lp := by
  by_cases h0 : k = 0
  · subst h0
    rcases hb with rfl | ⟨_, rfl⟩
    · exact ⟨false, 0, lp, read_F0, zero_pow _, fun h => absurd rfl h, Nat.le_refl _⟩
    · exact ⟨true, 0, lp, read_Z, zero_pow _, fun h => absurd rfl h, Nat.le_refl _⟩
  · rcases hb with rfl | ⟨h1, _⟩
    · exact ⟨_, _, sh k.natAbs, read_F h0 h, rfl, fun _ => rfl, by unfold sh lp; omega⟩
    · exact absurd h1 h0

theorem signed_eq (neg : Bool) (m u : Nat) : signed neg m u = (if neg then -1 else 1) * ((m : Int) * 2 ^ u) := by
  unfold signed
  rw [Nat.shiftLeft_eq]
  cases neg <;> simp [Int.natCast_mul, Int.natCast_pow]

theorem signed_rep {k : Int} {neg : Bool} {t u : Nat} (hn : k ≠ 0 → neg = decide (k < 0)) : signed neg (k.natAbs * 2 ^ t) u = k * 2 ^ (t + u) := by
  rw [signed_eq, Int.pow_add]
  by_cases h0 : k = 0
  · subst h0; simp
  · rw [hn h0]
    simp only [Int.natCast_mul, Int.natCast_pow, decide_eq_true_eq]
    by_cases hk : k < 0
    · rw [if_pos hk, show ((k.natAbs : Nat) : Int) = -k from by omega]
      simp only [Int.neg_mul, Int.mul_neg, Int.neg_neg, Int.one_mul, Int.mul_assoc]; rfl
    · rw [if_neg hk, show ((k.natAbs : Nat) : Int) = k from by omega]
      simp only [Int.one_mul, Int.mul_assoc]; rfl

theorem order_rep {a b : Nat} {j k : Int} (ha : Rep a j) (hb : Rep b k) (h1 : j.natAbs < 9007199254740992) (h2 : k.natAbs < 9007199254740992) : double.order a b = some (compare j k) := by
  obtain ⟨n1, m1, t1, r1, rfl, s1, _⟩ := read_rep ha h1
  obtain ⟨n2, m2, t2, r2, rfl, s2, _⟩ := read_rep hb h2
  unfold Format.order
  rw [r1, r2]
  unfold Datum.order
  simp only [Option.some.injEq]
  rw [signed_rep s1, signed_rep s2]
  rw [show t1 + (-(t1 : Int) - min (-(t1 : Int)) (-(t2 : Int))).toNat = max t1 t2 from by omega, show t2 + (-(t2 : Int) - min (-(t1 : Int)) (-(t2 : Int))).toNat = max t1 t2 from by omega]
  have hp : (0 : Int) < 2 ^ max t1 t2 := Int.pow_pos (by omega)
  generalize (2 : Int) ^ max t1 t2 = p at hp
  simp only [compare, compareOfLessAndEq]
  have e1 : (j * p < k * p) ↔ j < k := Int.mul_lt_mul_right hp
  have e2 : (j * p = k * p) ↔ j = k := ⟨fun h => Int.eq_of_mul_eq_mul_right (by omega) h, fun h => by rw [h]⟩
  simp only [e1, e2]

theorem nearest_rep (neg : Bool) {m : Nat} {k : Int} {t : Nat} (hm : m = k.natAbs * 2 ^ t) (hn : k ≠ 0 → neg = decide (k < 0)) : Rep (double.nearest neg m (-(t : Int))) k := by
  by_cases h0 : k = 0
  · subst h0
    subst hm
    simp only [Int.natAbs_zero, Nat.zero_mul]
    rw [nearest_zero]
    cases neg
    · exact Or.inl (by decide)
    · exact Or.inr ⟨rfl, by decide⟩
  · left
    rw [nearest_whole double neg (n := k.natAbs) (by omega) (by rw [hm]; congr 2; omega) (by omega), hn h0]
    rfl

theorem mul_rep {a b : Nat} {j k : Int} (ha : Rep a j) (hb : Rep b k) (h1 : j.natAbs < 9007199254740992) (h2 : k.natAbs < 9007199254740992) : ∃ r, double.mul a b = some r ∧ Rep r (j * k) := by
  obtain ⟨n1, m1, t1, r1, rfl, s1, _⟩ := read_rep ha h1
  obtain ⟨n2, m2, t2, r2, rfl, s2, _⟩ := read_rep hb h2
  unfold Format.mul
  rw [r1, r2]
  refine ⟨_, rfl, ?_⟩
  simp only [Format.write]
  rw [show (-(t1 : Int) + -(t2 : Int)) = -((t1 + t2 : Nat) : Int) from by omega]
  refine nearest_rep _ ?_ ?_
  · rw [Int.natAbs_mul, Nat.pow_add]
    simp only [Nat.mul_assoc, Nat.mul_left_comm]
  · intro h
    have hj : j ≠ 0 := fun e => h (by rw [e]; simp)
    have hk : k ≠ 0 := fun e => h (by rw [e]; simp)
    rw [s1 hj, s2 hk]
    rcases Int.lt_trichotomy j 0 with h3 | h3 | h3
    · rcases Int.lt_trichotomy k 0 with h4 | h4 | h4
      · have h5 := Int.mul_pos_of_neg_of_neg h3 h4
        rw [decide_eq_true h3, decide_eq_true h4, decide_eq_false (by omega)]; rfl
      · exact absurd h4 hk
      · have h5 := Int.mul_neg_of_neg_of_pos h3 h4
        rw [decide_eq_true h3, decide_eq_false (by omega), decide_eq_true h5]; rfl
    · exact absurd h3 hj
    · rcases Int.lt_trichotomy k 0 with h4 | h4 | h4
      · have h5 := Int.mul_neg_of_pos_of_neg h3 h4
        rw [decide_eq_false (by omega), decide_eq_true h4, decide_eq_true h5]; rfl
      · exact absurd h4 hk
      · have h5 := Int.mul_pos h3 h4
        rw [decide_eq_false (by omega), decide_eq_false (by omega), decide_eq_false (by omega)]; rfl

theorem sum_data {j k : Int} {n1 n2 : Bool} {t1 t2 : Nat} (s1 : j ≠ 0 → n1 = decide (j < 0)) (s2 : k ≠ 0 → n2 = decide (k < 0)) :
    ∃ d, Datum.sum (.number n1 (j.natAbs * 2 ^ t1) (-(t1 : Int))) (.number n2 (k.natAbs * 2 ^ t2) (-(t2 : Int))) = some d ∧ Rep (double.write d) (j + k) := by
  refine ⟨_, rfl, ?_⟩
  simp only [Format.write]
  rw [show min (-(t1 : Int)) (-(t2 : Int)) = -((max t1 t2 : Nat) : Int) from by omega]
  rw [signed_rep s1, signed_rep s2]
  rw [show t1 + (-(t1 : Int) - -((max t1 t2 : Nat) : Int)).toNat = max t1 t2 from by omega, show t2 + (-(t2 : Int) - -((max t1 t2 : Nat) : Int)).toNat = max t1 t2 from by omega]
  rw [← Int.add_mul]
  have hp : (0 : Int) < 2 ^ max t1 t2 := Int.pow_pos (by omega)
  refine nearest_rep _ ?_ ?_
  · rw [Int.natAbs_mul, Int.natAbs_pow]; rfl
  · intro h
    rw [if_neg (fun e => by rcases Int.mul_eq_zero.1 e with e | e <;> omega)]
    rw [decide_eq_decide]
    constructor
    · intro hneg
      by_cases h3 : j + k < 0
      · exact h3
      · have := Int.mul_nonneg (a := j + k) (b := 2 ^ max t1 t2) (by omega) (by omega); omega
    · intro h3
      exact Int.mul_neg_of_neg_of_pos h3 hp

theorem add_rep {a b : Nat} {j k : Int} (ha : Rep a j) (hb : Rep b k) (h1 : j.natAbs < 9007199254740992) (h2 : k.natAbs < 9007199254740992) : ∃ r, double.add a b = some r ∧ Rep r (j + k) := by
  obtain ⟨n1, m1, t1, r1, rfl, s1, _⟩ := read_rep ha h1
  obtain ⟨n2, m2, t2, r2, rfl, s2, _⟩ := read_rep hb h2
  unfold Format.add
  rw [r1, r2]
  obtain ⟨d, hd, hr⟩ := sum_data (t1 := t1) (t2 := t2) s1 s2
  rw [hd]
  exact ⟨_, rfl, hr⟩

theorem sub_rep {a b : Nat} {j k : Int} (ha : Rep a j) (hb : Rep b k) (h1 : j.natAbs < 9007199254740992) (h2 : k.natAbs < 9007199254740992) : ∃ r, double.sub a b = some r ∧ Rep r (j - k) := by
  obtain ⟨n1, m1, t1, r1, rfl, s1, _⟩ := read_rep ha h1
  obtain ⟨n2, m2, t2, r2, rfl, s2, _⟩ := read_rep hb h2
  unfold Format.sub
  rw [r1, r2]
  have s3 : -k ≠ 0 → (!n2) = decide (-k < 0) := by
    intro h
    rw [s2 (by omega), ← decide_not, decide_eq_decide]; omega
  obtain ⟨d, hd, hr⟩ := sum_data (j := j) (k := -k) (t1 := t1) (t2 := t2) s1 s3
  rw [Int.natAbs_neg] at hd
  show ∃ r, Option.map double.write (Datum.sum _ (.number (!n2) (k.natAbs * 2 ^ t2) (-(t2 : Int)))) = some r ∧ _
  rw [hd]
  exact ⟨_, rfl, hr⟩

/-! Any float beside a whole number. -/

/-- A finite float's value, in units of the least place. -/
def V (neg : Bool) (m : Nat) (e : Int) : Int := signed neg m (e + lp).toNat

theorem two_pos (n : Nat) : (0 : Int) < 2 ^ n := Int.pow_pos (by omega)

theorem cmp_scale (a b : Int) {p : Int} (hp : 0 < p) : compare (a * p) (b * p) = compare a b := by
  simp only [compare, compareOfLessAndEq]
  have e1 : (a * p < b * p) ↔ a < b := Int.mul_lt_mul_right hp
  have e2 : (a * p = b * p) ↔ a = b := ⟨fun h => Int.eq_of_mul_eq_mul_right (by omega) h, fun h => by rw [h]⟩
  simp only [e1, e2]

theorem signed_scale (neg : Bool) (m u q : Nat) : signed neg m u * 2 ^ q = signed neg m (u + q) := by
  rw [signed_eq, signed_eq, Int.pow_add]
  simp only [Int.mul_assoc]

theorem read_place {b : Nat} {neg : Bool} {m : Nat} {e : Int} (h : double.read b = .number neg m e) : -(lp : Int) ≤ e := by
  have hlp : double.leastPlace = -(lp : Int) := by decide
  unfold Format.read at h
  dsimp only at h
  rw [hlp] at h
  split at h
  · cases h; omega
  · split at h
    · cases h; omega
    · split at h <;> cases h

theorem order_val {a b : Nat} {n1 n2 : Bool} {m1 m2 : Nat} {e1 e2 : Int} (h1 : double.read a = .number n1 m1 e1) (h2 : double.read b = .number n2 m2 e2) : double.order a b = some (compare (V n1 m1 e1) (V n2 m2 e2)) := by
  have p1 := read_place h1
  have p2 := read_place h2
  unfold Format.order
  rw [h1, h2]
  unfold Datum.order
  simp only [Option.some.injEq]
  rw [← cmp_scale _ _ (two_pos (min e1 e2 + lp).toNat), signed_scale, signed_scale]
  unfold V
  rw [show (e1 - min e1 e2).toNat + (min e1 e2 + lp).toNat = (e1 + lp).toNat from by omega, show (e2 - min e1 e2).toNat + (min e1 e2 + lp).toNat = (e2 + lp).toNat from by omega]

theorem V_rep {b : Nat} {k : Int} (hb : Rep b k) (h : k.natAbs < 9007199254740992) : ∃ n m e, double.read b = .number n m e ∧ V n m e = k * 2 ^ lp := by
  obtain ⟨n, m, t, r, rfl, s, ht⟩ := read_rep hb h
  refine ⟨_, _, _, r, ?_⟩
  unfold V
  rw [signed_rep s]
  congr 2
  omega

theorem signed_abs (neg : Bool) (m u : Nat) : (signed neg m u).natAbs = m * 2 ^ u := by
  unfold signed; rw [Nat.shiftLeft_eq]; cases neg <;> simp [Int.natAbs_mul, Int.natAbs_pow]

theorem cut_trunc_le (neg : Bool) (n d K : Nat) (h : n ≤ K * 2 ^ d) : Toward.zero.cut neg n d ≤ K := by
  unfold Toward.cut
  simp only [Bool.toNat_false, Nat.add_zero]
  rw [Nat.shiftLeft_eq, Nat.one_mul]
  by_cases hd : d ≤ n.log2 + 2
  · rw [Nat.min_eq_left hd]
    exact Nat.div_le_of_le_mul (by rw [Nat.mul_comm]; exact h)
  · rw [Nat.min_eq_right (by omega), Nat.div_eq_of_lt]
    · omega
    · have := Nat.lt_log2_self (n := n)
      exact Nat.lt_of_lt_of_le this (Nat.pow_le_pow_right (by omega) (by omega))

/-- Cut towards zero, a float is no greater than the whole bound that it is not greater than. -/
theorem trunc_le {b : Nat} {neg : Bool} {m : Nat} {e : Int} (h : double.read b = .number neg m e) {K : Nat} (hK : (V neg m e).natAbs ≤ K * 2 ^ lp) : ∃ n, (double.read b).toInt .zero = some n ∧ n.natAbs ≤ K := by
  have hp := read_place h
  rw [h]
  refine ⟨_, rfl, ?_⟩
  rw [signed_abs, Nat.pow_zero, Nat.mul_one]
  apply cut_trunc_le
  unfold V at hK
  rw [signed_abs] at hK
  rw [Nat.shiftLeft_eq]
  have hq : 0 < 2 ^ (lp - (-e).toNat) := Nat.two_pow_pos _
  apply Nat.le_of_mul_le_mul_right _ hq
  rw [Nat.mul_assoc, ← Nat.pow_add, Nat.mul_assoc, ← Nat.pow_add, show (-e).toNat + (lp - (-e).toNat) = lp from by omega, show e.toNat + (lp - (-e).toNat) = (e + lp).toNat from by omega]
  exact hK

/-- The three kinds of words. -/
theorem read_kinds (b : Nat) : (∃ s t, double.read b = .nan s t) ∨ (∃ s, double.read b = .infinity s) ∨ (∃ s m e, double.read b = .number s m e) := by
  cases h : double.read b with
  | number s m e => exact Or.inr (Or.inr ⟨s, m, e, rfl⟩)
  | infinity s => exact Or.inr (Or.inl ⟨s, rfl⟩)
  | nan s t => exact Or.inl ⟨s, t, rfl⟩
end Go.Proofs.Ytpaihfdmjkfegaa.FI
