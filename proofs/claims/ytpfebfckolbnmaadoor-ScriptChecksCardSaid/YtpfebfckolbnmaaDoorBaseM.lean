/- The floats of 64 bits that are whole numbers: reading, sums, products and comparisons are exact. -/
import Ieee.Arith
import Derived.Test.YtpfebfckolbnmaaDoorProg
import Derived.WalkKit
import Derived.WalkSpells
import Derived.WalkLawsBesides
import Derived.Lib.Hide
import Derived.Deep.QuietTactic
import Derived.BigQuiet
import Derived.Laws.BitsLemmas
import Derived.Below
import Derived.Laws.OwnMore
import Derived.Deep.AppendLies
import Derived.Deep.Draws
import Derived.Maps.AppendAt
import Derived.RegionTactic
import Derived.OwnWalk
import Derived.Deep.RegionHeld3
import Derived.Deep.Cut
import Derived.Deep.CutRange
import Derived.Deep.LoopGhost
import Derived.Deep.OwnRows
import Derived.Laws.Cover1
import Derived.Lib.SliceRun
import Derived.Sort.BigQuietIn
/- The floats of 64 bits that are whole numbers: reading, sums, products and comparisons are exact. -/
namespace Go.Proofs.YtpfebfckolbnmaaDoor.FI
open Ieee

theorem cut_zero_drop (w : Toward) (neg : Bool) (n : Nat) : w.cut neg n 0 = n := by
  unfold Toward.cut
  have h1 : (1 <<< min 0 (n.log2 + 2) : Nat) = 1 := by simp
  simp only [h1, Nat.div_one, Nat.mod_one]
  cases w <;> simp

theorem log2_double {n : Nat} (h : n ≠ 0) : (2 * n).log2 = n.log2 + 1 := by
  rw [Nat.log2_eq_iff (by omega)]
  have h1 := Nat.log2_self_le h
  have h2 := Nat.lt_log2_self (n := n)
  rw [Nat.pow_succ, Nat.pow_succ]
  constructor
  · omega
  · rw [Nat.pow_succ] at h2; omega

theorem cut_double (neg : Bool) {n : Nat} (h : n ≠ 0) (d : Nat) : Toward.even.cut neg (2 * n) (d + 1) = Toward.even.cut neg n d := by
  unfold Toward.cut
  have hg : (1 <<< min (d + 1) ((2 * n).log2 + 2) : Nat) = 2 * (1 <<< min d (n.log2 + 2)) := by
    rw [log2_double h, show min (d + 1) (n.log2 + 1 + 2) = min d (n.log2 + 2) + 1 from by omega]
    rw [Nat.shiftLeft_eq, Nat.shiftLeft_eq, Nat.pow_succ]; omega
  have hp : 0 < (1 <<< min d (n.log2 + 2) : Nat) := by rw [Nat.shiftLeft_eq]; have := Nat.two_pow_pos (min d (n.log2 + 2)); omega
  simp only [hg]
  generalize (1 <<< min d (n.log2 + 2) : Nat) = g at hp
  have e1 : 2 * n / (2 * g) = n / g := Nat.mul_div_mul_left n g (by omega)
  have e2 : 2 * n % (2 * g) = 2 * (n % g) := Nat.mul_mod_mul_left 2 n g
  simp only [e1, e2]
  have e3 : decide (2 * g < 2 * (2 * (n % g))) = decide (g < 2 * (n % g)) := by
    rw [Bool.eq_iff_iff]; simp only [decide_eq_true_eq]; omega
  have e4 : ((2 * g : Nat) == 2 * (2 * (n % g))) = (g == 2 * (n % g)) := by
    rw [Bool.eq_iff_iff]; simp only [beq_iff_eq]; omega
  simp only [e3, e4]

theorem nearest_double (f : Format) (neg : Bool) {m : Nat} (h : m ≠ 0) (p : Int) : f.nearest neg (2 * m) (p - 1) = f.nearest neg m p := by
  unfold Format.nearest
  rw [if_neg (by omega), if_neg h]
  have hl : max (p - 1 + ((2 * m).log2 : Nat) - f.fractionBits) f.leastPlace = max (p + (m.log2 : Nat) - f.fractionBits) f.leastPlace := by
    rw [log2_double h]; congr 1; omega
  simp only [hl]
  generalize max (p + (m.log2 : Nat) - f.fractionBits) f.leastPlace = L
  have hk : Toward.even.cut neg ((2 * m) <<< (p - 1 - L).toNat) (L - (p - 1)).toNat = Toward.even.cut neg (m <<< (p - L).toNat) (L - p).toNat := by
    by_cases hp : p ≤ L
    · rw [show (p - 1 - L).toNat = 0 from by omega, show (p - L).toNat = 0 from by omega, show (L - (p - 1)).toNat = (L - p).toNat + 1 from by omega]
      simp only [Nat.shiftLeft_zero]
      exact cut_double neg h _
    · rw [show (L - (p - 1)).toNat = 0 from by omega, show (L - p).toNat = 0 from by omega, cut_zero_drop, cut_zero_drop, show (p - L).toNat = (p - 1 - L).toNat + 1 from by omega, Nat.shiftLeft_eq, Nat.shiftLeft_eq, Nat.pow_succ]
      rw [Nat.mul_comm 2 m, Nat.mul_assoc, Nat.mul_comm 2]
  rw [hk]

theorem nearest_shift (f : Format) (neg : Bool) {m : Nat} (h : m ≠ 0) (t : Nat) (p : Int) : f.nearest neg (m * 2 ^ t) (p - t) = f.nearest neg m p := by
  induction t with
  | zero => simp
  | succ t ih =>
    rw [← ih, ← nearest_double f neg (m := m * 2 ^ t) (by have := Nat.two_pow_pos t; exact Nat.mul_ne_zero h (by omega)) (p - t)]
    congr 1
    · rw [Nat.pow_succ, Nat.mul_comm 2, Nat.mul_assoc]
    · omega

/-- 'mag * 2 ^ place' is the whole number 'n': the nearest word is n's own. -/
theorem nearest_whole (f : Format) (neg : Bool) {m n : Nat} {p : Int} (hp : p ≤ 0) (h : m = n * 2 ^ (-p).toNat) (hn : n ≠ 0) : f.nearest neg m p = f.nearest neg n 0 := by
  subst h
  have := nearest_shift f neg hn (-p).toNat 0
  rw [show (0 : Int) - ((-p).toNat : Nat) = p from by omega] at this
  exact this

theorem nearest_zero (f : Format) (neg : Bool) (p : Int) : f.nearest neg 0 p = f.word neg 0 := by unfold Format.nearest; rw [if_pos rfl]

/-- The word of a whole number. -/
def F (k : Int) : Nat := double.nearest (decide (k < 0)) k.natAbs 0

/-- A zero with a sign. -/
def Z : Nat := 9223372036854775808

/-- A word that stands for a whole number. -/
def Rep (b : Nat) (k : Int) : Prop := b = F k ∨ (k = 0 ∧ b = Z)

theorem F_rep (k : Int) : Rep (F k) k := Or.inl rfl
theorem Z_rep : Rep Z 0 := Or.inr ⟨rfl, rfl⟩

def sh (n : Nat) : Nat := 52 - n.log2

theorem sh_bounds {n : Nat} (h0 : n ≠ 0) (h : n < 9007199254740992) : n.log2 ≤ 52 ∧ 4503599627370496 ≤ n * 2 ^ sh n ∧ n * 2 ^ sh n < 9007199254740992 := by
  have h1 : n.log2 < 53 := (Nat.log2_lt h0).2 h
  have h2 := Nat.log2_self_le h0
  have h3 := Nat.lt_log2_self (n := n)
  have e : 2 ^ n.log2 * 2 ^ sh n = 4503599627370496 := by
    rw [← Nat.pow_add]; unfold sh; rw [show n.log2 + (52 - n.log2) = 52 from by omega]
  have hp : 0 < 2 ^ sh n := Nat.two_pow_pos _
  refine ⟨by omega, ?_, ?_⟩
  · rw [← e]; exact Nat.mul_le_mul_right _ h2
  · have := Nat.mul_lt_mul_of_pos_right h3 hp
    rw [Nat.pow_succ, Nat.mul_assoc, Nat.mul_comm 2, ← Nat.mul_assoc, e] at this
    omega

theorem rung_any (B l x R : Nat) (hB : 0 < B) (h1 : B ≤ x) (h2 : x < 2 * B) (hR : (l + 1022) * B + x = R) : R / B = l + 1023 ∧ B + R % B = x := by
  obtain ⟨y, rfl⟩ : ∃ y, x = B + y := ⟨x - B, by omega⟩
  have hy : y < B := by omega
  have e : R = y + B * (l + 1023) := by rw [← hR, Nat.mul_add, Nat.add_mul, Nat.mul_comm l B]; omega
  rw [e, Nat.add_mul_div_left _ _ hB, Nat.add_mul_mod_self_left, Nat.div_eq_of_lt hy, Nat.mod_eq_of_lt hy]
  exact ⟨by omega, rfl⟩

theorem rung_parts (l x R : Nat) (h1 : 4503599627370496 ≤ x) (h2 : x < 9007199254740992) (hR : (l + 1022) * 4503599627370496 + x = R) : R / 4503599627370496 = l + 1023 ∧ 4503599627370496 + R % 4503599627370496 = x :=
  rung_any _ l x R (by decide) h1 h2 hR

theorem word_parts (neg : Bool) (R : Nat) (h : R < 9223372036854775808) : ((if neg then 9223372036854775808 + R else R) / 9223372036854775808 % 2 == 1) = neg ∧ (if neg then 9223372036854775808 + R else R) % 9223372036854775808 = R := by
  cases neg
  · simp only [Bool.false_eq_true, if_false]
    exact ⟨by rw [show R / 9223372036854775808 = 0 from by omega]; rfl, by omega⟩
  · simp only [if_true]
    exact ⟨by rw [show (9223372036854775808 + R) / 9223372036854775808 = 1 from by omega]; rfl, by omega⟩

theorem read_nearest {n : Nat} (neg : Bool) (h0 : n ≠ 0) (h : n < 9007199254740992) : double.read (double.nearest neg n 0) = .number neg (n * 2 ^ sh n) (-(sh n : Int)) := by
  obtain ⟨hl, hb1, hb2⟩ := sh_bounds h0 h
  have hlp : double.leastPlace = -1074 := by decide
  have hbin : double.binade = 4503599627370496 := by decide
  have hinf : double.infRung = 9218868437227405312 := by decide
  have hsw : double.signWeight = 9223372036854775808 := by decide
  have hfb : double.fractionBits = 52 := rfl
  have hlast : max ((0 : Int) + (n.log2 : Nat) - (double.fractionBits : Nat)) double.leastPlace = (n.log2 : Int) - 52 := by rw [hlp, hfb]; omega
  have hn : double.nearest neg n 0 = double.word neg ((n.log2 + 1022) * 4503599627370496 + n * 2 ^ sh n) := by
    unfold Format.nearest
    rw [if_neg h0]
    simp only [hlast]
    rw [hlp, hbin, hinf, show ((0 : Int) - ((n.log2 : Int) - 52)).toNat = sh n from by unfold sh; omega, show ((n.log2 : Int) - 52 - 0).toNat = 0 from by omega, cut_zero_drop, Nat.shiftLeft_eq,
      show ((n.log2 : Int) - 52 - -1074).toNat = n.log2 + 1022 from by omega, Nat.min_eq_left (by omega)]
  rw [hn]
  unfold Format.read Format.word
  rw [hsw, hbin, hinf, hlp]
  have hr1 : (n.log2 + 1022) * 4503599627370496 + n * 2 ^ sh n < 9223372036854775808 := by omega
  have hr2 : (n.log2 + 1022) * 4503599627370496 + n * 2 ^ sh n < 9218868437227405312 := by omega
  have hr3 : ¬ (n.log2 + 1022) * 4503599627370496 + n * 2 ^ sh n < 4503599627370496 := by omega
  obtain ⟨R, hR⟩ : ∃ R, (n.log2 + 1022) * 4503599627370496 + n * 2 ^ sh n = R := ⟨_, rfl⟩
  obtain ⟨e1, e2⟩ := rung_parts _ _ R hb1 hb2 hR
  rw [hR] at hr1 hr2 hr3 ⊢
  obtain ⟨hneg, hrung⟩ := word_parts neg R hr1
  dsimp only
  rw [hneg, hrung, if_neg hr3, if_pos hr2, e1, e2]
  have e3 : (-1074 : Int) + ((n.log2 + 1023 - 1 : Nat) : Int) = -(sh n : Int) := by unfold sh; omega
  rw [e3]

theorem zero_pow (t : Nat) : (0 : Nat) = (0 : Int).natAbs * 2 ^ t := (Nat.zero_mul _).symm

theorem read_F {k : Int} (h0 : k ≠ 0) (h : k.natAbs < 9007199254740992) : double.read (F k) = .number (decide (k < 0)) (k.natAbs * 2 ^ sh k.natAbs) (-(sh k.natAbs : Int)) :=
  read_nearest _ (by omega) h

theorem F_zero : F 0 = 0 := by decide
/-- The least place, negated. -/
def lp : Nat := 1074

theorem read_F0 : double.read (F 0) = .number false 0 (-(lp : Int)) := by decide
theorem read_Z : double.read Z = .number true 0 (-(lp : Int)) := by decide

/-- What a word of a whole number reads as. -/
theorem read_rep {b : Nat} {k : Int} (hb : Rep b k) (h : k.natAbs < 9007199254740992) : ∃ (neg : Bool) (m : Nat) (t : Nat), double.read b = .number neg m (-(t : Int)) ∧ m = k.natAbs * 2 ^ t ∧ (k ≠ 0 → neg = decide (k < 0)) ∧ t ≤ lp := by
  by_cases h0 : k = 0
  · subst h0
    rcases hb with rfl | ⟨_, rfl⟩
    · exact ⟨false, 0, lp, read_F0, zero_pow _, fun h => absurd rfl h, Nat.le_refl _⟩
    · exact ⟨true, 0, lp, read_Z, zero_pow _, fun h => absurd rfl h, Nat.le_refl _⟩
  · rcases hb with rfl | ⟨h1, _⟩
    · exact ⟨_, _, sh k.natAbs, read_F h0 h, rfl, fun _ => rfl, by unfold sh lp; omega⟩
    · exact absurd h1 h0

theorem signed_eq (neg : Bool) (m u : Nat) : signed neg m u = (if neg then -1 else 1) * ((m : Int) * 2 ^ u) := by
  unfold signed
  rw [Nat.shiftLeft_eq]
  cases neg <;> simp [Int.natCast_mul, Int.natCast_pow]

theorem signed_rep {k : Int} {neg : Bool} {t u : Nat} (hn : k ≠ 0 → neg = decide (k < 0)) : signed neg (k.natAbs * 2 ^ t) u = k * 2 ^ (t + u) := by
  rw [signed_eq, Int.pow_add]
  by_cases h0 : k = 0
  · subst h0; simp
  · rw [hn h0]
    simp only [Int.natCast_mul, Int.natCast_pow, decide_eq_true_eq]
    by_cases hk : k < 0
    · rw [if_pos hk, show ((k.natAbs : Nat) : Int) = -k from by omega]
      simp only [Int.neg_mul, Int.mul_neg, Int.neg_neg, Int.one_mul, Int.mul_assoc]; rfl
    · rw [if_neg hk, show ((k.natAbs : Nat) : Int) = k from by omega]
      simp only [Int.one_mul, Int.mul_assoc]; rfl

theorem order_rep {a b : Nat} {j k : Int} (ha : Rep a j) (hb : Rep b k) (h1 : j.natAbs < 9007199254740992) (h2 : k.natAbs < 9007199254740992) : double.order a b = some (compare j k) := by
  obtain ⟨n1, m1, t1, r1, rfl, s1, _⟩ := read_rep ha h1
  obtain ⟨n2, m2, t2, r2, rfl, s2, _⟩ := read_rep hb h2
  unfold Format.order
  rw [r1, r2]
  unfold Datum.order
  simp only [Option.some.injEq]
  rw [signed_rep s1, signed_rep s2]
  rw [show t1 + (-(t1 : Int) - min (-(t1 : Int)) (-(t2 : Int))).toNat = max t1 t2 from by omega, show t2 + (-(t2 : Int) - min (-(t1 : Int)) (-(t2 : Int))).toNat = max t1 t2 from by omega]
  have hp : (0 : Int) < 2 ^ max t1 t2 := Int.pow_pos (by omega)
  generalize (2 : Int) ^ max t1 t2 = p at hp
  simp only [compare, compareOfLessAndEq]
  have e1 : (j * p < k * p) ↔ j < k := Int.mul_lt_mul_right hp
  have e2 : (j * p = k * p) ↔ j = k := ⟨fun h => Int.eq_of_mul_eq_mul_right (by omega) h, fun h => by rw [h]⟩
  simp only [e1, e2]

theorem nearest_rep (neg : Bool) {m : Nat} {k : Int} {t : Nat} (hm : m = k.natAbs * 2 ^ t) (hn : k ≠ 0 → neg = decide (k < 0)) : Rep (double.nearest neg m (-(t : Int))) k := by
  by_cases h0 : k = 0
  · subst h0
    subst hm
    simp only [Int.natAbs_zero, Nat.zero_mul]
    rw [nearest_zero]
    cases neg
    · exact Or.inl (by decide)
    · exact Or.inr ⟨rfl, by decide⟩
  · left
    rw [nearest_whole double neg (n := k.natAbs) (by omega) (by rw [hm]; congr 2; omega) (by omega), hn h0]
    rfl

theorem mul_rep {a b : Nat} {j k : Int} (ha : Rep a j) (hb : Rep b k) (h1 : j.natAbs < 9007199254740992) (h2 : k.natAbs < 9007199254740992) : ∃ r, double.mul a b = some r ∧ Rep r (j * k) := by
  obtain ⟨n1, m1, t1, r1, rfl, s1, _⟩ := read_rep ha h1
  obtain ⟨n2, m2, t2, r2, rfl, s2, _⟩ := read_rep hb h2
  unfold Format.mul
  rw [r1, r2]
  refine ⟨_, rfl, ?_⟩
  simp only [Format.write]
  rw [show (-(t1 : Int) + -(t2 : Int)) = -((t1 + t2 : Nat) : Int) from by omega]
  refine nearest_rep _ ?_ ?_
  · rw [Int.natAbs_mul, Nat.pow_add]
    simp only [Nat.mul_assoc, Nat.mul_left_comm]
  · intro h
    have hj : j ≠ 0 := fun e => h (by rw [e]; simp)
    have hk : k ≠ 0 := fun e => h (by rw [e]; simp)
    rw [s1 hj, s2 hk]
    rcases Int.lt_trichotomy j 0 with h3 | h3 | h3
    · rcases Int.lt_trichotomy k 0 with h4 | h4 | h4
      · have h5 := Int.mul_pos_of_neg_of_neg h3 h4
        rw [decide_eq_true h3, decide_eq_true h4, decide_eq_false (by omega)]; rfl
      · exact absurd h4 hk
      · have h5 := Int.mul_neg_of_neg_of_pos h3 h4
        rw [decide_eq_true h3, decide_eq_false (by omega), decide_eq_true h5]; rfl
    · exact absurd h3 hj
    · rcases Int.lt_trichotomy k 0 with h4 | h4 | h4
      · have h5 := Int.mul_neg_of_pos_of_neg h3 h4
        rw [decide_eq_false (by omega), decide_eq_true h4, decide_eq_true h5]; rfl
      · exact absurd h4 hk
      · have h5 := Int.mul_pos h3 h4
        rw [decide_eq_false (by omega), decide_eq_false (by omega), decide_eq_false (by omega)]; rfl

theorem sum_data {j k : Int} {n1 n2 : Bool} {t1 t2 : Nat} (s1 : j ≠ 0 → n1 = decide (j < 0)) (s2 : k ≠ 0 → n2 = decide (k < 0)) :
    ∃ d, Datum.sum (.number n1 (j.natAbs * 2 ^ t1) (-(t1 : Int))) (.number n2 (k.natAbs * 2 ^ t2) (-(t2 : Int))) = some d ∧ Rep (double.write d) (j + k) := by
  refine ⟨_, rfl, ?_⟩
  simp only [Format.write]
  rw [show min (-(t1 : Int)) (-(t2 : Int)) = -((max t1 t2 : Nat) : Int) from by omega]
  rw [signed_rep s1, signed_rep s2]
  rw [show t1 + (-(t1 : Int) - -((max t1 t2 : Nat) : Int)).toNat = max t1 t2 from by omega, show t2 + (-(t2 : Int) - -((max t1 t2 : Nat) : Int)).toNat = max t1 t2 from by omega]
  rw [← Int.add_mul]
  have hp : (0 : Int) < 2 ^ max t1 t2 := Int.pow_pos (by omega)
  refine nearest_rep _ ?_ ?_
  · rw [Int.natAbs_mul, Int.natAbs_pow]; rfl
  · intro h
    rw [if_neg (fun e => by rcases Int.mul_eq_zero.1 e with e | e <;> omega)]
    rw [decide_eq_decide]
    constructor
    · intro hneg
      by_cases h3 : j + k < 0
      · exact h3
      · have := Int.mul_nonneg (a := j + k) (b := 2 ^ max t1 t2) (by omega) (by omega); omega
    · intro h3
      exact Int.mul_neg_of_neg_of_pos h3 hp

theorem add_rep {a b : Nat} {j k : Int} (ha : Rep a j) (hb : Rep b k) (h1 : j.natAbs < 9007199254740992) (h2 : k.natAbs < 9007199254740992) : ∃ r, double.add a b = some r ∧ Rep r (j + k) := by
  obtain ⟨n1, m1, t1, r1, rfl, s1, _⟩ := read_rep ha h1
  obtain ⟨n2, m2, t2, r2, rfl, s2, _⟩ := read_rep hb h2
  unfold Format.add
  rw [r1, r2]
  obtain ⟨d, hd, hr⟩ := sum_data (t1 := t1) (t2 := t2) s1 s2
  rw [hd]
  exact ⟨_, rfl, hr⟩

theorem sub_rep {a b : Nat} {j k : Int} (ha : Rep a j) (hb : Rep b k) (h1 : j.natAbs < 9007199254740992) (h2 : k.natAbs < 9007199254740992) : ∃ r, double.sub a b = some r ∧ Rep r (j - k) := by
  obtain ⟨n1, m1, t1, r1, rfl, s1, _⟩ := read_rep ha h1
  obtain ⟨n2, m2, t2, r2, rfl, s2, _⟩ := read_rep hb h2
  unfold Format.sub
  rw [r1, r2]
  have s3 : -k ≠ 0 → (!n2) = decide (-k < 0) := by
    intro h
    rw [s2 (by omega), ← decide_not, decide_eq_decide]; omega
  obtain ⟨d, hd, hr⟩ := sum_data (j := j) (k := -k) (t1 := t1) (t2 := t2) s1 s3
  rw [Int.natAbs_neg] at hd
  show ∃ r, Option.map double.write (Datum.sum _ (.number (!n2) (k.natAbs * 2 ^ t2) (-(t2 : Int)))) = some r ∧ _
  rw [hd]
  exact ⟨_, rfl, hr⟩

/-! Any float beside a whole number. -/

/-- A finite float's value, in units of the least place. -/
def V (neg : Bool) (m : Nat) (e : Int) : Int := signed neg m (e + lp).toNat

theorem two_pos (n : Nat) : (0 : Int) < 2 ^ n := Int.pow_pos (by omega)

theorem cmp_scale (a b : Int) {p : Int} (hp : 0 < p) : compare (a * p) (b * p) = compare a b := by
  simp only [compare, compareOfLessAndEq]
  have e1 : (a * p < b * p) ↔ a < b := Int.mul_lt_mul_right hp
  have e2 : (a * p = b * p) ↔ a = b := ⟨fun h => Int.eq_of_mul_eq_mul_right (by omega) h, fun h => by rw [h]⟩
  simp only [e1, e2]

theorem signed_scale (neg : Bool) (m u q : Nat) : signed neg m u * 2 ^ q = signed neg m (u + q) := by
  rw [signed_eq, signed_eq, Int.pow_add]
  simp only [Int.mul_assoc]

theorem read_place {b : Nat} {neg : Bool} {m : Nat} {e : Int} (h : double.read b = .number neg m e) : -(lp : Int) ≤ e := by
  have hlp : double.leastPlace = -(lp : Int) := by decide
  unfold Format.read at h
  dsimp only at h
  rw [hlp] at h
  split at h
  · cases h; omega
  · split at h
    · cases h; omega
    · split at h <;> cases h

theorem order_val {a b : Nat} {n1 n2 : Bool} {m1 m2 : Nat} {e1 e2 : Int} (h1 : double.read a = .number n1 m1 e1) (h2 : double.read b = .number n2 m2 e2) : double.order a b = some (compare (V n1 m1 e1) (V n2 m2 e2)) := by
  have p1 := read_place h1
  have p2 := read_place h2
  unfold Format.order
  rw [h1, h2]
  unfold Datum.order
  simp only [Option.some.injEq]
  rw [← cmp_scale _ _ (two_pos (min e1 e2 + lp).toNat), signed_scale, signed_scale]
  unfold V
  rw [show (e1 - min e1 e2).toNat + (min e1 e2 + lp).toNat = (e1 + lp).toNat from by omega, show (e2 - min e1 e2).toNat + (min e1 e2 + lp).toNat = (e2 + lp).toNat from by omega]

theorem V_rep {b : Nat} {k : Int} (hb : Rep b k) (h : k.natAbs < 9007199254740992) : ∃ n m e, double.read b = .number n m e ∧ V n m e = k * 2 ^ lp := by
  obtain ⟨n, m, t, r, rfl, s, ht⟩ := read_rep hb h
  refine ⟨_, _, _, r, ?_⟩
  unfold V
  rw [signed_rep s]
  congr 2
  omega

theorem signed_abs (neg : Bool) (m u : Nat) : (signed neg m u).natAbs = m * 2 ^ u := by
  unfold signed; rw [Nat.shiftLeft_eq]; cases neg <;> simp [Int.natAbs_mul, Int.natAbs_pow]

theorem cut_trunc_le (neg : Bool) (n d K : Nat) (h : n ≤ K * 2 ^ d) : Toward.zero.cut neg n d ≤ K := by
  unfold Toward.cut
  simp only [Bool.toNat_false, Nat.add_zero]
  rw [Nat.shiftLeft_eq, Nat.one_mul]
  by_cases hd : d ≤ n.log2 + 2
  · rw [Nat.min_eq_left hd]
    exact Nat.div_le_of_le_mul (by rw [Nat.mul_comm]; exact h)
  · rw [Nat.min_eq_right (by omega), Nat.div_eq_of_lt]
    · omega
    · have := Nat.lt_log2_self (n := n)
      exact Nat.lt_of_lt_of_le this (Nat.pow_le_pow_right (by omega) (by omega))

/-- Cut towards zero, a float is no greater than the whole bound that it is not greater than. -/
theorem trunc_le {b : Nat} {neg : Bool} {m : Nat} {e : Int} (h : double.read b = .number neg m e) {K : Nat} (hK : (V neg m e).natAbs ≤ K * 2 ^ lp) : ∃ n, (double.read b).toInt .zero = some n ∧ n.natAbs ≤ K := by
  have hp := read_place h
  rw [h]
  refine ⟨_, rfl, ?_⟩
  rw [signed_abs, Nat.pow_zero, Nat.mul_one]
  apply cut_trunc_le
  unfold V at hK
  rw [signed_abs] at hK
  rw [Nat.shiftLeft_eq]
  have hq : 0 < 2 ^ (lp - (-e).toNat) := Nat.two_pow_pos _
  apply Nat.le_of_mul_le_mul_right _ hq
  rw [Nat.mul_assoc, ← Nat.pow_add, Nat.mul_assoc, ← Nat.pow_add, show (-e).toNat + (lp - (-e).toNat) = lp from by omega, show e.toNat + (lp - (-e).toNat) = (e + lp).toNat from by omega]
  exact hK

/-- The three kinds of words. -/
theorem read_kinds (b : Nat) : (∃ s t, double.read b = .nan s t) ∨ (∃ s, double.read b = .infinity s) ∨ (∃ s m e, double.read b = .number s m e) := by
  cases h : double.read b with
  | number s m e => exact Or.inr (Or.inr ⟨s, m, e, rfl⟩)
  | infinity s => exact Or.inr (Or.inl ⟨s, rfl⟩)
  | nan s t => exact Or.inl ⟨s, t, rfl⟩
end Go.Proofs.YtpfebfckolbnmaaDoor.FI

/- What becomes of any float that is cut to a bound and to a whole number. -/
namespace Go.Proofs.YtpfebfckolbnmaaDoor.FI
open Ieee

/-- 'min(2048, x)', 'max(-2048, y)' of floats that are no NaN. -/
def mn (x : Nat) : Nat := if double.order (F 2048) x = some .lt then F 2048 else x
def mx (x : Nat) : Nat := if double.order (F (-2048)) x = some .gt then F (-2048) else x
def clamp (x : Nat) : Nat := mx (mn x)

/-- Is a float within the bound of a part? -/
def inside (x : Nat) : Bool := (double.order x (F (-1024)) == some .gt || double.order x (F (-1024)) == some .eq) && (double.order x (F 1024) == some .lt || double.order x (F 1024) == some .eq)

theorem cmp_lt {a b : Int} : compare a b = .lt ↔ a < b := by
  simp only [compare, compareOfLessAndEq]; split
  · simp [*]
  · split <;> simp [*]
theorem cmp_gt {a b : Int} : compare a b = .gt ↔ b < a := by
  simp only [compare, compareOfLessAndEq]; split
  · simp; omega
  · split
    · simp; omega
    · simp; omega
theorem cmp_eq {a b : Int} : compare a b = .eq ↔ a = b := by
  simp only [compare, compareOfLessAndEq]; split
  · simp; omega
  · split <;> simp [*]

theorem order_F {x : Nat} {s : Bool} {m : Nat} {e : Int} (h : double.read x = .number s m e) {k : Int} (hk : k.natAbs < 9007199254740992) : double.order x (F k) = some (compare (V s m e) (k * 2 ^ lp)) ∧ double.order (F k) x = some (compare (k * 2 ^ lp) (V s m e)) := by
  obtain ⟨n, m', e', r, hv⟩ := V_rep (F_rep k) hk
  rw [order_val h r, order_val r h, hv]
  exact ⟨rfl, rfl⟩

theorem toInt_2048 : (double.read (F 2048)).toInt .zero = some 2048 := by decide
theorem toInt_m2048 : (double.read (F (-2048))).toInt .zero = some (-2048) := by decide

theorem inf_order {x : Nat} {s : Bool} (h : double.read x = .infinity s) {k : Int} (hk : k.natAbs < 9007199254740992) : double.order x (F k) = some (if s then .lt else .gt) ∧ double.order (F k) x = some (if s then .gt else .lt) := by
  obtain ⟨n, m', e', r, hv⟩ := V_rep (F_rep k) hk
  unfold Format.order
  rw [h, r]
  exact ⟨rfl, rfl⟩

/-- A float that is no NaN, cut to the bound: what it comes to as a whole number. -/
theorem clamp_spec (x : Nat) (hx : (double.read x).isNaN = false) : ∃ n : Int, (double.read (clamp x)).toInt .zero = some n ∧ -2048 ≤ n ∧ n ≤ 2048 ∧
    (inside x = true → clamp x = x ∧ -1024 ≤ n ∧ n ≤ 1024) ∧ (inside x = false → ¬ (double.order (F n) x = some .eq ∧ -1024 ≤ n ∧ n ≤ 1024)) := by
  rcases read_kinds x with ⟨s, t, h⟩ | ⟨s, h⟩ | ⟨s, m, e, h⟩
  · rw [h] at hx; cases hx
  · have o := fun (k : Int) hk => inf_order h (k := k) hk
    cases s
    · have hc : clamp x = F 2048 := by
        unfold clamp mn
        rw [(o 2048 (by decide)).2, if_pos (by simp)]
        decide
      have hi : inside x = false := by
        unfold inside
        rw [(o (-1024) (by decide)).1, (o 1024 (by decide)).1]; rfl
      exact ⟨2048, by rw [hc]; exact toInt_2048, by omega, by omega, fun h => (by rw [hi] at h; cases h), fun _ => by omega⟩
    · have hm : mn x = x := by
        unfold mn
        rw [(o 2048 (by decide)).2, if_neg (by simp)]
      have hc : clamp x = F (-2048) := by
        unfold clamp
        rw [hm]
        unfold mx
        rw [(o (-2048) (by decide)).2, if_pos (by simp)]
      have hi : inside x = false := by
        unfold inside
        rw [(o (-1024) (by decide)).1, (o 1024 (by decide)).1]; rfl
      exact ⟨-2048, by rw [hc]; exact toInt_m2048, by omega, by omega, fun h => (by rw [hi] at h; cases h), fun _ => by omega⟩
  · have hP := two_pos lp
    have o := fun (k : Int) hk => order_F h (k := k) hk
    generalize hv : V s m e = v at o
    have hin : inside x = true ↔ (-1024) * 2 ^ lp ≤ v ∧ v ≤ 1024 * 2 ^ lp := by
      unfold inside
      rw [(o (-1024) (by decide)).1, (o 1024 (by decide)).1]
      simp only [Bool.and_eq_true, Bool.or_eq_true, beq_iff_eq, Option.some.injEq, cmp_lt, cmp_gt, cmp_eq]
      omega
    have habs : ∀ K : Nat, -(K : Int) * 2 ^ lp ≤ v → v ≤ K * 2 ^ lp → (V s m e).natAbs ≤ K * 2 ^ lp := by
      intro K h1 h2
      rw [hv]
      have e1 : ((K * 2 ^ lp : Nat) : Int) = K * 2 ^ lp := by rw [Int.natCast_mul, Int.natCast_pow]; rfl
      rw [Int.neg_mul] at h1
      omega
    by_cases h1 : 2048 * 2 ^ lp < v
    · have hc : clamp x = F 2048 := by
        unfold clamp mn
        rw [(o 2048 (by decide)).2, if_pos (by rw [cmp_lt.2 h1])]
        decide
      refine ⟨2048, by rw [hc]; exact toInt_2048, by omega, by omega, fun h => ?_, fun _ => by omega⟩
      have := hin.1 h
      omega
    · have hm : mn x = x := by
        unfold mn
        rw [(o 2048 (by decide)).2, if_neg (by rw [Option.some.injEq, cmp_lt]; exact h1)]
      by_cases h2 : v < (-2048) * 2 ^ lp
      · have hc : clamp x = F (-2048) := by
          unfold clamp
          rw [hm]
          unfold mx
          rw [(o (-2048) (by decide)).2, if_pos (by rw [cmp_gt.2 h2])]
        refine ⟨-2048, by rw [hc]; exact toInt_m2048, by omega, by omega, fun h => ?_, fun _ => by omega⟩
        have := hin.1 h
        omega
      · have hc : clamp x = x := by
          unfold clamp
          rw [hm]
          unfold mx
          rw [(o (-2048) (by decide)).2, if_neg (by rw [Option.some.injEq, cmp_gt]; exact h2)]
        obtain ⟨n, hn, hb⟩ := trunc_le h (K := 2048) (habs 2048 (by omega) (by omega))
        refine ⟨n, by rw [hc]; exact hn, by omega, by omega, fun hi => ⟨hc, ?_⟩, fun hi => ?_⟩
        · obtain ⟨a, b⟩ := hin.1 hi
          obtain ⟨n', hn', hb'⟩ := trunc_le h (K := 1024) (habs 1024 (by omega) (by omega))
          rw [hn] at hn'
          cases hn'
          omega
        · rintro ⟨q1, q2, q3⟩
          rw [(o n (by omega)).2, Option.some.injEq, cmp_eq] at q1
          have : inside x = true := by
            rw [hin, ← q1]
            exact ⟨Int.mul_le_mul_of_nonneg_right q2 (by omega), Int.mul_le_mul_of_nonneg_right q3 (by omega)⟩
          rw [this] at hi; cases hi
end Go.Proofs.YtpfebfckolbnmaaDoor.FI

/- The leaves of layer 4's law on Far: what 'part', 'whole' and 'parts' answer at any floats. -/
namespace Go.Proofs.YtpfebfckolbnmaaDoor.Far
open Go.RowKit Go.Proofs.YtpfebfckolbnmaaDoor.FI

/-- The whole number that a float is cut to. -/
def pn (x : Nat) : Int := ((Ieee.double.read (clamp x)).toInt .zero).getD 0
def eqB (x : Nat) : Bool := Ieee.double.order (F (pn x)) x == some .eq
def pok (x : Nat) : Bool := inside x && eqB x
def nanB (x : Nat) : Bool := (Ieee.double.read x).isNaN

theorem pn_bounds (x : Nat) (h : nanB x = false) : -2048 ≤ pn x ∧ pn x ≤ 2048 := by
  obtain ⟨n, h1, h2, h3, _, _⟩ := clamp_spec x h
  unfold pn
  rw [h1]
  exact ⟨h2, h3⟩

theorem nan_order (x k : Nat) (h : nanB x = true) : Ieee.double.order x k = none ∧ Ieee.double.order k x = none := by
  unfold nanB at h
  unfold Ieee.Format.order
  cases hx : Ieee.double.read x with
  | number s m e => rw [hx] at h; cases h
  | infinity s => rw [hx] at h; cases h
  | nan s t => cases hk : Ieee.double.read k <;> exact ⟨rfl, rfl⟩

theorem inside_nan (x : Nat) (h : nanB x = true) : inside x = false := by
  unfold inside
  rw [(nan_order x _ h).1, (nan_order x _ h).1]
  rfl

theorem order_self (x : Nat) : (Ieee.double.order x x == some .eq) = !nanB x := by
  unfold nanB Ieee.Format.order
  cases hx : Ieee.double.read x with
  | number s m e =>
    simp only [Ieee.Datum.order, Ieee.Datum.isNaN, Bool.not_false]
    rw [cmp_eq.2 rfl]; rfl
  | infinity s => cases s <;> rfl
  | nan s t => rfl

theorem conv_val (x : Nat) (h : nanB x = false) : floatToIntVal .f64 (clamp x) .i64 = some (pn x) := by
  obtain ⟨n, h1, h2, h3, _, _⟩ := clamp_spec x h
  have e : pn x = n := by unfold pn; rw [h1]; rfl
  unfold floatToIntVal
  show (match (Ieee.double.read (clamp x)).toInt .zero with | some n => _ | none => _) = _
  rw [h1, e]
  have m1 : IntKind.i64.min = -9223372036854775808 := by decide
  have m2 : IntKind.i64.max = 9223372036854775807 := by decide
  rw [e] at *
  simp only [m1, m2]
  rw [if_pos (by omega)]

theorem clamp_in (x : Nat) (h : inside x = true) : clamp x = x := by
  by_cases hn : nanB x = true
  · rw [inside_nan x hn] at h; cases h
  · obtain ⟨n, h1, h2, h3, h4, _⟩ := clamp_spec x (show nanB x = false from by simpa using hn)
    exact (h4 h).1

theorem pok_bounds (x : Nat) (h : pok x = true) : -1024 ≤ pn x ∧ pn x ≤ 1024 := by
  unfold pok at h
  rw [Bool.and_eq_true] at h
  by_cases hn : nanB x = true
  · rw [inside_nan x hn] at h; cases h.1
  · obtain ⟨n, h1, h2, h3, h4, _⟩ := clamp_spec x (show nanB x = false from by simpa using hn)
    have e : pn x = n := by unfold pn; rw [h1]; rfl
    rw [e]
    exact (h4 h.1).2

/-- The program's three tests tell the same as the document's. -/
theorem tests_same (x : Nat) (h : nanB x = false) : (eqB x && decide (-1024 ≤ pn x) && decide (pn x ≤ 1024)) = pok x := by
  obtain ⟨n, h1, h2, h3, h4, h5⟩ := clamp_spec x h
  have e : pn x = n := by unfold pn; rw [h1]; rfl
  unfold pok
  cases hi : inside x with
  | true =>
    have := (h4 hi).2
    rw [e, decide_eq_true this.1, decide_eq_true this.2]; simp
  | false =>
    have h6 := h5 hi
    rw [Bool.false_and]
    cases hq : eqB x with
    | false => rfl
    | true =>
      rw [Bool.true_and]
      have : Ieee.double.order (F n) x = some .eq := by
        unfold eqB at hq; rw [e] at hq; simpa using hq
      rw [Bool.and_eq_false_iff, e]
      simp only [decide_eq_false_iff_not]
      by_cases h7 : -1024 ≤ n
      · right; intro h8; exact h6 ⟨this, h7, h8⟩
      · left; exact h7

theorem run_min (ts : Array TypeId) (t : TypeId) (x : Nat) (w : World) (h : nanB x = false) : (Builtin.min_ ts t #[.float .f64 4656722014701092864, .float .f64 x]).run Tryd.prog w = .ok (.float .f64 (mn x)) w := by
  have hF : (4656722014701092864 : Nat) = F 2048 := by decide
  have hneg : (FloatKind.f64.decode (F 2048)).neg = false := by decide
  unfold mn
  rw [hF]
  simp only [Builtin.min_, List.foldlM]
  show ((Builtin.min2 (.float .f64 (F 2048)) (.float .f64 x)) >>= pure).run Tryd.prog w = _
  simp only [Builtin.min2, FloatKind.format]
  cases ho : Ieee.double.order (F 2048) x with
  | none =>
    exfalso
    unfold Ieee.Format.order at ho
    unfold nanB at h
    obtain ⟨s, m, e, r, _⟩ := V_rep (F_rep 2048) (by decide)
    rw [r] at ho
    cases hx : Ieee.double.read x with
    | number s m e => rw [hx] at ho; cases ho
    | infinity s => rw [hx] at ho; cases ho
    | nan s t => rw [hx] at h; cases h
  | some o =>
    cases o
    · simp
    · simp [hneg]
    · simp

theorem run_max (ts : Array TypeId) (t : TypeId) (x : Nat) (w : World) (h : nanB x = false) : (Builtin.max_ ts t #[.float .f64 13880094051555868672, .float .f64 x]).run Tryd.prog w = .ok (.float .f64 (mx x)) w := by
  have hF : (13880094051555868672 : Nat) = F (-2048) := by decide
  have hneg : (FloatKind.f64.decode (F (-2048))).neg = true := by decide
  unfold mx
  rw [hF]
  simp only [Builtin.max_, List.foldlM]
  show ((Builtin.max2 (.float .f64 (F (-2048))) (.float .f64 x)) >>= pure).run Tryd.prog w = _
  simp only [Builtin.max2, FloatKind.format]
  cases ho : Ieee.double.order (F (-2048)) x with
  | none =>
    exfalso
    unfold Ieee.Format.order at ho
    unfold nanB at h
    obtain ⟨s, m, e, r, _⟩ := V_rep (F_rep (-2048)) (by decide)
    rw [r] at ho
    cases hx : Ieee.double.read x with
    | number s m e => rw [hx] at ho; cases ho
    | infinity s => rw [hx] at ho; cases ho
    | nan s t => rw [hx] at h; cases h
  | some o =>
    cases o
    · simp
    · simp [hneg]
    · simp

theorem mn_nan (x : Nat) (h : nanB x = false) : nanB (mn x) = false := by
  unfold mn; split
  · decide
  · exact h

def geLo (x : Nat) : Bool := Ieee.double.order x (F (-1024)) == some .gt || Ieee.double.order x (F (-1024)) == some .eq
def leHi (x : Nat) : Bool := Ieee.double.order x (F 1024) == some .lt || Ieee.double.order x (F 1024) == some .eq
theorem inside_eq (x : Nat) : inside x = (geLo x && leHi x) := rfl

theorem op_ge (t : TypeId) (x : Nat) : binOp .geq t (.float .f64 x) (.float .f64 13875590451928498176) = pure (.bool (geLo x)) := by
  have e : (13875590451928498176 : Nat) = F (-1024) := by decide
  rw [binOp_float_cmp_geq, e]; rfl
theorem op_le (t : TypeId) (x : Nat) : binOp .leq t (.float .f64 x) (.float .f64 4652218415073722368) = pure (.bool (leHi x)) := by
  have e : (4652218415073722368 : Nat) = F 1024 := by decide
  rw [binOp_float_cmp_leq, e]; rfl
theorem op_eq (t : TypeId) (x : Nat) : binOp .eql t (.float .f64 (floatOfInt .f64 (pn x))) (.float .f64 x) = pure (.bool (eqB x)) := by
  rw [binOp_float_cmp_eql]; rfl
attribute [local go_sem high] op_ge op_le op_eq

theorem run_conv (x : Nat) (h : nanB x = false) (w : World) : (convert 123 3 (.float .f64 (clamp x))).run Tryd.prog w = .ok (.int .i64 (pn x)) w :=
  run_convert_float_int w 123 3 .f64 .i64 (clamp x) (pn x) (by rw [Tryd.underlying123]; rfl) Tryd.underlying3 (conv_val x h)

theorem inside_notnan (x : Nat) (h : inside x = true) : nanB x = false := by
  cases hn : nanB x with
  | false => rfl
  | true => rw [inside_nan x hn] at h; cases h

/-- plane.whole. -/
theorem whole_any (x : Nat) (h : nanB x = false) (w : World) :
    Calls Tryd.prog 46 #[.float .f64 x] w fun e w' => e = .returned (.tuple #[.int .i64 (pn x), .bool (pok x)]) ∧ w = w' := by
  have hc := fun w => run_conv x h w
  have hm := fun ts t w => run_min ts t x w h
  have hM := fun ts t w => run_max ts t (mn x) w (mn_nan x h)
  have hb := pn_bounds x h
  have ht := tests_same x h
  unfold clamp at hc
  have HT := Lib.hid ht
  clear ht
  cases h1 : eqB x with
  | false =>
    have hp : pok x = false := by have := HT.out; rw [h1] at this; simpa using this.symm
    clear HT
    rw [hp]
    clear hp
    go_enter Tryd.func46, Tryd.ntmps46
    go_wp2
    go_ret2
    exact ⟨rfl, rfl⟩
  | true =>
    have hp : pok x = (decide (-1024 ≤ pn x) && decide (pn x ≤ 1024)) := by have := HT.out; rw [h1] at this; simpa using this.symm
    clear HT
    rw [hp]
    clear hp
    go_enter Tryd.func46, Tryd.ntmps46
    go_wp2
    all_goals
      go_ret2
      exact ⟨by simp [*] <;> omega, rfl⟩
end Go.Proofs.YtpfebfckolbnmaaDoor.Far

/- Layer 4's law on Far, walked: at any four floats plane.Far answers what the document's answer says. -/
namespace Go.Proofs.YtpfebfckolbnmaaDoor.Far
open Go.RowKit Go.Proofs.YtpfebfckolbnmaaDoor.FI

/-- bursarref04.Of: is it a place? -/
def ofB (x y : Nat) : Bool := pok x && pok y

def pa (x y : Nat) : Int := if nanB x || nanB y then 0 else pn x
def pb (x y : Nat) : Int := if nanB x || nanB y then 0 else pn y

theorem pok_nan (x : Nat) (h : nanB x = true) : pok x = false := by unfold pok; rw [inside_nan x h]; rfl

theorem neq_self (x y : Nat) (t : TypeId) (w : World) : (binOp .neq t (.complex .f64 x y) (.complex .f64 x y)).run Tryd.prog w = .ok (.bool (nanB x || nanB y)) w := by
  rw [run_neq_complex]
  show Result.ok (Value.bool !((Ieee.double.order x x == some .eq) && (Ieee.double.order y y == some .eq))) w = _
  rw [order_self, order_self]
  cases nanB x <;> cases nanB y <;> rfl
attribute [local go_sem high] neq_self

set_option maxHeartbeats 400000 in
theorem parts_any (x y : Nat) (w : World) :
    Calls Tryd.prog 45 #[.complex .f64 x y] w fun e w' => e = .returned (.tuple #[.int .i64 (pa x y), .int .i64 (pb x y), .bool (ofB x y)]) ∧ w = w' := by
  cases hx : (nanB x || nanB y) with
  | true =>
    have e1 : pa x y = 0 := by unfold pa; rw [hx]; rfl
    have e2 : pb x y = 0 := by unfold pb; rw [hx]; rfl
    have e3 : ofB x y = false := by
      unfold ofB
      rw [Bool.or_eq_true] at hx
      rcases hx with h | h
      · rw [pok_nan x h]; rfl
      · rw [pok_nan y h, Bool.and_false]
    rw [e1, e2, e3]
    clear e1 e2 e3
    go_enter Tryd.func45, Tryd.ntmps45
    go_wp2
    go_ret3
    exact ⟨rfl, rfl⟩
  | false =>
    have e1 : pa x y = pn x := by unfold pa; rw [hx]; rfl
    have e2 : pb x y = pn y := by unfold pb; rw [hx]; rfl
    rw [e1, e2]
    clear e1 e2
    rw [Bool.or_eq_false_iff] at hx
    obtain ⟨hx1, hx2⟩ := hx
    have P1 := Lib.hid (whole_any x hx1)
    have P2 := Lib.hid (whole_any y hx2)
    unfold ofB
    generalize pok x = b1 at P1 ⊢
    generalize pok y = b2 at P2 ⊢
    go_enter Tryd.func45, Tryd.ntmps45
    go_wp2_with fail
    refine (P1.out _).mono ?_
    rintro e w1 ⟨rfl, rfl⟩
    go_wp2_with fail
    refine (P2.out _).mono ?_
    rintro e w1 ⟨rfl, rfl⟩
    cases b1 <;>
    · go_wp2
      go_ret3
      exact ⟨rfl, rfl⟩

/-- How far, as the machine reckons it. -/
def farW (a b c d : Int) : Int := wrap64 (wrap64 ((a - c) * (a - c)) + wrap64 ((b - d) * (b - d)))


theorem ofB_bounds (x y : Nat) (h : ofB x y = true) : (-1024 ≤ pa x y ∧ pa x y ≤ 1024) ∧ (-1024 ≤ pb x y ∧ pb x y ≤ 1024) ∧ pa x y = pn x ∧ pb x y = pn y := by
  unfold ofB at h
  rw [Bool.and_eq_true] at h
  have n1 : nanB x = false := by
    cases hn : nanB x with
    | false => rfl
    | true => rw [pok_nan x hn] at h; cases h.1
  have n2 : nanB y = false := by
    cases hn : nanB y with
    | false => rfl
    | true => rw [pok_nan y hn] at h; cases h.2
  have e1 : pa x y = pn x := by unfold pa; rw [n1, n2]; rfl
  have e2 : pb x y = pn y := by unfold pb; rw [n1, n2]; rfl
  rw [e1, e2]
  exact ⟨pok_bounds x h.1, pok_bounds y h.2, rfl, rfl⟩



end Go.Proofs.YtpfebfckolbnmaaDoor.Far

/- Numbers in the base -1 + i, in whole numbers: the point of a number, the number of a point. -/
namespace Go.Proofs.YtpfebfckolbnmaaDoor.PM

/-- The point of n, of whose digits k are looked at. -/
def pt : Nat → Nat → Int × Int
  | 0, _ => (0, 0)
  | k + 1, n => (((n % 2 : Nat) : Int) - (pt k (n / 2)).1 - (pt k (n / 2)).2, (pt k (n / 2)).1 - (pt k (n / 2)).2)

theorem pt_bound : ∀ (k n : Nat), -(2 ^ k : Int) < (pt k n).1 ∧ (pt k n).1 < 2 ^ k ∧ -(2 ^ k : Int) < (pt k n).2 ∧ (pt k n).2 < 2 ^ k
  | 0, _ => by simp [pt]
  | k + 1, n => by
    have ih := pt_bound k (n / 2)
    have hp : (2 ^ (k + 1) : Int) = 2 * 2 ^ k := by rw [Int.pow_succ, Int.mul_comm]
    rw [hp]
    simp only [pt]
    generalize (2 ^ k : Int) = P at *
    omega

theorem pt_more : ∀ (k n j : Nat), n < 2 ^ k → pt (k + j) n = pt k n
  | 0, n, j, h => by
    have : n = 0 := by simp at h; exact h
    subst this
    simp only [Nat.zero_add]
    induction j with
    | zero => rfl
    | succ j ih => simp [pt, ih]
  | k + 1, n, j, h => by
    rw [show k + 1 + j = (k + j) + 1 from by omega]
    simp only [pt]
    rw [pt_more k (n / 2) j (by rw [Nat.pow_succ] at h; omega)]

theorem pt_zero : ∀ (k n : Nat), n < 2 ^ k → (pt k n).1 = 0 → (pt k n).2 = 0 → n = 0
  | 0, n, h, _, _ => by simp at h; exact h
  | k + 1, n, h, h1, h2 => by
    simp only [pt] at h1 h2
    have h3 : n % 2 = 0 := by omega
    have := pt_zero k (n / 2) (by rw [Nat.pow_succ] at h; omega) (by omega) (by omega)
    omega

/-- One digit less: of a point whose lowest digit is d. -/
def dig (x y : Int) : Int := (x + y) % 2
def nx (x y : Int) : Int := (y - (x - dig x y)) / 2
def ny (x y : Int) : Int := (-(x - dig x y) - y) / 2

theorem dig_or (x y : Int) : dig x y = 0 ∨ dig x y = 1 := by unfold dig; omega
theorem nx_two (x y : Int) : 2 * nx x y = y - (x - dig x y) := by unfold nx dig; omega
theorem ny_two (x y : Int) : 2 * ny x y = -(x - dig x y) - y := by unfold ny dig; omega

/-- The loop is over within k rounds. -/
def en : Nat → Int → Int → Prop
  | 0, x, y => x = 0 ∧ y = 0
  | k + 1, x, y => (x = 0 ∧ y = 0) ∨ en k (nx x y) (ny x y)

/-- The number that k rounds tell. -/
def nm : Nat → Int → Int → Int
  | 0, _, _ => 0
  | k + 1, x, y => if x = 0 ∧ y = 0 then 0 else dig x y + 2 * nm k (nx x y) (ny x y)

theorem en_zero (k : Nat) : en k 0 0 := by cases k <;> simp [en]

theorem en_more : ∀ (k j : Nat) (x y : Int), en k x y → en (k + j) x y
  | 0, j, x, y, h => by obtain ⟨rfl, rfl⟩ := h; exact en_zero _
  | k + 1, j, x, y, h => by
    rw [show k + 1 + j = (k + j) + 1 from by omega]
    rcases h with h | h
    · exact Or.inl h
    · exact Or.inr (en_more k j _ _ h)

theorem nm_more : ∀ (k j : Nat) (x y : Int), en k x y → nm (k + j) x y = nm k x y
  | 0, j, x, y, h => by
    obtain ⟨rfl, rfl⟩ := h
    simp only [Nat.zero_add]
    cases j <;> simp [nm]
  | k + 1, j, x, y, h => by
    rw [show k + 1 + j = (k + j) + 1 from by omega]
    simp only [nm]
    by_cases h0 : x = 0 ∧ y = 0
    · rw [if_pos h0, if_pos h0]
    · rw [if_neg h0, if_neg h0]
      rcases h with h | h
      · exact absurd h h0
      · rw [nm_more k j _ _ h]

theorem nm_bound : ∀ (k : Nat) (x y : Int), 0 ≤ nm k x y ∧ nm k x y < 2 ^ k
  | 0, _, _ => by simp [nm]
  | k + 1, x, y => by
    have ih := nm_bound k (nx x y) (ny x y)
    have hd := dig_or x y
    have hp : (2 ^ (k + 1) : Int) = 2 * 2 ^ k := by rw [Int.pow_succ, Int.mul_comm]
    have hP : (0 : Int) < 2 ^ k := Int.pow_pos (by omega)
    rw [hp]
    simp only [nm]
    generalize (2 ^ k : Int) = P at *
    split <;> omega

theorem two_steps (x y : Int) : (2 * nx (nx x y) (ny x y) = -y + dig (nx x y) (ny x y)) ∧ (2 * ny (nx x y) (ny x y) = x - dig x y + dig (nx x y) (ny x y)) := by
  have h1 := nx_two x y
  have h2 := ny_two x y
  have h3 := nx_two (nx x y) (ny x y)
  have h4 := ny_two (nx x y) (ny x y)
  omega

theorem en_half (k : Nat) (M : Int) (x y : Int) (hx : -M ≤ x ∧ x ≤ M) (hy : -M ≤ y ∧ y ≤ M)
    (h : ∀ x y, -((M + 1) / 2) ≤ x ∧ x ≤ (M + 1) / 2 → -((M + 1) / 2) ≤ y ∧ y ≤ (M + 1) / 2 → en k x y) : en (k + 2) x y := by
  refine Or.inr (Or.inr (h _ _ ?_ ?_))
  · have := two_steps x y
    have := dig_or (nx x y) (ny x y)
    omega
  · have := two_steps x y
    have := dig_or (nx x y) (ny x y)
    have := dig_or x y
    omega

def enB : Nat → Int → Int → Bool
  | 0, x, y => x == 0 && y == 0
  | k + 1, x, y => (x == 0 && y == 0) || enB k (nx x y) (ny x y)

theorem enB_en : ∀ (k : Nat) (x y : Int), enB k x y = true → en k x y
  | 0, x, y, h => by simpa [enB, en] using h
  | k + 1, x, y, h => by
    simp only [enB, Bool.or_eq_true, Bool.and_eq_true, beq_iff_eq] at h
    rcases h with h | h
    · exact Or.inl h
    · exact Or.inr (enB_en k _ _ h)

theorem en_one (x y : Int) (hx : -1 ≤ x ∧ x ≤ 1) (hy : -1 ≤ y ∧ y ≤ 1) : en 16 x y := by
  have h1 : x = -1 ∨ x = 0 ∨ x = 1 := by omega
  have h2 : y = -1 ∨ y = 0 ∨ y = 1 := by omega
  apply enB_en
  rcases h1 with rfl | rfl | rfl <;> rcases h2 with rfl | rfl | rfl <;> decide

theorem en_place (x y : Int) (hx : -1024 ≤ x ∧ x ≤ 1024) (hy : -1024 ≤ y ∧ y ≤ 1024) : en 36 x y :=
  en_half 34 1024 x y hx hy fun x y hx hy =>
  en_half 32 512 x y (by omega) (by omega) fun x y hx hy =>
  en_half 30 256 x y (by omega) (by omega) fun x y hx hy =>
  en_half 28 128 x y (by omega) (by omega) fun x y hx hy =>
  en_half 26 64 x y (by omega) (by omega) fun x y hx hy =>
  en_half 24 32 x y (by omega) (by omega) fun x y hx hy =>
  en_half 22 16 x y (by omega) (by omega) fun x y hx hy =>
  en_half 20 8 x y (by omega) (by omega) fun x y hx hy =>
  en_half 18 4 x y (by omega) (by omega) fun x y hx hy =>
  en_half 16 2 x y (by omega) (by omega) fun x y hx hy => en_one x y (by omega) (by omega)

/-- The number of a point is that number. -/
theorem nm_pt : ∀ (k n : Nat), n < 2 ^ k → nm k (pt k n).1 (pt k n).2 = n
  | 0, n, h => by simp at h; subst h; rfl
  | k + 1, n, h => by
    have ih := nm_pt k (n / 2) (by rw [Nat.pow_succ] at h; omega)
    simp only [nm]
    by_cases h0 : (pt (k + 1) n).1 = 0 ∧ (pt (k + 1) n).2 = 0
    · rw [if_pos h0, pt_zero (k + 1) n h h0.1 h0.2]; rfl
    · rw [if_neg h0]
      have hd : dig (pt (k + 1) n).1 (pt (k + 1) n).2 = (n % 2 : Nat) := by
        unfold dig; simp only [pt]; omega
      have h1 : nx (pt (k + 1) n).1 (pt (k + 1) n).2 = (pt k (n / 2)).1 := by
        have := nx_two (pt (k + 1) n).1 (pt (k + 1) n).2
        rw [hd] at this
        simp only [pt] at this ⊢
        omega
      have h2 : ny (pt (k + 1) n).1 (pt (k + 1) n).2 = (pt k (n / 2)).2 := by
        have := ny_two (pt (k + 1) n).1 (pt (k + 1) n).2
        rw [hd] at this
        simp only [pt] at this ⊢
        omega
      rw [hd, h1, h2, ih]
      omega

/-- The point of a place's number is that place. -/
theorem pt_nm : ∀ (k : Nat) (x y : Int), en k x y → (pt k (nm k x y).toNat).1 = x ∧ (pt k (nm k x y).toNat).2 = y
  | 0, x, y, h => by obtain ⟨rfl, rfl⟩ := h; exact ⟨rfl, rfl⟩
  | k + 1, x, y, h => by
    by_cases h0 : x = 0 ∧ y = 0
    · obtain ⟨rfl, rfl⟩ := h0
      have e : nm (k + 1) 0 0 = 0 := by simp [nm]
      rw [e]
      have := pt_more 0 0 (k + 1) (by simp)
      rw [Nat.zero_add] at this
      show (pt (k + 1) 0).1 = 0 ∧ (pt (k + 1) 0).2 = 0
      rw [this]
      exact ⟨rfl, rfl⟩
    · have h' : en k (nx x y) (ny x y) := h.resolve_left h0
      obtain ⟨i1, i2⟩ := pt_nm k _ _ h'
      have e : nm (k + 1) x y = dig x y + 2 * nm k (nx x y) (ny x y) := by simp only [nm]; rw [if_neg h0]
      have hb := nm_bound k (nx x y) (ny x y)
      have hd := dig_or x y
      have e1 : (nm (k + 1) x y).toNat / 2 = (nm k (nx x y) (ny x y)).toNat := by rw [e]; omega
      have e2 : (((nm (k + 1) x y).toNat % 2 : Nat) : Int) = dig x y := by rw [e]; omega
      simp only [pt]
      rw [e1, e2, i1, i2]
      have := nx_two x y
      have := ny_two x y
      omega
end Go.Proofs.YtpfebfckolbnmaaDoor.PM

/- plane.Point, walked: its floats stand for whole numbers all along. -/
namespace Go.Proofs.YtpfebfckolbnmaaDoor.Far
open Go.RowKit Go.Proofs.YtpfebfckolbnmaaDoor.FI Go.Proofs.YtpfebfckolbnmaaDoor.PM

/-- What the loop still has to add. -/
def fx (px wx wy : Int) (q : Int × Int) : Int := px + (wx * q.1 - wy * q.2)
def fy (py wx wy : Int) (q : Int × Int) : Int := py + (wx * q.2 + wy * q.1)

theorem fx_step (px wx wy : Int) (j n : Nat) : fx px wx wy (pt (j + 1) n) = fx (px + ((n % 2 : Nat) : Int) * wx) (-wx - wy) (wx - wy) (pt j (n / 2)) := by
  unfold fx; simp only [pt]
  simp only [Int.mul_sub, Int.sub_mul, Int.neg_mul, Int.mul_comm wx ((n % 2 : Nat) : Int)]
  omega
theorem fy_step (py wx wy : Int) (j n : Nat) : fy py wx wy (pt (j + 1) n) = fy (py + ((n % 2 : Nat) : Int) * wy) (-wx - wy) (wx - wy) (pt j (n / 2)) := by
  unfold fy; simp only [pt]
  simp only [Int.mul_sub, Int.sub_mul, Int.neg_mul, Int.mul_comm wy ((n % 2 : Nat) : Int)]
  omega

theorem pt_nil (j : Nat) : pt j 0 = (0, 0) := by
  have := pt_more 0 0 j (by simp)
  rw [Nat.zero_add] at this
  rw [this]; rfl
theorem fx_end (px wx wy : Int) (j : Nat) : fx px wx wy (pt j 0) = px := by rw [pt_nil]; simp [fx]
theorem fy_end (py wx wy : Int) (j : Nat) : fy py wx wy (pt j 0) = py := by rw [pt_nil]; simp [fy]

theorem i64_and1 (n : Int) : bits .and .i64 n 1 = n % 2 := by
  have h1 : (BitVec.ofInt 64 1).toNat = 2 ^ 1 - 1 := by decide
  have key : (BitVec.ofInt 64 n &&& BitVec.ofInt 64 1).toNat = (n % ((2 ^ 64 : Nat) : Int)).toNat % 2 ^ 1 := by
    rw [BitVec.toNat_and, BitVec.toNat_ofInt, h1, Nat.and_two_pow_sub_one_eq_mod]
  show IntKind.i64.wrap ((BitVec.ofInt 64 n &&& BitVec.ofInt 64 1).toNat : Nat) = n % 2
  rw [key, IntKind.wrap_i64]
  omega

/-- Complex sums and the product by the base, of whole numbers: exact. -/
theorem cadd_rep {b1 b2 c1 c2 : Nat} {px py wx wy : Int} (r1 : Rep b1 px) (r2 : Rep b2 py) (r3 : Rep c1 wx) (r4 : Rep c2 wy) (h1 : px.natAbs < 9007199254740992) (h2 : py.natAbs < 9007199254740992) (h3 : wx.natAbs < 9007199254740992) (h4 : wy.natAbs < 9007199254740992) :
    ∃ d1 d2, (∀ (t : TypeId) (w : World), (binOp .add t (.complex .f64 b1 b2) (.complex .f64 c1 c2)).run Tryd.prog w = .ok (.complex .f64 d1 d2) w) ∧ Rep d1 (px + wx) ∧ Rep d2 (py + wy) := by
  obtain ⟨d1, e1, q1⟩ := add_rep r1 r3 h1 h3
  obtain ⟨d2, e2, q2⟩ := add_rep r2 r4 h2 h4
  refine ⟨d1, d2, fun t w => run_complex_sum w .add (Or.inl rfl) t .f64 b1 b2 c1 c2 d1 d2 ?_, q1, q2⟩
  show (Option.bind (Ieee.double.add b1 c1) fun x => Option.bind (Ieee.double.add b2 c2) fun y => some (x, y)) = _
  rw [e1, e2]; rfl

theorem cmul_base {c1 c2 : Nat} {wx wy : Int} (r3 : Rep c1 wx) (r4 : Rep c2 wy) (h3 : wx.natAbs < 4503599627370496) (h4 : wy.natAbs < 4503599627370496) :
    ∃ e1 e2, (∀ (t : TypeId) (w : World), (binOp .mul t (.complex .f64 c1 c2) (.complex .f64 13830554455654793216 4607182418800017408)).run Tryd.prog w = .ok (.complex .f64 e1 e2) w) ∧ Rep e1 (-wx - wy) ∧ Rep e2 (wx - wy) := by
  have k1 : (13830554455654793216 : Nat) = F (-1) := by decide
  have k2 : (4607182418800017408 : Nat) = F 1 := by decide
  rw [k1, k2]
  obtain ⟨ac, a1, a2⟩ := mul_rep r3 (F_rep (-1)) (by omega) (by decide)
  obtain ⟨bd, a3, a4⟩ := mul_rep r4 (F_rep 1) (by omega) (by decide)
  obtain ⟨ad, a5, a6⟩ := mul_rep r3 (F_rep 1) (by omega) (by decide)
  obtain ⟨bc, a7, a8⟩ := mul_rep r4 (F_rep (-1)) (by omega) (by decide)
  rw [show wx * -1 = -wx from by omega] at a2
  rw [show wy * 1 = wy from by omega] at a4
  rw [show wx * 1 = wx from by omega] at a6
  rw [show wy * -1 = -wy from by omega] at a8
  obtain ⟨re, a9, b1⟩ := sub_rep a2 a4 (by omega) (by omega)
  obtain ⟨im, b2, b3⟩ := add_rep a6 a8 (by omega) (by omega)
  rw [show wx + -wy = wx - wy from by omega] at b3
  refine ⟨re, im, fun t w => run_complex_mul w t c1 c2 _ _ re im ?_, b1, b3⟩
  unfold cMulBits
  simp only [floatBits, FloatKind.format]
  rw [a1, a3, a5, a7]
  simp only [Option.bind_some]
  rw [a9, b2]
  rfl

/-- A float that stands for a small whole number is cut to it. -/
theorem rep_inside {b : Nat} {k : Int} (r : Rep b k) (h : k.natAbs < 9007199254740992) : inside b = (decide (-1024 ≤ k) && decide (k ≤ 1024)) := by
  unfold inside
  rw [order_rep r (F_rep (-1024)) h (by decide), order_rep r (F_rep 1024) h (by decide)]
  rw [Bool.eq_iff_iff]
  simp only [Bool.and_eq_true, Bool.or_eq_true, beq_iff_eq, Option.some.injEq, cmp_lt, cmp_gt, cmp_eq, decide_eq_true_eq]
  omega

theorem rep_notnan {b : Nat} {k : Int} (r : Rep b k) (h : k.natAbs < 9007199254740992) : nanB b = false := by
  obtain ⟨n, m, e, hr, _⟩ := V_rep r h
  unfold nanB; rw [hr]; rfl

theorem toInt_of {s : Bool} {m t : Nat} (k : Int) (hm : m = k.natAbs * 2 ^ t) (hs : k ≠ 0 → s = decide (k < 0)) (h : t ≤ 1074) (hk : k.natAbs < 9007199254740992) : (Ieee.Datum.number s m (-(t : Int))).toInt .zero = some k := by
  unfold Ieee.Datum.toInt Ieee.Datum.integral
  simp only [Option.some.injEq]
  rw [show (-(-(t : Int))).toNat = t from by omega, show (-(t : Int)).toNat = 0 from by omega, Nat.shiftLeft_zero]
  have hc : Ieee.Toward.zero.cut s m t = k.natAbs := by
    unfold Ieee.Toward.cut
    simp only [Bool.toNat_false, Nat.add_zero]
    rw [Nat.shiftLeft_eq, Nat.one_mul]
    by_cases h0 : k = 0
    · subst h0; subst hm; simp
    · have hl : t ≤ m.log2 + 2 := by
        have : t ≤ m.log2 := by
          rw [Nat.le_log2 (by rw [hm]; exact Nat.mul_ne_zero (by omega) (by have := Nat.two_pow_pos t; omega))]
          rw [hm]
          exact Nat.le_mul_of_pos_left _ (by omega)
        omega
      rw [Nat.min_eq_left hl, hm, Nat.mul_div_cancel _ (Nat.two_pow_pos t)]
  rw [hc]
  have := signed_rep (k := k) (neg := s) (t := 0) (u := 0) hs
  simpa using this

theorem rep_toInt {b : Nat} {k : Int} (r : Rep b k) (h : k.natAbs < 9007199254740992) : (Ieee.double.read b).toInt .zero = some k := by
  obtain ⟨s, m, t, hr, hm, hs, ht⟩ := read_rep r h
  rw [hr]
  exact toInt_of k hm hs ht h

theorem rep_pok {b : Nat} {k : Int} (r : Rep b k) (h : k.natAbs < 9007199254740992) : pok b = (decide (-1024 ≤ k) && decide (k ≤ 1024)) ∧ (pok b = true → pn b = k) := by
  have hi := rep_inside r h
  cases hib : inside b with
  | false =>
    have : pok b = false := by unfold pok; rw [hib]; rfl
    rw [this, ← hi, hib]
    exact ⟨rfl, fun h => by cases h⟩
  | true =>
    have hp : pn b = k := by
      unfold pn
      rw [clamp_in b hib, rep_toInt r h]; rfl
    have he : eqB b = true := by
      unfold eqB
      rw [hp, order_rep (F_rep k) r h h, cmp_eq.2 rfl]; rfl
    refine ⟨?_, fun _ => hp⟩
    rw [← hi, hib]; unfold pok; rw [hib, he]; rfl

def Bd (B : Nat) (x : Int) : Prop := -(B : Int) ≤ x ∧ x ≤ B
theorem Bd.lt {B : Nat} {x : Int} (h : Bd B x) {j : Nat} (hB : B * 2 ^ j ≤ 2 ^ 43) : x.natAbs < 4503599627370496 := by
  have hp : 0 < 2 ^ j := Nat.two_pow_pos j
  have : B ≤ B * 2 ^ j := Nat.le_mul_of_pos_right _ hp
  have e : (2 : Nat) ^ 43 = 8796093022208 := by decide
  unfold Bd at h
  omega

/-- Is a number's point a place? -/
def inB (x : Int) : Bool := decide (-1024 ≤ x) && decide (x ≤ 1024)
def ptB (n : Nat) : Bool := inB (pt 41 n).1 && inB (pt 41 n).2

/-- What Point answers. -/
def PointPost (n : Nat) (w : World) (e : Ending) (w' : World) : Prop :=
  (ptB n = true ∧ ∃ b1 b2, Rep b1 (pt 41 n).1 ∧ Rep b2 (pt 41 n).2 ∧ e = .returned (.tuple #[.complex .f64 b1 b2, .int .i64 0]) ∧ w = w') ∨
  (ptB n = false ∧ e = .returned (.tuple #[.complex .f64 0 0, .int .i64 2]) ∧ w = w')

theorem point_out (n : Int) (h : n < 0 ∨ 1099511627776 < n) (w : World) :
    Calls Tryd.prog 34 #[.int .i64 n] w fun e w' => e = .returned (.tuple #[.complex .f64 0 0, .int .i64 2]) ∧ w = w' := by
  by_cases h1 : n < 0
  · go_enter Tryd.func34, Tryd.ntmps34
    go_wp2
    go_ret2
    exact ⟨rfl, rfl⟩
  · have h2 : 1099511627776 < n := by omega
    go_enter Tryd.func34, Tryd.ntmps34
    go_wp2
    go_ret2
    exact ⟨rfl, rfl⟩

/-- What holds at each round's head. -/
def PtRel (n0 : Nat) (s0 s4 s5 : Value) : Prop := ∃ (j n B : Nat) (px py wx wy : Int) (b1 b2 c1 c2 : Nat), s0 = .int .i64 n ∧ s4 = .complex .f64 b1 b2 ∧ s5 = .complex .f64 c1 c2 ∧ n < 2 ^ j ∧ n ≤ 1099511627776 ∧ B * 2 ^ j ≤ 2 ^ 43 ∧
     Rep b1 px ∧ Rep b2 py ∧ Rep c1 wx ∧ Rep c2 wy ∧ Bd B px ∧ Bd B py ∧ Bd B wx ∧ Bd B wy ∧ fx px wx wy (pt j n) = (pt 41 n0).1 ∧ fy py wx wy (pt j n) = (pt 41 n0).2

theorem rel_next (n0 j n B d : Nat) (px py wx wy : Int) (b1 b2 c1 c2 : Nat) (hd : n % 2 = d) (h0 : 0 < n) (h1 : n < 2 ^ j) (h2 : n ≤ 1099511627776) (h3 : B * 2 ^ j ≤ 2 ^ 43)
    (r1 : Rep b1 (px + (d : Int) * wx)) (r2 : Rep b2 (py + (d : Int) * wy)) (r3 : Rep c1 (-wx - wy)) (r4 : Rep c2 (wx - wy)) (B1 : Bd B px) (B2 : Bd B py) (B3 : Bd B wx) (B4 : Bd B wy)
    (hx : fx px wx wy (pt j n) = (pt 41 n0).1) (hy : fy py wx wy (pt j n) = (pt 41 n0).2) : PtRel n0 (.int .i64 ((n / 2 : Nat) : Int)) (.complex .f64 b1 b2) (.complex .f64 c1 c2) := by
  cases j with
  | zero => simp at h1; omega
  | succ j =>
    rw [Nat.pow_succ] at h1 h3
    have hd2 : d = 0 ∨ d = 1 := by omega
    refine ⟨j, n / 2, 2 * B, _, _, _, _, b1, b2, c1, c2, rfl, rfl, rfl, by omega, by omega, ?_, r1, r2, r3, r4, ?_, ?_, ?_, ?_, ?_, ?_⟩
    · calc 2 * B * 2 ^ j = B * (2 ^ j * 2) := by rw [Nat.mul_comm (2 ^ j) 2, ← Nat.mul_assoc, Nat.mul_comm B 2]
        _ ≤ 2 ^ 43 := h3
    · unfold Bd at *; rcases hd2 with rfl | rfl <;> simp <;> omega
    · unfold Bd at *; rcases hd2 with rfl | rfl <;> simp <;> omega
    · unfold Bd at *; omega
    · unfold Bd at *; omega
    · rw [fx_step, hd] at hx; exact hx
    · rw [fy_step, hd] at hy; exact hy

set_option maxHeartbeats 800000 in
set_option maxRecDepth 100000 in
theorem point_in (n0 : Nat) (hn : (n0 : Int) ≤ 1099511627776) (w : World) :
    Calls Tryd.prog 34 #[.int .i64 n0] w (PointPost n0 w) := by
  have hlt : decide ((n0 : Int) < 0) = false := by simp
  have hgt : decide ((n0 : Int) > 1099511627776) = false := by simp; omega
  go_enter Tryd.func34, Tryd.ntmps34
  go_wp2
  go_loop [0, 4, 5] (PtRel n0) (fun s0 _ _ => (intOf s0).toNat)
  case atStart =>
    have e41 : (2 : Nat) ^ 41 = 2199023255552 := by decide
    refine ⟨41, n0, 1, 0, 0, 1, 0, 0, 0, 4607182418800017408, 0, rfl, rfl, rfl, by omega, by omega, by decide, Or.inl (by decide), Or.inl (by decide), Or.inl (by decide), Or.inl (by decide), ?_, ?_, ?_, ?_, by simp [fx], by simp [fy]⟩ <;> · unfold Bd; omega
  case round =>
    obtain ⟨j, n, B, px, py, wx, wy, b1, b2, c1, c2, rfl, rfl, rfl, h1, h2, h3, r1, r2, r3, r4, B1, B2, B3, B4, hx, hy⟩ := hrel
    have l1 := B1.lt h3
    have l2 := B2.lt h3
    have l3 := B3.lt h3
    have l4 := B4.lt h3
    by_cases h0 : 0 < n
    · have HX := Lib.hid hx
      have HY := Lib.hid hy
      have R1 := Lib.hid r1
      have R2 := Lib.hid r2
      have R3 := Lib.hid r3
      have R4 := Lib.hid r4
      have H3 := Lib.hid h3
      have H1 := Lib.hid h1
      obtain ⟨d1, d2, ha, q1, q2⟩ := cadd_rep r1 r2 r3 r4 (by omega) (by omega) (by omega) (by omega)
      obtain ⟨e1, e2, hm, q3, q4⟩ := cmul_base r3 r4 l3 l4
      have Q1 := Lib.hid q1
      have Q2 := Lib.hid q2
      have Q3 := Lib.hid q3
      have Q4 := Lib.hid q4
      clear q1 q2 q3 q4 hx hy r1 r2 r3 r4 h1 h3
      have hb := i64_and1 (n : Int)
      rcases (show n % 2 = 0 ∨ n % 2 = 1 by omega) with hd | hd
      · have hd' : ((n : Int) % 2 == 1) = false := by simp; omega
        rw [← hb] at hd'
        have HD := Lib.hid hd
        clear hb hd
        go_wp2
        go_round
        case rel =>
          have := rel_next n0 j n B 0 px py wx wy b1 b2 e1 e2 HD.out h0 H1.out h2 H3.out (by simpa using R1.out) (by simpa using R2.out) Q3.out Q4.out B1 B2 B3 B4 HX.out HY.out
          simpa using this
        case measure => simp [intOf]; omega
      · have hd' : ((n : Int) % 2 == 1) = true := by simp; omega
        rw [← hb] at hd'
        have HD := Lib.hid hd
        clear hb hd
        go_wp2
        go_round
        case rel =>
          have := rel_next n0 j n B 1 px py wx wy d1 d2 e1 e2 HD.out h0 H1.out h2 H3.out (by simpa using Q1.out) (by simpa using Q2.out) Q3.out Q4.out B1 B2 B3 B4 HX.out HY.out
          simpa using this
        case measure => simp [intOf]; omega
    · obtain rfl : n = 0 := by omega
      rw [fx_end] at hx
      rw [fy_end] at hy
      subst hx hy
      obtain ⟨p1, p2⟩ := rep_pok r1 (by omega)
      obtain ⟨p3, p4⟩ := rep_pok r2 (by omega)
      have hB : ofB b1 b2 = ptB n0 := by unfold ofB ptB inB; rw [p1, p3]
      have P := Lib.hid (parts_any b1 b2)
      rw [hB] at P
      have R1 := Lib.hid r1
      have R2 := Lib.hid r2
      clear r1 r2 p1 p2 p3 p4 hB l1 l2 l3 l4 r3 r4 B1 B2 B3 B4 h3
      cases hp : ptB n0 with
      | true =>
        rw [hp] at P
        have HP := Lib.hid hp
        clear hp
        go_wp2_with fail
        refine (P.out _).mono ?_
        rintro e w1 ⟨rfl, rfl⟩
        go_wp2
        go_ret2
        exact Or.inl ⟨HP.out, _, _, R1.out, R2.out, rfl, rfl⟩
      | false =>
        rw [hp] at P
        have HP := Lib.hid hp
        clear hp
        go_wp2_with fail
        refine (P.out _).mono ?_
        rintro e w1 ⟨rfl, rfl⟩
        go_wp2
        go_ret2
        exact Or.inr ⟨HP.out, rfl, rfl⟩
end Go.Proofs.YtpfebfckolbnmaaDoor.Far

/- The document's Point, walked. -/
namespace Go.Proofs.YtpfebfckolbnmaaDoor.Far
open Go.RowKit Go.Proofs.YtpfebfckolbnmaaDoor.FI Go.Proofs.YtpfebfckolbnmaaDoor.PM

theorem in_any (x : Int) (w : World) : Calls Tryd.prog 39 #[.int .i64 x] w fun e w' => e = .returned (.bool (inB x)) ∧ w = w' := by
  unfold inB
  by_cases h1 : -1024 ≤ x
  · by_cases h2 : x ≤ 1024
    · rw [decide_eq_true h1, decide_eq_true h2]
      go_enter Tryd.func39, Tryd.ntmps39
      go_wp2
      go_ret
      exact ⟨rfl, rfl⟩
    · rw [decide_eq_true h1, decide_eq_false h2]
      go_enter Tryd.func39, Tryd.ntmps39
      go_wp2
      go_ret
      exact ⟨rfl, rfl⟩
  · rw [decide_eq_false h1]
    go_enter Tryd.func39, Tryd.ntmps39
    go_wp2
    go_ret
    exact ⟨rfl, rfl⟩

def Cell2 (w : World) (b : Nat) (x y : Int) : Prop := w.cell? ⟨b, 0, none⟩ = some (.int .i64 x) ∧ w.cell? ⟨b, 1, none⟩ = some (.int .i64 y) ∧ w.frozen? ⟨b, 0, none⟩ = false ∧ w.frozen? ⟨b, 1, none⟩ = false

def RefPt (n0 : Nat) (A : Nat) (w : World) (s0 : Value) (wr : World) : Prop := ∃ (j n B : Nat) (px py wx wy : Int), s0 = .int .i64 n ∧ n < 2 ^ j ∧ n ≤ 1099511627776 ∧ B * 2 ^ j ≤ 2 ^ 43 ∧
     Bd B px ∧ Bd B py ∧ Bd B wx ∧ Bd B wy ∧ fx px wx wy (pt j n) = (pt 41 n0).1 ∧ fy py wx wy (pt j n) = (pt 41 n0).2 ∧
     Cell2 wr A 0 0 ∧ Cell2 wr (A + 1) px py ∧ Cell2 wr (A + 2) wx wy ∧ Below A w wr

theorem refpt_next {n0 A : Nat} {w wr : World} {j n B d : Nat} {px py wx wy px' py' wx' wy' : Int} (hd : n % 2 = d) (h0 : 0 < n) (h1 : n < 2 ^ j) (h2 : n ≤ 1099511627776) (h3 : B * 2 ^ j ≤ 2 ^ 43)
    (B1 : Bd B px) (B2 : Bd B py) (B3 : Bd B wx) (B4 : Bd B wy) (hx : fx px wx wy (pt j n) = (pt 41 n0).1) (hy : fy py wx wy (pt j n) = (pt 41 n0).2)
    (e1 : px' = px + (d : Int) * wx) (e2 : py' = py + (d : Int) * wy) (e3 : wx' = -wx - wy) (e4 : wy' = wx - wy) (c0 : Cell2 wr A 0 0) (c1 : Cell2 wr (A + 1) px' py') (c2 : Cell2 wr (A + 2) wx' wy') (hB : Below A w wr) :
    RefPt n0 A w (.int .i64 ((n : Int) / 2)) wr := by
  subst e1 e2 e3 e4
  cases j with
  | zero => simp at h1; omega
  | succ j =>
    rw [Nat.pow_succ] at h1 h3
    have hd2 : d = 0 ∨ d = 1 := by omega
    refine ⟨j, n / 2, 2 * B, _, _, _, _, by simp, by omega, by omega, ?_, ?_, ?_, ?_, ?_, ?_, ?_, c0, c1, c2, hB⟩
    · calc 2 * B * 2 ^ j = B * (2 ^ j * 2) := by rw [Nat.mul_comm (2 ^ j) 2, ← Nat.mul_assoc, Nat.mul_comm B 2]
        _ ≤ 2 ^ 43 := h3
    · unfold Bd at *; rcases hd2 with rfl | rfl <;> simp <;> omega
    · unfold Bd at *; rcases hd2 with rfl | rfl <;> simp <;> omega
    · unfold Bd at *; omega
    · unfold Bd at *; omega
    · rw [fx_step, hd] at hx; exact hx
    · rw [fy_step, hd] at hy; exact hy

def ptAns (X Y : Int) : Int × Int × Int := if inB X && inB Y then (X, Y, 0) else (0, 0, 2)
/-- What the document's Point answers. -/
def refPt (n : Int) : Int × Int × Int := if n < 0 ∨ 1099511627776 < n then (0, 0, 2) else ptAns (pt 41 n.toNat).1 (pt 41 n.toNat).2

theorem refpoint_out (n : Int) (h : n < 0 ∨ 1099511627776 < n) (w : World) :
    Calls Tryd.prog 22 #[.int .i64 n] w fun e w' => e = .returned (.tuple #[.agg #[.int .i64 0, .int .i64 0], .int .i64 2]) ∧ Below w.heap.size w w' := by
  by_cases h1 : n < 0
  · go_enter Tryd.func22, Tryd.ntmps22
    go_wp2
    exact bodyPost_ret (v := .tuple #[.agg #[.int .i64 0, .int .i64 0], .int .i64 2]) (by simp [results, Tryd.results22, go_sem]) rfl ⟨rfl, (Below.refl _ _).alloc (Nat.le_refl _) _⟩
  · have h2 : 1099511627776 < n := by omega
    go_enter Tryd.func22, Tryd.ntmps22
    go_wp2
    exact bodyPost_ret (v := .tuple #[.agg #[.int .i64 0, .int .i64 0], .int .i64 2]) (by simp [results, Tryd.results22, go_sem]) rfl ⟨rfl, (Below.refl _ _).alloc (Nat.le_refl _) _⟩

set_option maxRecDepth 100000 in
set_option maxHeartbeats 800000 in
theorem refpoint_in (n0 : Nat) (hn : (n0 : Int) ≤ 1099511627776) (w : World) :
    Calls Tryd.prog 22 #[.int .i64 n0] w fun e w' => e = .returned (.tuple #[.agg #[.int .i64 (ptAns (pt 41 n0).1 (pt 41 n0).2).1, .int .i64 (ptAns (pt 41 n0).1 (pt 41 n0).2).2.1], .int .i64 (ptAns (pt 41 n0).1 (pt 41 n0).2).2.2]) ∧ Below w.heap.size w w' := by
  have hlt : decide ((n0 : Int) < 0) = false := by simp
  have hgt : decide ((n0 : Int) > 1099511627776) = false := by simp; omega
  go_enter Tryd.func22, Tryd.ntmps22
  go_wp2
  go_loopw [0] (RefPt n0 w.heap.size w) (fun s0 _ => (intOf s0).toNat)
  case atStart =>
    have e41 : (2 : Nat) ^ 41 = 2199023255552 := by decide
    refine ⟨41, n0, 1, 0, 0, 1, 0, rfl, by omega, by omega, by decide, ?_, ?_, ?_, ?_, by simp [fx], by simp [fy], ?_, ?_, ?_, (((Below.refl _ _).alloc (Nat.le_refl _) _).alloc (by simp) _).alloc (by simp; omega) _⟩
    any_goals (unfold Bd; omega)
    all_goals exact ⟨by simp [go_sem], by simp [go_sem], by simp [go_sem], by simp [go_sem]⟩
  case round =>
    obtain ⟨j, n, B, px, py, wx, wy, rfl, h1, h2, h3, B1, B2, B3, B4, hx, hy, ⟨a0, a1, a2, a3⟩, ⟨b0, b1, b2, b3⟩, ⟨c0, c1, c2, c3⟩, hB⟩ := hrel
    have l1 := B1.lt h3
    have l2 := B2.lt h3
    have l3 := B3.lt h3
    have l4 := B4.lt h3
    have HX := Lib.hid hx
    have HY := Lib.hid hy
    have H3 := Lib.hid h3
    have H1 := Lib.hid h1
    have HBel := Lib.hid hB
    clear hx hy h1 h3 hB
    by_cases h0 : 0 < n
    · rcases (show n % 2 = 0 ∨ n % 2 = 1 by omega) with hd | hd
      · have hd' : ((n : Int) % 2 == 1) = false := by simp; omega
        have HD := Lib.hid hd
        clear hd
        go_wp2
        go_roundw
        case rel =>
          refine refpt_next HD.out h0 H1.out h2 H3.out B1 B2 B3 B4 HX.out HY.out (by simp; rfl) (by simp; rfl) rfl rfl ⟨?_, ?_, ?_, ?_⟩ ⟨?_, ?_, ?_, ?_⟩ ⟨?_, ?_, ?_, ?_⟩ ((HBel.out.setCell (by simp <;> omega) _).setCell (by simp <;> omega) _)
          all_goals simp [go_sem, *]
        case measure => simp [intOf]; omega
      · have hd' : ((n : Int) % 2 == 1) = true := by simp; omega
        have HD := Lib.hid hd
        clear hd
        go_wp2
        go_roundw
        case rel =>
          refine refpt_next HD.out h0 H1.out h2 H3.out B1 B2 B3 B4 HX.out HY.out (by simp; rfl) (by simp; rfl) rfl rfl ⟨?_, ?_, ?_, ?_⟩ ⟨?_, ?_, ?_, ?_⟩ ⟨?_, ?_, ?_, ?_⟩ ((((HBel.out.setCell (by simp <;> omega) _).setCell (by simp <;> omega) _).setCell (by simp <;> omega) _).setCell (by simp <;> omega) _)
          all_goals simp [go_sem, *]
        case measure => simp [intOf]; omega
    · obtain rfl : n = 0 := by omega
      have hx := HX.out
      have hy := HY.out
      rw [fx_end] at hx
      rw [fy_end] at hy
      clear HX HY
      have hfin : ptAns (pt 41 n0).1 (pt 41 n0).2 = ptAns px py := by rw [← hx, ← hy]
      have HF := Lib.hid hfin
      clear hfin hx hy
      have P1 := Lib.hid (in_any px)
      have P2 := Lib.hid (in_any py)
      cases hi : inB px with
      | false =>
        rw [hi] at P1
        have e1 : ptAns px py = (0, 0, 2) := by unfold ptAns; rw [hi]; rfl
        have HE := Lib.hid e1
        clear e1 hi
        go_wp2_with fail
        refine (P1.out _).mono ?_
        rintro e w1 ⟨rfl, rfl⟩
        go_wp2
        exact bodyPost_ret (v := .tuple #[.agg #[.int .i64 0, .int .i64 0], .int .i64 2]) (by simp [results, Tryd.results22, go_sem, *]) rfl ⟨by rw [HF.out, HE.out], by repeat (first | exact HBel.out | refine Below.setCell ?_ (by simp <;> omega) _)⟩
      | true =>
        cases hj : inB py with
        | false =>
          rw [hi] at P1
          rw [hj] at P2
          have e1 : ptAns px py = (0, 0, 2) := by unfold ptAns; rw [hi, hj]; rfl
          have HE := Lib.hid e1
          clear e1 hi hj
          go_wp2_with fail
          refine (P1.out _).mono ?_
          rintro e w1 ⟨rfl, rfl⟩
          go_wp2_with fail
          refine (P2.out _).mono ?_
          rintro e w1 ⟨rfl, rfl⟩
          go_wp2
          exact bodyPost_ret (v := .tuple #[.agg #[.int .i64 0, .int .i64 0], .int .i64 2]) (by simp [results, Tryd.results22, go_sem, *]) rfl ⟨by rw [HF.out, HE.out], by repeat (first | exact HBel.out | refine Below.setCell ?_ (by simp <;> omega) _)⟩
        | true =>
          rw [hi] at P1
          rw [hj] at P2
          have e1 : ptAns px py = (px, py, 0) := by unfold ptAns; rw [hi, hj]; rfl
          have HE := Lib.hid e1
          clear e1 hi hj
          go_wp2_with fail
          refine (P1.out _).mono ?_
          rintro e w1 ⟨rfl, rfl⟩
          go_wp2_with fail
          refine (P2.out _).mono ?_
          rintro e w1 ⟨rfl, rfl⟩
          go_wp2
          exact bodyPost_ret (v := .tuple #[.agg #[.int .i64 px, .int .i64 py], .int .i64 0]) (by simp [results, Tryd.results22, go_sem, *]) rfl ⟨by rw [HF.out, HE.out], by repeat (first | exact HBel.out | refine Below.setCell ?_ (by simp <;> omega) _)⟩

theorem refpoint_any (n : Int) (w : World) :
    Calls Tryd.prog 22 #[.int .i64 n] w fun e w' => e = .returned (.tuple #[.agg #[.int .i64 (refPt n).1, .int .i64 (refPt n).2.1], .int .i64 (refPt n).2.2]) ∧ Below w.heap.size w w' := by
  by_cases h : n < 0 ∨ 1099511627776 < n
  · unfold refPt
    rw [if_pos h]
    exact refpoint_out n h w
  · unfold refPt
    rw [if_neg h]
    have := refpoint_in n.toNat (by omega) w
    rw [show ((n.toNat : Nat) : Int) = n from by omega] at this
    exact this
end Go.Proofs.YtpfebfckolbnmaaDoor.Far

/- The law PlanePoints, walked: every Point, and every Number of any two floats. -/
namespace Go.Proofs.YtpfebfckolbnmaaDoor.Far
open Go.RowKit Go.Proofs.YtpfebfckolbnmaaDoor.FI Go.Proofs.YtpfebfckolbnmaaDoor.PM

/-- What Point answers, beside the document's answer. -/
def PtBeside (n : Int) (w : World) (e : Ending) (w' : World) : Prop :=
  ∃ b1 b2, Rep b1 (refPt n).1 ∧ Rep b2 (refPt n).2.1 ∧ e = .returned (.tuple #[.complex .f64 b1 b2, .int .i64 (refPt n).2.2]) ∧ w = w'

theorem point_any (n : Int) (w : World) : Calls Tryd.prog 34 #[.int .i64 n] w (PtBeside n w) := by
  by_cases h : n < 0 ∨ 1099511627776 < n
  · refine (point_out n h w).mono ?_
    rintro e w' ⟨rfl, rfl⟩
    have e1 : refPt n = (0, 0, 2) := by unfold refPt; rw [if_pos h]
    exact ⟨0, 0, by rw [e1]; exact Or.inl (by decide), by rw [e1]; exact Or.inl (by decide), by rw [e1], rfl⟩
  · have := point_in n.toNat (by omega) w
    rw [show ((n.toNat : Nat) : Int) = n from by omega] at this
    refine this.mono ?_
    rintro e w' (⟨h1, b1, b2, r1, r2, rfl, rfl⟩ | ⟨h1, rfl, rfl⟩)
    · have e1 : refPt n = ((pt 41 n.toNat).1, (pt 41 n.toNat).2, 0) := by unfold refPt; rw [if_neg h]; unfold ptAns; unfold ptB at h1; rw [h1]; rfl
      exact ⟨b1, b2, by rw [e1]; exact r1, by rw [e1]; exact r2, by rw [e1], rfl⟩
    · have e1 : refPt n = (0, 0, 2) := by unfold refPt; rw [if_neg h]; unfold ptAns; unfold ptB at h1; rw [h1]; rfl
      exact ⟨0, 0, by rw [e1]; exact Or.inl (by decide), by rw [e1]; exact Or.inl (by decide), by rw [e1], rfl⟩

theorem inB_bounds {x : Int} (h : inB x = true) : -1024 ≤ x ∧ x ≤ 1024 := by unfold inB at h; simpa using h

theorem refPt_bounds (n : Int) : (-1024 ≤ (refPt n).1 ∧ (refPt n).1 ≤ 1024) ∧ (-1024 ≤ (refPt n).2.1 ∧ (refPt n).2.1 ≤ 1024) := by
  unfold refPt
  split
  · simp
  · unfold ptAns
    split
    · rename_i h
      rw [Bool.and_eq_true] at h
      exact ⟨inB_bounds h.1, inB_bounds h.2⟩
    · simp

end Go.Proofs.YtpfebfckolbnmaaDoor.Far

/- Slices that read as lists; append of any of them onto a row of the call's own. -/
namespace Go.Proofs.YtpfebfckolbnmaaDoor.Rd
open Go.RowKit

theorem block_of_add (a : Addr) (n : Nat) : (a.add n).block = a.block := by unfold Addr.add; split <;> rfl
theorem add_of_add (a : Addr) (i j : Nat) : (a.add i).add j = a.add (i + j) := by
  unfold Addr.add
  by_cases hi : i = 0 <;> by_cases hj : j = 0 <;> simp [hi, hj, Nat.add_assoc]

def Reads (w : World) (B size : Nat) (A : Option Addr) (n : Nat) (xs : List Value) : Prop :=
  xs.length = n * size ∧ (0 < n → ∃ ad, A = some ad ∧ ad.block < B ∧ ∀ j u, xs[j]? = some u → w.cell? (ad.add j) = some u)

section
variable {w w' : World} {B B' size n : Nat} {A : Option Addr} {xs : List Value}
theorem Reads.none_ : Reads w B size A 0 [] := ⟨by simp, fun h => absurd h (by omega)⟩
theorem Reads.at_ {k : Nat} (h : Reads w B 1 A n xs) (hk : k < n) : ∃ ad u, A = some ad ∧ ad.block < B ∧ xs[k]? = some u ∧ w.cell? (ad.add k) = some u := by
  obtain ⟨ad, e, hb, hc⟩ := h.2 (by omega)
  have hl : k < xs.length := by have := h.1; omega
  exact ⟨ad, xs[k], e, hb, List.getElem?_eq_getElem hl, hc k _ (List.getElem?_eq_getElem hl)⟩
theorem Reads.keep (h : Reads w B size A n xs) (hk : ∀ p : Addr, p.block < B → w'.cell? p = w.cell? p) : Reads w' B size A n xs :=
  ⟨h.1, fun hn => by
    obtain ⟨ad, e, hb, hc⟩ := h.2 hn
    exact ⟨ad, e, hb, fun j u hu => (hk _ (by rw [block_of_add]; exact hb)).trans (hc j u hu)⟩⟩
theorem Reads.more (h : Reads w B size A n xs) (hB : B ≤ B') : Reads w B' size A n xs :=
  ⟨h.1, fun hn => by
    obtain ⟨ad, e, hb, hc⟩ := h.2 hn
    exact ⟨ad, e, by omega, hc⟩⟩
theorem Reads.below (h : Reads w B size A n xs) (hb : Below B w w') : Reads w' B size A n xs := h.keep fun _ hp => hb.cell hp
theorem Reads.drew (h : Reads w B size A n xs) : Reads w.drew B size A n xs := h
theorem Reads.drewN (h : Reads w B size A n xs) (k : Nat) : Reads (w.drewN k) B size A n xs := h
theorem Reads.alloc (h : Reads w B size A n xs) (hB : B ≤ w.heap.size) (o : Obj) : Reads (w.alloc o) B size A n xs := h.keep fun p hp => World.cell?_alloc_lt w o p (by omega)
theorem Reads.setCell (h : Reads w B size A n xs) {p : Addr} (hB : B ≤ p.block) (u : Value) : Reads (w.setCell p u) B size A n xs :=
  h.keep fun q hq => World.cell?_setCell_other w p q u (fun e => by subst e; omega)
theorem Reads.grown (h : Reads w B size A n xs) {row : Option Nat} (hg : w.grownBy w' row) (hB : B ≤ w.heap.size) (hr : ∀ g, row = some g → B ≤ g) : Reads w' B size A n xs :=
  h.keep fun p hp => World.cell?_of_block (hg.block p.block (by omega) (fun e => by have := hr _ e.symm; omega))
theorem Reads.cut (h : Reads w B size A n xs) {k cap : Nat} (hk : k ≤ n) (hc : n ≤ cap) :
    Reads w B size (if cap = k then A else A.map (·.add (k * size))) (n - k) (xs.drop (k * size)) := by
  refine ⟨by rw [List.length_drop, h.1, Nat.sub_mul], fun hn => ?_⟩
  obtain ⟨ad, rfl, hb, hcell⟩ := h.2 (by omega)
  rw [if_neg (by omega)]
  refine ⟨ad.add (k * size), rfl, by rw [block_of_add]; exact hb, fun j u hu => ?_⟩
  rw [add_of_add]
  exact hcell _ u (by rw [← hu, List.getElem?_drop])
theorem Reads.of_own {base : Nat} {e : TypeId} {c : Nat} (h : w.ownsRow base e size (.slice A n c) n xs) : Reads w w.heap.size size A n xs := by
  refine ⟨h.1, fun hn => ?_⟩
  obtain ⟨g, cap, hv, _, hlt⟩ := h.form hn
  have hA : A = some ⟨g, 0, none⟩ := by injection hv
  subst hA
  exact ⟨_, rfl, hlt, h.cells (g := g) rfl⟩
end

section
variable {P : Program} (w : World)

theorem run_append_of_nil (base : Nat) (t ty e : TypeId) (i : TypeInfo) (size : Nat) (ht : P.underlying t = some (.slice e)) (hi : P.info? e = some i)
    (v : Value) (n : Nat) (xs : List Value) (hown : w.ownsRow base e size v n xs) (c : Nat) : (Builtin.append_ #[t, t] ty #[v, .slice none 0 c]).run P w = .ok v w := by
  rcases hown.2 with ⟨rfl, rfl⟩ | ⟨g, cap, cur, rfl, _, _, hnc, _⟩
  · simp [Builtin.append_, run_underlying ht, sizeOf, typeInfo, hi, Builtin.lenOf, Builtin.firstCells]
  · simp [Builtin.append_, run_underlying ht, sizeOf, typeInfo, hi, Builtin.lenOf, Builtin.firstCells, hnc, storeCells]

theorem run_append_any (base : Nat) (t ty e : TypeId) (i : TypeInfo) (z : Value) (size bytes : Nat) (ht : P.underlying t = some (.slice e)) (hi : P.info? e = some i) (hz : i.zero = some z)
    (hsize : i.size = size) (hby : i.bytes = bytes) (hzs : z.cells.size = size) (hsz : 0 < size)
    (v : Value) (n : Nat) (xs : List Value) (hown : w.ownsRow base e size v n xs)
    (B : Nat) (A : Option Addr) (m c : Nat) (news : List Value) (hr : Reads w B size A m news) (h1 : ∀ u ∈ news, u.oneCell' = true)
    (h63 : n + m ≤ maxLen) (hbytes : (n + m) * bytes ≤ 140737488355328) (hbase : base ≤ w.heap.size) :
    ∃ v' w', (Builtin.append_ #[t, t] ty #[v, .slice A m c]).run P w = .ok v' w' ∧ w'.ownsRow base e size v' (n + m) (xs ++ news) ∧ w.grownBy w' v.ownBlock ∧
      (v'.ownBlock = v.ownBlock ∨ v'.ownBlock = some w.heap.size) := by
  rcases A with _ | ad
  · have hm : m = 0 := by
      rcases Nat.eq_zero_or_pos m with h0 | h0
      · exact h0
      · obtain ⟨ad, h, _⟩ := hr.2 h0
        cases h
    subst hm
    have hn : news = [] := List.eq_nil_of_length_eq_zero (by simpa using hr.1)
    subst hn
    exact ⟨v, w, run_append_of_nil w base t ty e i size ht hi v n xs hown c, by simpa using hown, World.grownBy.refl w _, .inl rfl⟩
  · have hcells : ∀ j u, news[j]? = some u → w.cell? (ad.add j) = some u := by
      intro j u hu
      rcases Nat.eq_zero_or_pos m with h0 | h0
      · subst h0
        have hn : news = [] := List.eq_nil_of_length_eq_zero (by simpa using hr.1)
        subst hn
        simp at hu
      · obtain ⟨ad', h, _, hc⟩ := hr.2 h0
        injection h with h
        subst h
        exact hc j u hu
    obtain ⟨v', w', hrun, h2, h3, _, h5⟩ := run_append_own_at (P := P) w base t ty e i z size bytes ht hi hz hsize hby hzs hsz v n xs hown ad m c news hr.1 hcells h1 h63 hbytes hbase
    exact ⟨v', w', hrun, h2, h3, h5⟩

theorem wp_append_any {o : Oper} {a : Act} {K : Act → World → Prop} {Q : Exit → Act → World → Prop} (s x : Operand) (t : TypeId)
    (ho : o.op = .call { callee := .builtin .append, args := #[s, x], argTypes := #[t, t] })
    (base : Nat) (e : TypeId) (i : TypeInfo) (z : Value) (size bytes : Nat) (ht : P.underlying t = some (.slice e)) (hi : P.info? e = some i) (hz : i.zero = some z)
    (hsize : i.size = size) (hby : i.bytes = bytes) (hzs : z.cells.size = size) (hsz : 0 < size)
    (v : Value) (n : Nat) (xs : List Value) (hs : a.eval s = v) (hown : w.ownsRow base e size v n xs)
    (B : Nat) (A : Option Addr) (m c : Nat) (news : List Value) (hx : a.eval x = .slice A m c) (hr : Reads w B size A m news) (h1 : ∀ u ∈ news, u.oneCell' = true)
    (h63 : n + m ≤ maxLen) (hbytes : (n + m) * bytes ≤ 140737488355328) (hbase : base ≤ w.heap.size)
    (h : ∀ v' w', w'.ownsRow base e size v' (n + m) (xs ++ news) → w.grownBy w' v.ownBlock → (v'.ownBlock = v.ownBlock ∨ v'.ownBlock = some w.heap.size) → K (a.put o.dst v') w') : o.wp P a w K Q := by
  obtain ⟨v', w', hrun, h2, h3, h4⟩ := run_append_any (P := P) w base t o.type e i z size bytes ht hi hz hsize hby hzs hsz v n xs hown B A m c news hr h1 h63 hbytes hbase
  unfold Oper.wp execOp
  simp only [ho, resolve, invoke, builtin, Sem.run_bind, Sem.run_pure, Result.andThen_ok, List.map_toArray, List.map_cons, List.map_nil, hs, hx, hrun]
  exact h v' w' h2 h3 h4

theorem wpList_append_any {ops : Array Oper} {rest : List Oper} {o : Oper} {a : Act} {Q : Exit → Act → World → Prop} (hgd : o.guard = none) (s x : Operand) (t : TypeId)
    (ho : o.op = .call { callee := .builtin .append, args := #[s, x], argTypes := #[t, t] })
    (base : Nat) (e : TypeId) (i : TypeInfo) (z : Value) (size bytes : Nat) (ht : P.underlying t = some (.slice e)) (hi : P.info? e = some i) (hz : i.zero = some z)
    (hsize : i.size = size) (hby : i.bytes = bytes) (hzs : z.cells.size = size) (hsz : 0 < size)
    (v : Value) (n : Nat) (xs : List Value) (hs : a.eval s = v) (hown : w.ownsRow base e size v n xs)
    (B : Nat) (A : Option Addr) (m c : Nat) (news : List Value) (hx : a.eval x = .slice A m c) (hr : Reads w B size A m news) (h1 : ∀ u ∈ news, u.oneCell' = true)
    (h63 : n + m ≤ maxLen) (hbytes : (n + m) * bytes ≤ 140737488355328) (hbase : base ≤ w.heap.size)
    (h : ∀ v' w', w'.ownsRow base e size v' (n + m) (xs ++ news) → w.grownBy w' v.ownBlock → (v'.ownBlock = v.ownBlock ∨ v'.ownBlock = some w.heap.size) → wpList P ops Q rest (a.put o.dst v') w') : wpList P ops Q (o :: rest) a w :=
  wpList_plain hgd fun _ hK => wp_append_any w s x t ho base e i z size bytes ht hi hz hsize hby hzs hsz v n xs hs hown B A m c news hx hr h1 h63 hbytes hbase fun v' w' h2 h3 h4 => hK _ _ (h v' w' h2 h3 h4)

theorem step_append_any {ops : Array Oper} {o : Oper} {a : Act} {K : Act → World → Prop} {Q : Exit → Act → World → Prop} {E : Prop} (hgd : o.guard = none) (s x : Operand) (t : TypeId)
    (ho : o.op = .call { callee := .builtin .append, args := #[s, x], argTypes := #[t, t] })
    (base : Nat) (e : TypeId) (i : TypeInfo) (z : Value) (size bytes : Nat) (ht : P.underlying t = some (.slice e)) (hi : P.info? e = some i) (hz : i.zero = some z)
    (hsize : i.size = size) (hby : i.bytes = bytes) (hzs : z.cells.size = size) (hsz : 0 < size)
    (v : Value) (n : Nat) (xs : List Value) (hs : a.eval s = v) (hown : w.ownsRow base e size v n xs)
    (B : Nat) (A : Option Addr) (m c : Nat) (news : List Value) (hx : a.eval x = .slice A m c) (hr : Reads w B size A m news) (h1 : ∀ u ∈ news, u.oneCell' = true)
    (h63 : n + m ≤ maxLen) (hbytes : (n + m) * bytes ≤ 140737488355328) (hbase : base ≤ w.heap.size)
    (h : ∀ v' w', w'.ownsRow base e size v' (n + m) (xs ++ news) → w.grownBy w' v.ownBlock → (v'.ownBlock = v.ownBlock ∨ v'.ownBlock = some w.heap.size) → K (a.put o.dst v') w') :
    if Region.wanted o (yielded ops a.tmps) = true then Oper.wp P o a w K Q else E := by
  have hw : Region.wanted o (yielded ops a.tmps) = true := by simp [Region.wanted, hgd]
  rw [if_pos hw]
  exact wp_append_any w s x t ho base e i z size bytes ht hi hz hsize hby hzs hsz v n xs hs hown B A m c news hx hr h1 h63 hbytes hbase h
end
end Go.Proofs.YtpfebfckolbnmaaDoor.Rd

/- Rows of the call's own, rows that read as numbers. -/
namespace Go.Proofs.YtpfebfckolbnmaaDoor.Sta
open Go.RowKit Go.Lib Go.Proofs.YtpfebfckolbnmaaDoor.Rd Go.Proofs.YtpfebfckolbnmaaDoor.Far

/-- A slice reads as these numbers. -/
def IntsIn (w : World) (B : Nat) (A : Option Addr) (l : List Int) : Prop :=
  0 < l.length → ∃ b o, A = some ⟨b, o, none⟩ ∧ b < B ∧ ∀ (i : Nat) (x : Int), l[i]? = some x → w.cell? ⟨b, o + i, none⟩ = some (.int .i64 x)
theorem IntsIn.below {w w' : World} {B : Nat} {A : Option Addr} {l : List Int} (h : IntsIn w B A l) (hb : Below B w w') : IntsIn w' B A l := fun hl => by
  obtain ⟨b, o, rfl, hB, hc⟩ := h hl
  exact ⟨b, o, rfl, hB, fun i x hx => (hb.cell (p := ⟨b, o + i, none⟩) hB).trans (hc i x hx)⟩
theorem IntsIn.more {w : World} {B B' : Nat} {A : Option Addr} {l : List Int} (h : IntsIn w B A l) (hb : B ≤ B') : IntsIn w B' A l := fun hl => by
  obtain ⟨b, o, rfl, hB, hc⟩ := h hl
  exact ⟨b, o, rfl, by omega, hc⟩

section
variable {w : World} {base : Nat} {e : TypeId} {size g n cap : Nat} {xs : List Value}
theorem own_bounds (h : w.ownsRow base e size (.slice (some ⟨g, 0, none⟩) n cap) n xs) : base ≤ g ∧ g < w.heap.size ∧ n ≤ cap ∧ cap ≤ maxLen := by
  have h1 := World.ownsRow.lt h g rfl
  rcases h.2 with ⟨h', _⟩ | ⟨g', cap', cur, h', _, _, h2, h3, _⟩
  · simp at h'
  · simp only [Value.slice.injEq, Option.some.injEq, Addr.mk.injEq, and_true, true_and] at h'
    obtain ⟨_, rfl⟩ := h'
    exact ⟨h1.1, h1.2, h2, h3⟩
theorem own_shrink (h : w.ownsRow base e size (.slice (some ⟨g, 0, none⟩) n cap) n xs) {k : Nat} (hk : k ≤ n) : w.ownsRow base e size (.slice (some ⟨g, 0, none⟩) k cap) k (xs.take (k * size)) := by
  have hm : k * size ≤ n * size := Nat.mul_le_mul_right size hk
  rcases h.2 with ⟨h', _⟩ | ⟨g', cap', cur, h', hb, hg, h2, h3, h4, h5⟩
  · simp at h'
  · simp only [Value.slice.injEq, Option.some.injEq, Addr.mk.injEq, and_true, true_and] at h'
    obtain ⟨rfl, rfl⟩ := h'
    refine ⟨by rw [List.length_take, h.1, Nat.min_eq_left hm], .inr ⟨g, cap, cur, rfl, hb, hg, by omega, h3, h4, ?_⟩⟩
    rw [← h5, List.take_take, Nat.min_eq_left hm]
theorem own_form {v : Value} (h : w.ownsRow base e size v n xs) : ∃ A c, v = .slice A n c := by
  rcases h.2 with ⟨h', rfl⟩ | ⟨g, c, _, h', _⟩
  · exact ⟨none, 0, h'⟩
  · exact ⟨_, _, h'⟩
theorem own_below {w' : World} {v : Value} (h : w.ownsRow base e size v n xs) (hB : Below w.heap.size w w') : w'.ownsRow base e size v n xs := by
  refine ⟨h.1, ?_⟩
  rcases h.2 with h0 | ⟨g, c, cur, h1, h2, h3, h4⟩
  · exact .inl h0
  · exact .inr ⟨g, c, cur, h1, h2, (hB.block g (Array.getElem?_eq_some_iff.1 h3).1).trans h3, h4⟩
end
theorem one_int (k : Int) : ∀ u ∈ [Value.int .i64 k], u.oneCell' = true := by
  intro u hu
  rw [List.mem_singleton] at hu
  subst hu
  rfl
theorem new_int (w : World) (u : Value) : ∀ j v, [u][j]? = some v → (w.alloc (.cells #[u] 3)).cell? ((⟨w.heap.size, 0, none⟩ : Addr).add j) = some v := by
  intro j v h
  match j, h with
  | 0, h => cases h; simp [go_sem, Addr.add]

theorem refPt_err (n : Int) : (refPt n).2.2 = 0 ∨ (refPt n).2.2 = 2 := by
  unfold refPt ptAns
  split
  · exact .inr rfl
  · split
    · exact .inl rfl
    · exact .inr rfl
end Go.Proofs.YtpfebfckolbnmaaDoor.Sta
