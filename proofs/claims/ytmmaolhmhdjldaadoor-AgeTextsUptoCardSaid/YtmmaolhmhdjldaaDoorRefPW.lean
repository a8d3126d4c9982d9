/- The document's ParseWhole, printed: what it computes. -/
import Derived.Test.YtmmaolhmhdjldaaDoorPAgeTextsx4
import Derived.Test.YtmmaolhmhdjldaaDoorNumText
import Derived.Lib.Strings
namespace Go.Proofs.YtmmaolhmhdjldaaDoor.RefPW
open Go.RowKit Go.Proofs.YtmmaolhmhdjldaaDoorW.PrintWords Go.Proofs.YtmmaolhmhdjldaaDoor.NT Go.Proofs.YtmmaolhmhdjldaaDoor.PAgeTexts

theorem u64w (n : Int) (h0 : 0 ≤ n) (h1 : n < 18446744073709551616) : IntKind.u64.wrap n = n := by
  have : IntKind.u64.wrap n = n % 18446744073709551616 := by simp [IntKind.wrap, IntKind.bits, IntKind.signed]
  rw [this]; omega
theorem u64neg (n : Int) (h0 : 0 < n) (h1 : n < 18446744073709551616) : IntKind.u64.wrap (-n) = 18446744073709551616 - n := by
  have : IntKind.u64.wrap (-n) = (-n) % 18446744073709551616 := by simp [IntKind.wrap, IntKind.bits, IntKind.signed]
  rw [this]; omega

theorem bt_list (s : ByteArray) (i : Nat) (c : UInt8) (r : List UInt8) (h : s.data.toList.drop i = c :: r) : i < s.size ∧ bt s (i : Int) = c.toNat ∧ s.data.toList.drop (i + 1) = r := by
  have hl : s.data.toList.length = s.size := by rw [Lib.size_eq]
  have hi : i < s.data.toList.length := by
    rcases Nat.lt_or_ge i s.data.toList.length with h1 | h1
    · exact h1
    · rw [List.drop_eq_nil_of_le h1] at h
      cases h
  have h2 := List.drop_eq_getElem_cons hi
  rw [h] at h2
  injection h2 with h3 h4
  have hs : i < s.size := by omega
  refine ⟨hs, ?_, h4.symm⟩
  unfold bt
  have e : ((i : Int)).toNat = i := by simp
  rw [dif_pos (by rw [e]; exact hs)]
  simp only [e]
  rw [h3]
  rfl

/-- The number at the end. -/
def fin (x0 x4 : ByteArray) (v : Nat) : Int := if (x4.size : Int) < (x0.size : Int) then wrap64 (IntKind.u64.wrap (-(v : Int))) else wrap64 v

theorem l0_eq (x0 x4 : ByteArray) (most : Nat) (hm9 : 9 ≤ most) (hm : most ≤ 9223372036854775808) (hsz : x4.size < 9223372036854775808) (l : List UInt8) :
    ∀ (i n k : Nat), x4.data.toList.drop i = l → n ≤ most → l.length + 1 ≤ k → bursarref02_ParseWhole.l0 k x0 x4 (most : Int) (n : Int) (i : Int) = match pwl most n l with | some v => some (fin x0 x4 v, true) | none => some (0, false) := by
  have hl : x4.data.toList.length = x4.size := by rw [Lib.size_eq]
  induction l with
  | nil =>
    intro i n k hd hn hk
    obtain ⟨k, rfl⟩ : ∃ j, k = j + 1 := ⟨k - 1, by omega⟩
    have hi : x4.size ≤ i := by
      have := List.drop_eq_nil_iff.1 hd
      omega
    unfold bursarref02_ParseWhole.l0
    rw [if_neg (by omega)]
    simp only [pwl, fin]
    split <;> rfl
  | cons c r ih =>
    intro i n k hd hn hk
    obtain ⟨k, rfl⟩ : ∃ j, k = j + 1 := ⟨k - 1, by omega⟩
    obtain ⟨h1, h2, h3⟩ := bt_list x4 i c r hd
    simp only [List.length_cons] at hk
    unfold bursarref02_ParseWhole.l0 pwl
    rw [if_pos (by omega), if_pos (by omega), h2]
    by_cases c1 : c.toNat < 48
    · rw [if_pos (by omega), if_neg (by omega)]
    · rw [if_neg (by omega)]
      by_cases c2 : 57 < c.toNat
      · rw [if_pos (by omega), if_neg (by omega)]
      · rw [if_neg (by omega)]
        have e1 : (((c.toNat : Int) - 48) % 256) = ((c.toNat - 48 : Nat) : Int) := by omega
        rw [e1, u64w ((most : Int) - ((c.toNat - 48 : Nat) : Int)) (by omega) (by omega)]
        have e2 : Int.tdiv ((most : Int) - ((c.toNat - 48 : Nat) : Int)) 10 = (((most - (c.toNat - 48)) / 10 : Nat) : Int) := by
          rw [Int.tdiv_eq_ediv_of_nonneg (by omega)]
          omega
        rw [e2, u64w _ (by omega) (by omega)]
        by_cases c3 : n ≤ (most - (c.toNat - 48)) / 10
        · rw [if_neg (by omega), if_pos ⟨by omega, by omega, c3⟩]
          have e3 : IntKind.u64.wrap (IntKind.u64.wrap ((n : Int) * 10) + ((c.toNat - 48 : Nat) : Int)) = ((st n c : Nat) : Int) := by
            rw [u64w ((n : Int) * 10) (by omega) (by omega), u64w _ (by omega) (by omega)]
            unfold st
            omega
          have e4 : wrap64 ((i : Int) + 1) = ((i + 1 : Nat) : Int) := by unfold wrap64; omega
          rw [e3, e4]
          exact ih (i + 1) (st n c) k h3 (by unfold st; omega) (by omega)
        · rw [if_pos (by omega), if_neg (by omega)]

/-- What ParseWhole answers. -/
def pv (l : List UInt8) : Int := match parse l with | some v => v | none => 0

theorem head_bt (s : ByteArray) (c : UInt8) (r : List UInt8) (h : s.data.toList = c :: r) : 0 < s.size ∧ bt s 0 = c.toNat ∧ s.data.toList.drop 1 = r := by
  have := bt_list s 0 c r (by rw [List.drop_zero]; exact h)
  simpa using this

theorem f_eq (s : ByteArray) (hsz : s.size < 9223372036854775808) (k : Nat) (hk : s.size + 5 ≤ k) : bursarref02_ParseWhole.f k s = some (pv s.data.toList, (parse s.data.toList).isSome) := by
  have hl : s.data.toList.length = s.size := by rw [Lib.size_eq]
  obtain ⟨k, rfl⟩ : ∃ j, k = j + 1 + 1 + 1 + 1 := ⟨k - 4, by omega⟩
  unfold bursarref02_ParseWhole.f
  cases hs : s.data.toList with
  | nil =>
    rw [hs] at hl
    simp only [List.length_nil] at hl
    rw [if_neg (by omega)]
    have e : s.toList = [] := by rw [ByteArray.toList_eq, hs]
    simp [bursarref02_ParseWhole.j0, bursarref02_ParseWhole.j1, bursarref02_ParseWhole.j2, e, pv, parse]
  | cons c r =>
    obtain ⟨h1, h2, h3⟩ := head_bt s c r hs
    have hc := c.toNat_lt
    rw [if_pos (by omega), if_pos (by omega), h2]
    rw [hs] at hl
    simp only [List.length_cons] at hl
    have e : s.toList = c :: r := by rw [ByteArray.toList_eq, hs]
    by_cases hcm : c = 45
    · subst hcm
      have ed : (s.extract 1 s.size).data.toList = r := by
        rw [Lib.extract_data, hs]
        show List.take (s.size - 1) r = r
        exact List.take_of_length_le (by omega)
      have ez : (s.extract 1 s.size).size = r.length := by rw [Lib.size_eq, ed]
      have et : (s.extract 1 s.size).toList = r := by rw [ByteArray.toList_eq, ed]
      have e0 : ((((45 : UInt8).toNat : Int)) == 45) = true := by decide
      rw [e0]
      rw [bursarref02_ParseWhole.j0]
      rw [if_pos rfl, if_pos (by omega)]
      rw [bursarref02_ParseWhole.j1]
      rw [et]
      cases r with
      | nil =>
        rw [if_pos rfl]
        rw [bursarref02_ParseWhole.j2]
        rw [if_pos rfl]
        simp [pv, parse]
      | cons d t =>
        obtain ⟨g1, g2, g3⟩ := head_bt _ d t ed
        rw [if_neg (by simp), if_pos (by omega), g2]
        simp only [List.length_cons] at hl ez
        by_cases hd : d = 48
        · subst hd
          rw [if_pos (by decide)]
          rw [bursarref02_ParseWhole.j2]
          rw [if_pos (by rw [decide_eq_true_eq]; omega)]
          simp [pv, parse]
        · have hd' : ¬ (d.toNat : Int) = 48 := by
            intro e
            apply hd
            apply UInt8.toNat_inj.1
            have : (48 : UInt8).toNat = 48 := rfl
            omega
          rw [if_neg hd']
          rw [bursarref02_ParseWhole.j2]
          rw [if_neg (by simp)]
          have L := l0_eq s (s.extract 1 s.size) 9223372036854775808 (by omega) (by omega) (by omega) (d :: t) 0 0 (k + 1) (by rw [List.drop_zero]; exact ed) (by omega) (by simp only [List.length_cons]; omega)
          simp only [Int.cast_ofNat_Int] at L
          have L' : bursarref02_ParseWhole.l0 (k + 1) s (s.extract 1 s.size) 9223372036854775808 0 0 = _ := L
          rw [L']
          have hp : parse (45 :: d :: t) = (pwl 9223372036854775808 0 (d :: t)).map fun (u : Nat) => -(u : Int) := by
            unfold parse
            simp only
            rw [if_pos trivial, if_neg hd]
          unfold pv
          rw [hp]
          cases hq : pwl 9223372036854775808 0 (d :: t) with
          | none => rfl
          | some v =>
            have hv := (pwl_back 9223372036854775808 (by omega) _ 0 v (by omega) hq).2.2
            have ef : fin s (s.extract 1 s.size) v = -(v : Int) := by
              unfold fin
              rw [if_pos (by omega)]
              rcases Nat.eq_zero_or_pos v with rfl | hv0
              · rw [show (-((0 : Nat) : Int)) = 0 from rfl, u64w 0 (by omega) (by omega)]
                unfold wrap64
                omega
              · rw [u64neg _ (by omega) (by omega)]
                unfold wrap64
                omega
            simp [ef]
    · have e0 : (((c.toNat : Int)) == 45) = false := by
        rw [beq_eq_false_iff_ne]
        intro e
        apply hcm
        apply UInt8.toNat_inj.1
        have : (45 : UInt8).toNat = 45 := rfl
        omega
      rw [e0]
      rw [bursarref02_ParseWhole.j0]
      rw [if_neg (by simp)]
      rw [bursarref02_ParseWhole.j1]
      rw [e, if_neg (by simp), if_pos (by omega), h2]
      by_cases hd : c = 48 ∧ r ≠ []
      · obtain ⟨rfl, hr⟩ := hd
        have : 0 < r.length := List.length_pos_iff.2 hr
        rw [if_pos (by decide)]
        rw [bursarref02_ParseWhole.j2]
        rw [if_pos (by rw [decide_eq_true_eq]; omega)]
        simp [pv, parse, hr]
      · have hj : ∀ j, (if ((c.toNat : Int)) = 48 then bursarref02_ParseWhole.j2 (j + 1) s s 9223372036854775807 (decide ((s.size : Int) > 1)) else bursarref02_ParseWhole.j2 (j + 1) s s 9223372036854775807 false) = bursarref02_ParseWhole.l0 j s s 9223372036854775807 0 0 := by
          intro j
          split
          · rename_i h48
            have hc48 : c = 48 := by
              apply UInt8.toNat_inj.1
              have : (48 : UInt8).toNat = 48 := rfl
              omega
            have hr : r = [] := by
              by_cases h : r = []
              · exact h
              · exact absurd ⟨hc48, h⟩ hd
            rw [hr] at hl
            simp only [List.length_nil] at hl
            rw [bursarref02_ParseWhole.j2]
            rw [if_neg (by simp; omega)]
          · rw [bursarref02_ParseWhole.j2, if_neg (by simp)]
        rw [hj]
        have L := l0_eq s s 9223372036854775807 (by omega) (by omega) (by omega) (c :: r) 0 0 (k + 1) (by rw [List.drop_zero]; exact hs) (by omega) (by simp only [List.length_cons]; omega)
        simp only [Int.cast_ofNat_Int] at L
        have L' : bursarref02_ParseWhole.l0 (k + 1) s s 9223372036854775807 0 0 = _ := L
        rw [L']
        have hp : parse (c :: r) = (pwl 9223372036854775807 0 (c :: r)).map fun (u : Nat) => (u : Int) := by
          unfold parse
          simp only
          rw [if_neg hcm, if_neg hd]
        unfold pv
        rw [hp]
        cases hq : pwl 9223372036854775807 0 (c :: r) with
        | none => rfl
        | some v =>
          have hv := (pwl_back 9223372036854775807 (by omega) _ 0 v (by omega) hq).2.2
          have ef : fin s s v = (v : Int) := by
            unfold fin
            rw [if_neg (by omega)]
            unfold wrap64
            omega
          simp [ef]
end Go.Proofs.YtmmaolhmhdjldaaDoor.RefPW
