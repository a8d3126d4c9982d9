/- The document's Digits, Whole, Text, walked. -/
import Derived.Test.YtmmaolhmhdjldaaDoorRefPW
import Derived.Test.YtmmaolhmhdjldaaDoorParseW
import Derived.Laws.IdiomStrings
import Derived.Deep.RegionHeld3
namespace Go.Proofs.YtmmaolhmhdjldaaDoor.RefTW
open Go.RowKit Go.Proofs.YtmmaolhmhdjldaaDoor.NT Go.Proofs.YtmmaolhmhdjldaaDoor.AgeW

/-- One digit's text. -/
def dg (x : Int) : UInt8 := UInt8.ofNat (48 + x.toNat)
theorem conv_digit (x : Int) (h : 0 ≤ x ∧ x < 10) (w : World) :
    (convert 69 9 (.slice (some ⟨w.heap.size, 0, none⟩) 1 1)).run Tryd.prog (w.alloc (.cells #[.int .u8 (48 + x)] 5)) = .ok (.string ⟨[dg x].toArray⟩) (w.alloc (.cells #[.int .u8 (48 + x)] 5)) := by
  refine run_convert_bytes_back (P := Tryd.prog) _ 69 9 5 ⟨w.heap.size, 0, none⟩ 1 [dg x] Tryd.underlying69 Tryd.underlying5 Tryd.underlying9 ?_
  intro j hj
  have : j = 0 := by simp at hj; omega
  subst this
  have e : ((dg x).toNat : Int) = 48 + x := by
    unfold dg
    rw [UInt8.toNat_ofNat']
    omega
  simp [go_sem, Addr.add, e]

/-- The digits that are still to come. -/
def pre (m : Nat) : List UInt8 := if m = 0 then [] else Lib.decDigits m
theorem pre_step (m : Int) (h : 0 < m) : pre m.toNat = pre (m / 10).toNat ++ [dg (m % 10)] := by
  have e1 : (m / 10).toNat = m.toNat / 10 := by omega
  have e2 : (m % 10).toNat = m.toNat % 10 := by omega
  unfold pre dg
  rw [if_neg (by omega), e1, e2]
  by_cases h9 : m.toNat < 10
  · rw [if_pos (by omega), Lib.decDigits_one h9, Nat.mod_eq_of_lt h9]
    rfl
  · rw [if_neg (by omega)]
    rw [Lib.decDigits, dif_neg h9]
theorem pre_first (u : Int) (h : 0 ≤ u) : pre (u / 10).toNat ++ [dg (u % 10)] = Lib.decDigits u.toNat := by
  rcases Int.lt_or_eq_of_le h with h1 | h1
  · rw [← pre_step u h1]
    unfold pre
    rw [if_neg (by omega)]
  · subst h1
    decide +kernel
theorem dec_length (k : Nat) : ∀ u, u < 10 ^ (k + 1) → (Lib.decDigits u).length ≤ k + 1 := by
  induction k with
  | zero => intro u hu; rw [Lib.decDigits_one (by omega)]; simp
  | succ k ih =>
    intro u hu
    by_cases h : u < 10
    · rw [Lib.decDigits_one h]; simp
    · rw [Lib.decDigits, dif_neg h]
      have := ih (u / 10) (by rw [Nat.pow_succ] at hu; omega)
      simp
      omega

def DigRel (D : List UInt8) (w0 : World) (v0 v3 : Value) (w : World) : Prop :=
  ∃ (m : Int) (l : List UInt8), v0 = .int .u64 m ∧ v3 = .string ⟨l.toArray⟩ ∧ 0 ≤ m ∧ m < 18446744073709551616 ∧ l.length ≤ 40 ∧ pre m.toNat ++ l = D ∧ Below w0.heap.size w0 w

set_option maxRecDepth 100000 in
theorem digits_any (u : Int) (h0 : 0 ≤ u) (hu : u < 18446744073709551616) (w : World) :
    Calls Tryd.prog 39 #[.int .u64 u] w fun e w' => e = .returned (.string ⟨(Lib.decDigits u.toNat).toArray⟩) ∧ Below w.heap.size w w' := by
  have hD := Lib.hid (pre_first u h0)
  have hL := dec_length 19 u.toNat (by omega)
  generalize Lib.decDigits u.toNat = D at hD hL ⊢
  have kc := conv_digit (u % 10) (by omega)
  go_enter Tryd.func39, Tryd.ntmps39
  go_wp2
  go_loopw [0, 3] (DigRel D w) (fun v0 _ _ => (intOf v0).toNat)
  case atStart => exact ⟨u / 10, [dg (u % 10)], rfl, rfl, by omega, by omega, by simp, hD.out, (Below.refl _ _).alloc (Nat.le_refl _) _⟩
  case round =>
    obtain ⟨m, l, rfl, rfl, hm0, hm1, hl, hp, hB⟩ := hrel
    have HP := Lib.hid hp
    have HB := Lib.hid hB
    clear hp hB
    by_cases hz : 0 < m
    · have kc := conv_digit (m % 10) (by omega)
      have q1 : (9223372036854775807 < 1 + l.length) = False := by simp; omega
      have hP' : pre (m / 10).toNat ++ (dg (m % 10) :: l) = D := by
        rw [← HP.out, pre_step m hz, List.append_assoc]
        rfl
      have hP2 := Lib.hid hP'
      have hl2 : (dg (m % 10) :: l).length ≤ 40 := by
        have := congrArg List.length hP'
        rw [List.length_append] at this
        omega
      have hl3 := Lib.hid hl2
      clear hP' hl2
      go_wp2
      go_roundw
      case rel => exact ⟨m / 10, dg (m % 10) :: l, rfl, by rw [str_app]; rfl, by omega, by omega, hl3.out, hP2.out, HB.out.alloc HB.out.size _⟩
      case measure => simp [intOf]; omega
    · have hm : m = 0 := by omega
      subst hm
      have hl0 : l = D := HP.out
      subst hl0
      go_wp2
      go_ret
      exact ⟨rfl, HB.out⟩

theorem itoa_pos (n : Int) (h : 0 ≤ n) : Lib.itoa n = Lib.decDigits n.toNat := by unfold Lib.itoa; rw [if_neg (by omega)]
theorem itoa_neg (n : Int) (h : n < 0) : Lib.itoa n = 45 :: Lib.decDigits (-n).toNat := by
  unfold Lib.itoa
  rw [if_pos h, show n.natAbs = (-n).toNat by omega]

theorem whole_any (n : Int) (h : inI n) (w : World) :
    Calls Tryd.prog 29 #[.int .i64 n] w fun e w' => e = .returned (.string ⟨(Lib.itoa n).toArray⟩) ∧ Below w.heap.size w w' := by
  unfold inI at h
  have hl := Lib.itoa_length_le n h.1 h.2
  by_cases hn : 0 ≤ n
  · rw [itoa_pos n hn]
    have K := Lib.hid (digits_any n hn (by omega))
    generalize Lib.decDigits n.toNat = D at K ⊢
    go_enter Tryd.func29, Tryd.ntmps29
    go_wp2_with fail
    refine (K.out _).mono ?_
    rintro e w1 ⟨rfl, hb⟩
    have B1 := Lib.hid hb
    clear hb
    go_wp2
    go_ret
    exact ⟨rfl, B1.out⟩
  · have hn' : n < 0 := by omega
    rw [itoa_neg n hn'] at hl ⊢
    have K := Lib.hid (digits_any (-n) (by omega) (by omega))
    generalize Lib.decDigits (-n).toNat = D at K hl ⊢
    have eu : IntKind.u64.wrap (-IntKind.u64.wrap n) = -n := by
      have a1 : ∀ x, IntKind.u64.wrap x = x % 18446744073709551616 := fun x => by simp [IntKind.wrap, IntKind.bits, IntKind.signed]
      rw [a1, a1]
      omega
    have EU := Lib.hid eu
    clear eu
    have q1 : (9223372036854775807 < 1 + D.length) = False := by simp at hl ⊢; omega
    go_enter Tryd.func29, Tryd.ntmps29
    go_wp2_with fail
    rw [EU.out]
    refine (K.out _).mono ?_
    rintro e w1 ⟨rfl, hb⟩
    have B1 := Lib.hid hb
    clear hb
    go_wp2
    go_ret
    exact ⟨ret_str (str_app [45] D), B1.out⟩

set_option maxHeartbeats 800000 in
theorem reftext_any (n c : Int) (h1 : inI n) (h2 : inI c) (w : World) (htab : Tab w) (hsz : 4 ≤ w.heap.size) :
    Calls Tryd.prog 15 #[.agg #[.int .i64 n, .int .i64 c]] w fun e w' => e = .returned (.string ⟨(Lib.itoa n ++ [46] ++ Lib.itoa c).toArray⟩) ∧ Below w.heap.size w w' := by
  have l1 := Lib.itoa_length_le n h1.1 h1.2
  have l2 := Lib.itoa_length_le c h2.1 h2.2
  have hS : TS w n c (w.alloc (.cells #[.int .i64 n, .int .i64 c] 23)) := ⟨tab_alloc htab _ hsz, by simp, (Below.refl _ _).alloc (Nat.le_refl _) _, by simp [go_sem], by simp [go_sem]⟩
  have HS := Lib.hid (hS.step (Below.refl _ _).drew hsz)
  clear htab hS
  go_enter Tryd.func15, Tryd.ntmps15
  go_wp2_with fail
  have q1 : (9223372036854775807 < (Lib.itoa n).length + 1) = False := by simp; omega
  have q2 : (9223372036854775807 < (Lib.itoa n).length + 1 + (Lib.itoa c).length) = False := by simp; omega
  go_region_held3 (fun v => v.cell? ⟨w.heap.size, 0, none⟩ = some (.int .i64 n) ∧ v.cell? ⟨w.heap.size, 1, none⟩ = some (.int .i64 c) ∧ TS w n c v) (first | (exact ⟨HS.out.c0, HS.out.c1, HS.out⟩) | (refine TSS.step (w := w) (n := n) (c := c) (by assumption) (by assumption) hsz))
    (first
      | (go_at_call_of 29 (Value.int IntKind.i64 n); refine (whole_any n h1 _).mono ?_; rintro e w' ⟨rfl, hb⟩)
      | (go_at_call_of 29 (Value.int IntKind.i64 c); refine (whole_any c h2 _).mono ?_; rintro e w' ⟨rfl, hb⟩))
  all_goals
    go_wp2
    go_ret
    exact ⟨ret_str (str_three _ _ _), TSS.below (w := w) (n := n) (c := c) (by assumption)⟩

end Go.Proofs.YtmmaolhmhdjldaaDoor.RefTW
