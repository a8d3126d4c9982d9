/- The chapter's examples and the law AgeNext, walked. -/
import Derived.Test.YtmmaolhmhdjldaaDoorTextW
import Derived.Test.YtmmaolhmhdjldaaDoorAgeCore
namespace Go.Proofs.YtmmaolhmhdjldaaDoor.AgeW
open Go.RowKit Go.Proofs.YtmmaolhmhdjldaaDoor.NT Go.Proofs.YtmmaolhmhdjldaaDoor.AgeC

theorem num_any (e : Int) (w : World) : Calls Tryd.prog 9 #[.int .i64 e] w fun r w' => r = .returned (.int .i64 e) ∧ w = w' := by
  go_enter Tryd.func9, Tryd.ntmps9
  go_wp2
  go_ret
  exact ⟨rfl, rfl⟩

/-- May Next answer? -/
def nextB (s c : Int) : Bool := decide (0 ≤ s) && decide (s < 1099511627776) && decide (0 ≤ c) && decide (c < 16)

theorem next_no (s c : Int) (h : nextB s c = false) (w : World) :
    Calls Tryd.prog 8 #[.int .i64 s, .int .i64 c] w fun e w' => e = .returned (.tuple #[.agg #[.int .i64 0, .int .i64 0], .int .i64 2]) ∧ Below w.heap.size w w' := by
  have key : s < 0 ∨ (0 ≤ s ∧ 1099511627776 ≤ s) ∨ (0 ≤ s ∧ s < 1099511627776 ∧ c < 0) ∨ (0 ≤ s ∧ s < 1099511627776 ∧ 0 ≤ c ∧ 16 ≤ c) := by
    unfold nextB at h
    simp only [Bool.and_eq_false_iff, decide_eq_false_iff_not] at h
    omega
  clear h
  rcases key with h1 | ⟨h1, h2⟩ | ⟨h1, h2, h3⟩ | ⟨h1, h2, h3, h4⟩
  all_goals
    go_enter Tryd.func8, Tryd.ntmps8
    go_wp2
    exact bodyPost_ret (v := .tuple #[.agg #[.int .i64 0, .int .i64 0], .int .i64 2]) (by simp [results, Tryd.results8, go_sem]) rfl ⟨rfl, (Below.refl _ _).alloc (Nat.le_refl _) _⟩

theorem next_yes (s c : Int) (h : nextB s c = true) (w : World) :
    Calls Tryd.prog 8 #[.int .i64 s, .int .i64 c] w fun e w' => e = .returned (.tuple #[.agg #[.int .i64 (s + 1), .int .i64 c], .int .i64 0]) ∧ Below w.heap.size w w' := by
  unfold nextB at h
  simp only [Bool.and_eq_true, decide_eq_true_eq] at h
  obtain ⟨⟨⟨h1, h2⟩, h3⟩, h4⟩ := h
  go_enter Tryd.func8, Tryd.ntmps8
  go_wp2
  exact bodyPost_ret (v := .tuple #[.agg #[.int .i64 (s + 1), .int .i64 c], .int .i64 0]) (by simp [results, Tryd.results8, go_sem]) rfl ⟨rfl, (Below.refl _ _).alloc (Nat.le_refl _) _⟩

/-- Is an identity well formed? -/
def good (n c : Int) : Bool := decide (1 ≤ n) && decide (n ≤ 1099511627776) && decide (0 ≤ c) && decide (c < 16)

theorem check_any (n c : Int) (w : World) :
    Calls Tryd.prog 10 #[.agg #[.int .i64 n, .int .i64 c]] w fun e w' => e = .returned (.int .i64 (if good n c then 0 else 2)) ∧ Below w.heap.size w w' := by
  cases h : good n c with
  | false =>
    have key : n < 1 ∨ (1 ≤ n ∧ 1099511627776 < n) ∨ (1 ≤ n ∧ n ≤ 1099511627776 ∧ c < 0) ∨ (1 ≤ n ∧ n ≤ 1099511627776 ∧ 0 ≤ c ∧ 16 ≤ c) := by
      unfold good at h
      simp only [Bool.and_eq_false_iff, decide_eq_false_iff_not] at h
      omega
    clear h
    rcases key with h1 | ⟨h1, h2⟩ | ⟨h1, h2, h3⟩ | ⟨h1, h2, h3, h4⟩
    all_goals
      go_enter Tryd.func10, Tryd.ntmps10
      go_wp2
      go_ret
      exact ⟨rfl, (Below.refl _ _).alloc (Nat.le_refl _) _⟩
  | true =>
    unfold good at h
    simp only [Bool.and_eq_true, decide_eq_true_eq] at h
    obtain ⟨⟨⟨h1, h2⟩, h3⟩, h4⟩ := h
    go_enter Tryd.func10, Tryd.ntmps10
    go_wp2
    go_ret
    exact ⟨rfl, (Below.refl _ _).alloc (Nat.le_refl _) _⟩

/-- Two cells of a block, and that the block is there. -/
structure Two (b : Nat) (x y : Int) (w : World) : Prop where
  lt : b < w.heap.size
  c0 : w.cell? ⟨b, 0, none⟩ = some (.int .i64 x)
  c1 : w.cell? ⟨b, 1, none⟩ = some (.int .i64 y)
theorem Two.below {b : Nat} {x y : Int} {w w' : World} (h : Two b x y w) (hb : Below w.heap.size w w') : Two b x y w' :=
  ⟨Nat.lt_of_lt_of_le h.lt hb.size, by rw [hb.cell (p := ⟨b, 0, none⟩) h.lt]; exact h.c0, by rw [hb.cell (p := ⟨b, 1, none⟩) h.lt]; exact h.c1⟩
theorem Two.new (w : World) (x y : Int) (t : TypeId) : Two w.heap.size x y (w.alloc (.cells #[.int .i64 x, .int .i64 y] t)) := ⟨by simp, by simp [go_sem], by simp [go_sem]⟩

theorem bstep {W A B : World} (h1 : Below W.heap.size W A) (h2 : Below A.heap.size A B) : Below W.heap.size W B := h1.trans (h2.mono h1.size)

theorem text_12 : (⟨(Lib.itoa 12 ++ [46] ++ Lib.itoa 0).toArray⟩ : ByteArray) = ⟨#[49, 50, 46, 48]⟩ := by
  have : Lib.itoa 12 ++ [46] ++ Lib.itoa 0 = [49, 50, 46, 48] := by decide +kernel
  rw [this]

set_option maxHeartbeats 1600000 in
theorem works_any (w : World) (htab : Tab w) (hsz : 4 ≤ w.heap.size) : Calls Tryd.prog 7 #[] w fun e w' => e = .returned (.bool true) ∧ Below w.heap.size w w' := by
  have N := Lib.hid (next_yes 7 2 (by decide))
  have C1 := Lib.hid (compare_any 3 9 4 0)
  have C2 := Lib.hid (compare_any 3 9 3 0)
  have T := Lib.hid (fun w => text_any 12 0 (by unfold inI; omega) (by unfold inI; omega) w)
  rw [show ageCmp 3 9 4 0 = -1 from by decide] at C1
  rw [show ageCmp 3 9 3 0 = 1 from by decide] at C2
  rw [text_12] at T
  have HT := Lib.hid htab
  clear htab
  go_enter Tryd.func7, Tryd.ntmps7
  go_wp2_with fail
  refine (N.out _).mono ?_
  rintro e w1 ⟨rfl, hb1⟩
  have B1 := Lib.hid (hb1.alloc hb1.size (.cells #[.int .i64 8, .int .i64 2] 23))
  have D1 := Lib.hid (Two.new w1 8 2 23)
  clear hb1
  go_wp2_with fail
  refine (C1.out _).mono ?_
  rintro e w2 ⟨rfl, hb2⟩
  have B2 := Lib.hid (bstep B1.out hb2)
  have D2 := Lib.hid (D1.out.below hb2)
  clear hb2 B1 D1
  go_wp2_with fail
  refine (C2.out _).mono ?_
  rintro e w3 ⟨rfl, hb3⟩
  have B3 := Lib.hid (bstep B2.out hb3)
  have D3 := Lib.hid (D2.out.below hb3)
  clear hb3 B2 D2
  go_wp2_with fail
  refine (T.out _ (tab_below HT.out B3.out hsz) (Nat.le_trans hsz B3.out.size)).mono ?_
  rintro e w4 ⟨rfl, hb4⟩
  have B4 := Lib.hid (bstep B3.out hb4)
  have hD := D3.out.below hb4
  clear hb4 B3 D3
  have d0 := hD.c0
  have d1 := hD.c1
  go_wp2_with fail
  refine (num_any 0 _).mono ?_
  rintro e w5 ⟨rfl, rfl⟩
  go_wp2
  go_ret
  exact ⟨rfl, B4.out⟩

/-- The law AgeNext. -/
def overB (m s : Int) : Bool := decide (m > s)

theorem cmp_next (s c m k : Int) (h : m ≤ s) : ageCmp (s + 1) c m k = 1 := by
  unfold ageCmp
  rw [if_neg (by omega), if_pos (by omega)]

theorem good_next (s c : Int) (h : nextB s c = true) : good (s + 1) c = true := by
  unfold nextB at h
  unfold good
  simp only [Bool.and_eq_true, decide_eq_true_eq] at h ⊢
  omega

set_option maxHeartbeats 1600000 in
theorem next_walk (s c m k : Int) (_h1 : (Lit.int .i64 s).wf = true) (_h2 : (Lit.int .i64 c).wf = true) (_h3 : (Lit.int .i64 m).wf = true) (_h4 : (Lit.int .i64 k).wf = true) (w : World) (htab : Tab w) (hsz : 4 ≤ w.heap.size) :
    Calls Tryd.prog 3 #[.int .i64 s, .int .i64 c, .agg #[.int .i64 m, .int .i64 k]] w fun e w' => e = .returned (.bool true) ∧ Below w.heap.size w w' := by
  have HT := Lib.hid htab
  have HW := Lib.hid works_any
  clear htab
  cases hn : nextB s c with
  | false =>
    have N := Lib.hid (next_no s c hn)
    clear hn
    go_enter Tryd.func3, Tryd.ntmps3
    go_wp2_with fail
    refine (HW.out _ (tab_alloc HT.out _ hsz) (by simp; omega)).mono ?_
    rintro e w1 ⟨rfl, hb1⟩
    have B1 := Lib.hid (bstep ((Below.refl w.heap.size w).alloc (Nat.le_refl _) _) hb1)
    clear hb1
    go_wp2_with fail
    refine (N.out _).mono ?_
    rintro e w2 ⟨rfl, hb2⟩
    have B2 := Lib.hid (bstep B1.out hb2)
    clear hb2 B1
    go_wp2_with fail
    refine (num_any 2 _).mono ?_
    rintro e w3 ⟨rfl, rfl⟩
    go_wp2
    go_ret
    exact ⟨rfl, B2.out.alloc B2.out.size _⟩
  | true =>
    have N := Lib.hid (next_yes s c hn)
    have G := good_next s c hn
    have K := check_any (s + 1) c
    rw [G] at K
    simp only [if_true] at K
    have K := Lib.hid K
    have M := Lib.hid (compare_any (s + 1) c m k)
    have HC := Lib.hid (cmp_next s c m k)
    clear hn G
    go_enter Tryd.func3, Tryd.ntmps3
    go_wp2_with fail
    refine (HW.out _ (tab_alloc HT.out _ hsz) (by simp; omega)).mono ?_
    rintro e w1 ⟨rfl, hb1⟩
    have B1 := Lib.hid (bstep ((Below.refl w.heap.size w).alloc (Nat.le_refl _) _) hb1)
    have D1 := Lib.hid ((Two.new w m k 23).below hb1)
    clear hb1
    go_wp2_with fail
    refine (N.out _).mono ?_
    rintro e w2 ⟨rfl, hb2⟩
    have B2 := Lib.hid ((bstep B1.out hb2).alloc ((bstep B1.out hb2).size) (.cells #[.int .i64 (s + 1), .int .i64 c] 23))
    have D2 := Lib.hid ((D1.out.below hb2).below ((Below.refl w2.heap.size w2).alloc (Nat.le_refl _) (.cells #[.int .i64 (s + 1), .int .i64 c] 23)))
    have E2 := Lib.hid (Two.new w2 (s + 1) c 23)
    clear hb2 B1 D1
    go_wp2_with fail
    refine (num_any 0 _).mono ?_
    rintro e w3 ⟨rfl, rfl⟩
    have hsz2 := D2.out.lt
    have e0 := E2.out.c0
    have e1 := E2.out.c1
    go_wp2_with fail
    refine (K.out _).mono ?_
    rintro e w4 ⟨rfl, hb4⟩
    have B4 := Lib.hid (bstep B2.out hb4)
    have D4 := Lib.hid (D2.out.below hb4)
    have E4 := Lib.hid (E2.out.below hb4)
    clear hb4 B2 D2 E2 e0 e1 hsz2
    go_wp2_with fail
    refine (num_any 0 _).mono ?_
    rintro e w5 ⟨rfl, rfl⟩
    have d0 := D4.out.c0
    have d1 := D4.out.c1
    have e0 := E4.out.c0
    have e1 := E4.out.c1
    by_cases ho : m > s
    · go_wp2
      go_ret
      exact ⟨rfl, B4.out⟩
    · have hc' := HC.out (by omega)
      rw [hc'] at M
      have ho' : decide (m > s) = false := decide_eq_false ho
      clear hc'
      go_wp2_with fail
      refine (M.out _).mono ?_
      rintro e w6 ⟨rfl, hb6⟩
      have B6 := Lib.hid (bstep B4.out hb6)
      clear hb6
      go_wp2
      go_ret
      exact ⟨rfl, B6.out⟩

theorem next_laid (s c m k : Int) (h1 : (Lit.int .i64 s).wf = true) (h2 : (Lit.int .i64 c).wf = true) (h3 : (Lit.int .i64 m).wf = true) (h4 : (Lit.int .i64 k).wf = true) (w : World) (htab : Tab w) :
    Calls Tryd.prog 3 #[.int .i64 s, .int .i64 c, .agg #[.int .i64 m, .int .i64 k]] w fun e w' => e = .returned (.bool true) ∧ Below w.heap.size w w' :=
  next_walk s c m k h1 h2 h3 h4 w htab htab.size
end Go.Proofs.YtmmaolhmhdjldaaDoor.AgeW
