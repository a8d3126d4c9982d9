/- The law AgeBack, walked. -/
import Derived.Test.YtmmaolhmhdjldaaDoorParseW
namespace Go.Proofs.YtmmaolhmhdjldaaDoor.AgeW
open Go.RowKit Go.Proofs.YtmmaolhmhdjldaaDoor.NT Go.Proofs.YtmmaolhmhdjldaaDoor.AgeC

/-- The text of an identity, parsed. -/
theorem parse_text (n c : Int) (h1 : inI n) (h2 : inI c) (w : World) (E : Env w) :
    Calls Tryd.prog 12 #[.string ⟨(Lib.itoa n ++ [46] ++ Lib.itoa c).toArray⟩] w fun e w' => e = .returned (.tuple #[.agg #[.int .i64 (if good n c then n else 0), .int .i64 (if good n c then c else 0)], .int .i64 (if good n c then 0 else 2)]) ∧ Below w.heap.size w w' := by
  have l1 := Lib.itoa_length_le n h1.1 h1.2
  have l2 := Lib.itoa_length_le c h2.1 h2.2
  have K := parse_any ⟨(Lib.itoa n ++ [46] ++ Lib.itoa c).toArray⟩ (by simp [ByteArray.size]; omega) w E
  have e0 : (⟨(Lib.itoa n ++ [46] ++ Lib.itoa c).toArray⟩ : ByteArray).data.toList = Lib.itoa n ++ [46] ++ Lib.itoa c := rfl
  rw [e0] at K
  unfold ansN ansC ansE ansB at K
  rw [twoB_text n c h1 h2, fst_text n c h1, snd_text n c h2] at K
  simpa using K

/-- What a second Parse answers: refused, or that text and well formed. -/
theorem ans_cases (s : ByteArray) : (ansN s.data.toList = 0 ∧ ansC s.data.toList = 0 ∧ (ansE s.data.toList = 2 ∨ ansE s.data.toList = 3)) ∨
    (inI (ansN s.data.toList) ∧ inI (ansC s.data.toList) ∧ ansE s.data.toList = 0 ∧ good (ansN s.data.toList) (ansC s.data.toList) = true ∧ (⟨(Lib.itoa (ansN s.data.toList) ++ [46] ++ Lib.itoa (ansC s.data.toList)).toArray⟩ : ByteArray) = s) := by
  have hb := two_back s.data.toList
  unfold ansN ansC ansE ansB
  generalize twoB s.data.toList = t at hb ⊢
  generalize hf : fstN s.data.toList = a at hb ⊢
  generalize hg : sndN s.data.toList = b at hb ⊢
  cases t with
  | false => left; simp
  | true =>
    obtain ⟨b1, b2, b3⟩ := hb rfl
    cases hG : good a b with
    | false => left; simp
    | true =>
      right
      simp only [Bool.true_and, if_true]
      exact ⟨b1, b2, trivial, hG, bytes_of s _ b3.symm⟩

theorem inI_of {n : Int} (h : (Lit.int .i64 n).wf = true) : inI n := by
  have e1 : IntKind.i64.min = -9223372036854775808 := rfl
  have e2 : IntKind.i64.max = 9223372036854775807 := rfl
  simp [Lit.wf, e1, e2] at h
  exact h

set_option maxHeartbeats 4000000 in
theorem back_walk (n c : Int) (s : ByteArray) (h1 : inI n) (h2 : inI c) (hs : s.size < 4294967281) (w : World) (E : Env w) :
    Calls Tryd.prog 6 #[.agg #[.int .i64 n, .int .i64 c], .string s] w fun e w' => e = .returned (.bool true) ∧ Below w.heap.size w w' := by
  have HE := Lib.hid E
  clear E
  have HW := Lib.hid works_any
  have T0 := text_any n c h1 h2
  have P1 := parse_text n c h1 h2
  have C0 := check_any n c
  have P2 := parse_any s hs
  have hc := ans_cases s
  generalize (⟨(Lib.itoa n ++ [46] ++ Lib.itoa c).toArray⟩ : ByteArray) = tx at T0 P1
  have T := Lib.hid T0
  clear T0
  generalize good n c = g at P1 C0
  generalize ansN s.data.toList = x at P2 hc
  generalize ansC s.data.toList = y at P2 hc
  generalize ansE s.data.toList = z at P2 hc
  have hc : (x = 0 ∧ y = 0 ∧ (z = 2 ∨ z = 3)) ∨ (z = 0 ∧ (∀ w, Tab w → 4 ≤ w.heap.size → Calls Tryd.prog 14 #[.agg #[.int .i64 x, .int .i64 y]] w fun e w' => e = .returned (.string s) ∧ Below w.heap.size w w') ∧ ∀ w, Calls Tryd.prog 10 #[.agg #[.int .i64 x, .int .i64 y]] w fun e w' => e = .returned (.int .i64 0) ∧ Below w.heap.size w w') := by
    rcases hc with ⟨hx, hy, hz⟩ | ⟨b1, b2, hz, hg, ht⟩
    · exact Or.inl ⟨hx, hy, hz⟩
    · refine Or.inr ⟨hz, ?_, ?_⟩
      · have := text_any x y b1 b2
        rw [ht] at this
        exact this
      · have := check_any x y
        rw [hg] at this
        exact this
  rcases hc with ⟨rfl, rfl, hz⟩ | ⟨rfl, T2, C2⟩
  · rcases hz with rfl | rfl
    · cases g
      · simp at P1 C0
        have Q1 := Lib.hid P1
        have K0 := Lib.hid C0
        have Q2 := Lib.hid P2
        clear P1 C0 P2
        go_enter Tryd.func6, Tryd.ntmps6
        go_wp2_with fail
        have E0 := Lib.hid (HE.out.below ((Below.refl _ _).alloc (Nat.le_refl _) (.cells #[.int .i64 n, .int .i64 c] 23)))
        refine (HW.out _ E0.out.tab E0.out.size).mono ?_
        rintro e w1 ⟨rfl, hb1⟩
        have E1 := Lib.hid (E0.out.below hb1)
        have B1 := Lib.hid (bstep ((Below.refl w.heap.size w).alloc (Nat.le_refl _) _) hb1)
        have D1 := Lib.hid ((Two.new w n c 23).below hb1)
        have d0 := D1.out.c0
        have d1 := D1.out.c1
        have dl := D1.out.lt
        clear hb1 E0
        go_wp2_with fail
        refine (T.out _ E1.out.tab E1.out.size).mono ?_
        rintro e w2 ⟨rfl, hb2⟩
        have E2 := Lib.hid (E1.out.below hb2)
        have B2 := Lib.hid (bstep B1.out hb2)
        have D2 := Lib.hid (D1.out.below hb2)
        clear hb2 E1 B1 D1 d0 d1 dl
        go_wp2_with fail
        refine (Q1.out _ E2.out).mono ?_
        rintro e w3 ⟨rfl, hb3⟩
        have al := (Below.refl w3.heap.size w3).alloc (Nat.le_refl _) (.cells #[.int .i64 0, .int .i64 0] 23)
        have E3 := Lib.hid ((E2.out.below hb3).below al)
        have B3 := Lib.hid (bstep (bstep B2.out hb3) al)
        have D3 := Lib.hid ((D2.out.below hb3).below al)
        have F3 := Lib.hid (Two.new w3 0 0 23)
        have d0 := (D2.out.below hb3).c0
        have d1 := (D2.out.below hb3).c1
        have dl := (D2.out.below hb3).lt
        clear hb3 E2 B2 D2 al
        go_wp2_with fail
        refine (K0.out _).mono ?_
        rintro e w4 ⟨rfl, hb4⟩
        have E4 := Lib.hid (E3.out.below hb4)
        have B4 := Lib.hid (bstep B3.out hb4)
        have D4 := Lib.hid (D3.out.below hb4)
        have F4 := Lib.hid (F3.out.below hb4)
        clear hb4 E3 B3 D3 F3 d0 d1 dl
        have d0 := D4.out.c0
        have d1 := D4.out.c1
        have dl := D4.out.lt
        have e0 := F4.out.c0
        have e1 := F4.out.c1
        have el := F4.out.lt
        go_wp2_with fail
        refine (num_any _ _).mono ?_
        rintro e w5 ⟨rfl, rfl⟩
        go_wp2_with fail
        refine (num_any _ _).mono ?_
        rintro e w5 ⟨rfl, rfl⟩
        go_wp2_with fail
        clear d0 d1 dl e0 e1 el
        refine (Q2.out _ E4.out).mono ?_
        rintro e w5 ⟨rfl, hb5⟩
        have al := (Below.refl w5.heap.size w5).alloc (Nat.le_refl _) (.cells #[.int .i64 0, .int .i64 0] 23)
        have E5 := Lib.hid ((E4.out.below hb5).below al)
        have B5 := Lib.hid (bstep (bstep B4.out hb5) al)
        have G5 := Lib.hid (Two.new w5 0 0 23)
        clear hb5 al E4 B4 D4 F4
        go_wp2_with fail
        refine (num_any _ _).mono ?_
        rintro e w6 ⟨rfl, rfl⟩
        go_wp2_with fail
        go_ret
        exact ⟨rfl, B5.out⟩
      · simp at P1 C0
        have Q1 := Lib.hid P1
        have K0 := Lib.hid C0
        have Q2 := Lib.hid P2
        clear P1 C0 P2
        go_enter Tryd.func6, Tryd.ntmps6
        go_wp2_with fail
        have E0 := Lib.hid (HE.out.below ((Below.refl _ _).alloc (Nat.le_refl _) (.cells #[.int .i64 n, .int .i64 c] 23)))
        refine (HW.out _ E0.out.tab E0.out.size).mono ?_
        rintro e w1 ⟨rfl, hb1⟩
        have E1 := Lib.hid (E0.out.below hb1)
        have B1 := Lib.hid (bstep ((Below.refl w.heap.size w).alloc (Nat.le_refl _) _) hb1)
        have D1 := Lib.hid ((Two.new w n c 23).below hb1)
        have d0 := D1.out.c0
        have d1 := D1.out.c1
        have dl := D1.out.lt
        clear hb1 E0
        go_wp2_with fail
        refine (T.out _ E1.out.tab E1.out.size).mono ?_
        rintro e w2 ⟨rfl, hb2⟩
        have E2 := Lib.hid (E1.out.below hb2)
        have B2 := Lib.hid (bstep B1.out hb2)
        have D2 := Lib.hid (D1.out.below hb2)
        clear hb2 E1 B1 D1 d0 d1 dl
        go_wp2_with fail
        refine (Q1.out _ E2.out).mono ?_
        rintro e w3 ⟨rfl, hb3⟩
        have al := (Below.refl w3.heap.size w3).alloc (Nat.le_refl _) (.cells #[.int .i64 n, .int .i64 c] 23)
        have E3 := Lib.hid ((E2.out.below hb3).below al)
        have B3 := Lib.hid (bstep (bstep B2.out hb3) al)
        have D3 := Lib.hid ((D2.out.below hb3).below al)
        have F3 := Lib.hid (Two.new w3 n c 23)
        have d0 := (D2.out.below hb3).c0
        have d1 := (D2.out.below hb3).c1
        have dl := (D2.out.below hb3).lt
        clear hb3 E2 B2 D2 al
        go_wp2_with fail
        refine (K0.out _).mono ?_
        rintro e w4 ⟨rfl, hb4⟩
        have E4 := Lib.hid (E3.out.below hb4)
        have B4 := Lib.hid (bstep B3.out hb4)
        have D4 := Lib.hid (D3.out.below hb4)
        have F4 := Lib.hid (F3.out.below hb4)
        clear hb4 E3 B3 D3 F3 d0 d1 dl
        have d0 := D4.out.c0
        have d1 := D4.out.c1
        have dl := D4.out.lt
        have e0 := F4.out.c0
        have e1 := F4.out.c1
        have el := F4.out.lt
        go_wp2_with fail
        refine (num_any _ _).mono ?_
        rintro e w5 ⟨rfl, rfl⟩
        go_wp2_with fail
        refine (num_any _ _).mono ?_
        rintro e w5 ⟨rfl, rfl⟩
        go_wp2_with fail
        clear d0 d1 dl e0 e1 el
        refine (Q2.out _ E4.out).mono ?_
        rintro e w5 ⟨rfl, hb5⟩
        have al := (Below.refl w5.heap.size w5).alloc (Nat.le_refl _) (.cells #[.int .i64 0, .int .i64 0] 23)
        have E5 := Lib.hid ((E4.out.below hb5).below al)
        have B5 := Lib.hid (bstep (bstep B4.out hb5) al)
        have G5 := Lib.hid (Two.new w5 0 0 23)
        clear hb5 al E4 B4 D4 F4
        go_wp2_with fail
        refine (num_any _ _).mono ?_
        rintro e w6 ⟨rfl, rfl⟩
        go_wp2_with fail
        go_ret
        exact ⟨rfl, B5.out⟩
    · cases g
      · simp at P1 C0
        have Q1 := Lib.hid P1
        have K0 := Lib.hid C0
        have Q2 := Lib.hid P2
        clear P1 C0 P2
        go_enter Tryd.func6, Tryd.ntmps6
        go_wp2_with fail
        have E0 := Lib.hid (HE.out.below ((Below.refl _ _).alloc (Nat.le_refl _) (.cells #[.int .i64 n, .int .i64 c] 23)))
        refine (HW.out _ E0.out.tab E0.out.size).mono ?_
        rintro e w1 ⟨rfl, hb1⟩
        have E1 := Lib.hid (E0.out.below hb1)
        have B1 := Lib.hid (bstep ((Below.refl w.heap.size w).alloc (Nat.le_refl _) _) hb1)
        have D1 := Lib.hid ((Two.new w n c 23).below hb1)
        have d0 := D1.out.c0
        have d1 := D1.out.c1
        have dl := D1.out.lt
        clear hb1 E0
        go_wp2_with fail
        refine (T.out _ E1.out.tab E1.out.size).mono ?_
        rintro e w2 ⟨rfl, hb2⟩
        have E2 := Lib.hid (E1.out.below hb2)
        have B2 := Lib.hid (bstep B1.out hb2)
        have D2 := Lib.hid (D1.out.below hb2)
        clear hb2 E1 B1 D1 d0 d1 dl
        go_wp2_with fail
        refine (Q1.out _ E2.out).mono ?_
        rintro e w3 ⟨rfl, hb3⟩
        have al := (Below.refl w3.heap.size w3).alloc (Nat.le_refl _) (.cells #[.int .i64 0, .int .i64 0] 23)
        have E3 := Lib.hid ((E2.out.below hb3).below al)
        have B3 := Lib.hid (bstep (bstep B2.out hb3) al)
        have D3 := Lib.hid ((D2.out.below hb3).below al)
        have F3 := Lib.hid (Two.new w3 0 0 23)
        have d0 := (D2.out.below hb3).c0
        have d1 := (D2.out.below hb3).c1
        have dl := (D2.out.below hb3).lt
        clear hb3 E2 B2 D2 al
        go_wp2_with fail
        refine (K0.out _).mono ?_
        rintro e w4 ⟨rfl, hb4⟩
        have E4 := Lib.hid (E3.out.below hb4)
        have B4 := Lib.hid (bstep B3.out hb4)
        have D4 := Lib.hid (D3.out.below hb4)
        have F4 := Lib.hid (F3.out.below hb4)
        clear hb4 E3 B3 D3 F3 d0 d1 dl
        have d0 := D4.out.c0
        have d1 := D4.out.c1
        have dl := D4.out.lt
        have e0 := F4.out.c0
        have e1 := F4.out.c1
        have el := F4.out.lt
        go_wp2_with fail
        refine (num_any _ _).mono ?_
        rintro e w5 ⟨rfl, rfl⟩
        go_wp2_with fail
        refine (num_any _ _).mono ?_
        rintro e w5 ⟨rfl, rfl⟩
        go_wp2_with fail
        clear d0 d1 dl e0 e1 el
        refine (Q2.out _ E4.out).mono ?_
        rintro e w5 ⟨rfl, hb5⟩
        have al := (Below.refl w5.heap.size w5).alloc (Nat.le_refl _) (.cells #[.int .i64 0, .int .i64 0] 23)
        have E5 := Lib.hid ((E4.out.below hb5).below al)
        have B5 := Lib.hid (bstep (bstep B4.out hb5) al)
        have G5 := Lib.hid (Two.new w5 0 0 23)
        clear hb5 al E4 B4 D4 F4
        go_wp2_with fail
        refine (num_any _ _).mono ?_
        rintro e w6 ⟨rfl, rfl⟩
        go_wp2_with fail
        go_ret
        exact ⟨rfl, B5.out⟩
      · simp at P1 C0
        have Q1 := Lib.hid P1
        have K0 := Lib.hid C0
        have Q2 := Lib.hid P2
        clear P1 C0 P2
        go_enter Tryd.func6, Tryd.ntmps6
        go_wp2_with fail
        have E0 := Lib.hid (HE.out.below ((Below.refl _ _).alloc (Nat.le_refl _) (.cells #[.int .i64 n, .int .i64 c] 23)))
        refine (HW.out _ E0.out.tab E0.out.size).mono ?_
        rintro e w1 ⟨rfl, hb1⟩
        have E1 := Lib.hid (E0.out.below hb1)
        have B1 := Lib.hid (bstep ((Below.refl w.heap.size w).alloc (Nat.le_refl _) _) hb1)
        have D1 := Lib.hid ((Two.new w n c 23).below hb1)
        have d0 := D1.out.c0
        have d1 := D1.out.c1
        have dl := D1.out.lt
        clear hb1 E0
        go_wp2_with fail
        refine (T.out _ E1.out.tab E1.out.size).mono ?_
        rintro e w2 ⟨rfl, hb2⟩
        have E2 := Lib.hid (E1.out.below hb2)
        have B2 := Lib.hid (bstep B1.out hb2)
        have D2 := Lib.hid (D1.out.below hb2)
        clear hb2 E1 B1 D1 d0 d1 dl
        go_wp2_with fail
        refine (Q1.out _ E2.out).mono ?_
        rintro e w3 ⟨rfl, hb3⟩
        have al := (Below.refl w3.heap.size w3).alloc (Nat.le_refl _) (.cells #[.int .i64 n, .int .i64 c] 23)
        have E3 := Lib.hid ((E2.out.below hb3).below al)
        have B3 := Lib.hid (bstep (bstep B2.out hb3) al)
        have D3 := Lib.hid ((D2.out.below hb3).below al)
        have F3 := Lib.hid (Two.new w3 n c 23)
        have d0 := (D2.out.below hb3).c0
        have d1 := (D2.out.below hb3).c1
        have dl := (D2.out.below hb3).lt
        clear hb3 E2 B2 D2 al
        go_wp2_with fail
        refine (K0.out _).mono ?_
        rintro e w4 ⟨rfl, hb4⟩
        have E4 := Lib.hid (E3.out.below hb4)
        have B4 := Lib.hid (bstep B3.out hb4)
        have D4 := Lib.hid (D3.out.below hb4)
        have F4 := Lib.hid (F3.out.below hb4)
        clear hb4 E3 B3 D3 F3 d0 d1 dl
        have d0 := D4.out.c0
        have d1 := D4.out.c1
        have dl := D4.out.lt
        have e0 := F4.out.c0
        have e1 := F4.out.c1
        have el := F4.out.lt
        go_wp2_with fail
        refine (num_any _ _).mono ?_
        rintro e w5 ⟨rfl, rfl⟩
        go_wp2_with fail
        refine (num_any _ _).mono ?_
        rintro e w5 ⟨rfl, rfl⟩
        go_wp2_with fail
        clear d0 d1 dl e0 e1 el
        refine (Q2.out _ E4.out).mono ?_
        rintro e w5 ⟨rfl, hb5⟩
        have al := (Below.refl w5.heap.size w5).alloc (Nat.le_refl _) (.cells #[.int .i64 0, .int .i64 0] 23)
        have E5 := Lib.hid ((E4.out.below hb5).below al)
        have B5 := Lib.hid (bstep (bstep B4.out hb5) al)
        have G5 := Lib.hid (Two.new w5 0 0 23)
        clear hb5 al E4 B4 D4 F4
        go_wp2_with fail
        refine (num_any _ _).mono ?_
        rintro e w6 ⟨rfl, rfl⟩
        go_wp2_with fail
        go_ret
        exact ⟨rfl, B5.out⟩
  · cases g
    · simp at P1 C0
      have Q1 := Lib.hid P1
      have K0 := Lib.hid C0
      have Q2 := Lib.hid P2
      have U2 := Lib.hid T2
      have K2 := Lib.hid C2
      clear P1 C0 P2 T2 C2
      go_enter Tryd.func6, Tryd.ntmps6
      go_wp2_with fail
      have E0 := Lib.hid (HE.out.below ((Below.refl _ _).alloc (Nat.le_refl _) (.cells #[.int .i64 n, .int .i64 c] 23)))
      refine (HW.out _ E0.out.tab E0.out.size).mono ?_
      rintro e w1 ⟨rfl, hb1⟩
      have E1 := Lib.hid (E0.out.below hb1)
      have B1 := Lib.hid (bstep ((Below.refl w.heap.size w).alloc (Nat.le_refl _) _) hb1)
      have D1 := Lib.hid ((Two.new w n c 23).below hb1)
      have d0 := D1.out.c0
      have d1 := D1.out.c1
      have dl := D1.out.lt
      clear hb1 E0
      go_wp2_with fail
      refine (T.out _ E1.out.tab E1.out.size).mono ?_
      rintro e w2 ⟨rfl, hb2⟩
      have E2 := Lib.hid (E1.out.below hb2)
      have B2 := Lib.hid (bstep B1.out hb2)
      have D2 := Lib.hid (D1.out.below hb2)
      clear hb2 E1 B1 D1 d0 d1 dl
      go_wp2_with fail
      refine (Q1.out _ E2.out).mono ?_
      rintro e w3 ⟨rfl, hb3⟩
      have al := (Below.refl w3.heap.size w3).alloc (Nat.le_refl _) (.cells #[.int .i64 0, .int .i64 0] 23)
      have E3 := Lib.hid ((E2.out.below hb3).below al)
      have B3 := Lib.hid (bstep (bstep B2.out hb3) al)
      have D3 := Lib.hid ((D2.out.below hb3).below al)
      have F3 := Lib.hid (Two.new w3 0 0 23)
      have d0 := (D2.out.below hb3).c0
      have d1 := (D2.out.below hb3).c1
      have dl := (D2.out.below hb3).lt
      clear hb3 E2 B2 D2 al
      go_wp2_with fail
      refine (K0.out _).mono ?_
      rintro e w4 ⟨rfl, hb4⟩
      have E4 := Lib.hid (E3.out.below hb4)
      have B4 := Lib.hid (bstep B3.out hb4)
      have D4 := Lib.hid (D3.out.below hb4)
      have F4 := Lib.hid (F3.out.below hb4)
      clear hb4 E3 B3 D3 F3 d0 d1 dl
      have d0 := D4.out.c0
      have d1 := D4.out.c1
      have dl := D4.out.lt
      have e0 := F4.out.c0
      have e1 := F4.out.c1
      have el := F4.out.lt
      go_wp2_with fail
      refine (num_any _ _).mono ?_
      rintro e w5 ⟨rfl, rfl⟩
      go_wp2_with fail
      refine (num_any _ _).mono ?_
      rintro e w5 ⟨rfl, rfl⟩
      go_wp2_with fail
      clear d0 d1 dl e0 e1 el
      refine (Q2.out _ E4.out).mono ?_
      rintro e w5 ⟨rfl, hb5⟩
      have al := (Below.refl w5.heap.size w5).alloc (Nat.le_refl _) (.cells #[.int .i64 x, .int .i64 y] 23)
      have E5 := Lib.hid ((E4.out.below hb5).below al)
      have B5 := Lib.hid (bstep (bstep B4.out hb5) al)
      have G5 := Lib.hid (Two.new w5 x y 23)
      clear hb5 al E4 B4 D4 F4
      go_wp2_with fail
      refine (num_any _ _).mono ?_
      rintro e w6 ⟨rfl, rfl⟩
      go_wp2_with fail
      refine (num_any _ _).mono ?_
      rintro e w6 ⟨rfl, rfl⟩
      go_wp2_with fail
      refine (U2.out _ E5.out.tab E5.out.size).mono ?_
      rintro e w6 ⟨rfl, hb6⟩
      have B6 := Lib.hid (bstep B5.out hb6)
      have G6 := Lib.hid (G5.out.below hb6)
      have g0 := G6.out.c0
      have g1 := G6.out.c1
      have gl := G6.out.lt
      clear hb6 B5 G5 E5
      go_wp2_with fail
      refine (K2.out _).mono ?_
      rintro e w7 ⟨rfl, hb7⟩
      have B7 := Lib.hid (bstep B6.out hb7)
      clear hb7 B6 G6 g0 g1 gl
      go_wp2_with fail
      refine (num_any _ _).mono ?_
      rintro e w8 ⟨rfl, rfl⟩
      go_wp2
      go_ret
      exact ⟨rfl, B7.out⟩
    · simp at P1 C0
      have Q1 := Lib.hid P1
      have K0 := Lib.hid C0
      have Q2 := Lib.hid P2
      have U2 := Lib.hid T2
      have K2 := Lib.hid C2
      clear P1 C0 P2 T2 C2
      go_enter Tryd.func6, Tryd.ntmps6
      go_wp2_with fail
      have E0 := Lib.hid (HE.out.below ((Below.refl _ _).alloc (Nat.le_refl _) (.cells #[.int .i64 n, .int .i64 c] 23)))
      refine (HW.out _ E0.out.tab E0.out.size).mono ?_
      rintro e w1 ⟨rfl, hb1⟩
      have E1 := Lib.hid (E0.out.below hb1)
      have B1 := Lib.hid (bstep ((Below.refl w.heap.size w).alloc (Nat.le_refl _) _) hb1)
      have D1 := Lib.hid ((Two.new w n c 23).below hb1)
      have d0 := D1.out.c0
      have d1 := D1.out.c1
      have dl := D1.out.lt
      clear hb1 E0
      go_wp2_with fail
      refine (T.out _ E1.out.tab E1.out.size).mono ?_
      rintro e w2 ⟨rfl, hb2⟩
      have E2 := Lib.hid (E1.out.below hb2)
      have B2 := Lib.hid (bstep B1.out hb2)
      have D2 := Lib.hid (D1.out.below hb2)
      clear hb2 E1 B1 D1 d0 d1 dl
      go_wp2_with fail
      refine (Q1.out _ E2.out).mono ?_
      rintro e w3 ⟨rfl, hb3⟩
      have al := (Below.refl w3.heap.size w3).alloc (Nat.le_refl _) (.cells #[.int .i64 n, .int .i64 c] 23)
      have E3 := Lib.hid ((E2.out.below hb3).below al)
      have B3 := Lib.hid (bstep (bstep B2.out hb3) al)
      have D3 := Lib.hid ((D2.out.below hb3).below al)
      have F3 := Lib.hid (Two.new w3 n c 23)
      have d0 := (D2.out.below hb3).c0
      have d1 := (D2.out.below hb3).c1
      have dl := (D2.out.below hb3).lt
      clear hb3 E2 B2 D2 al
      go_wp2_with fail
      refine (K0.out _).mono ?_
      rintro e w4 ⟨rfl, hb4⟩
      have E4 := Lib.hid (E3.out.below hb4)
      have B4 := Lib.hid (bstep B3.out hb4)
      have D4 := Lib.hid (D3.out.below hb4)
      have F4 := Lib.hid (F3.out.below hb4)
      clear hb4 E3 B3 D3 F3 d0 d1 dl
      have d0 := D4.out.c0
      have d1 := D4.out.c1
      have dl := D4.out.lt
      have e0 := F4.out.c0
      have e1 := F4.out.c1
      have el := F4.out.lt
      go_wp2_with fail
      refine (num_any _ _).mono ?_
      rintro e w5 ⟨rfl, rfl⟩
      go_wp2_with fail
      refine (num_any _ _).mono ?_
      rintro e w5 ⟨rfl, rfl⟩
      go_wp2_with fail
      clear d0 d1 dl e0 e1 el
      refine (Q2.out _ E4.out).mono ?_
      rintro e w5 ⟨rfl, hb5⟩
      have al := (Below.refl w5.heap.size w5).alloc (Nat.le_refl _) (.cells #[.int .i64 x, .int .i64 y] 23)
      have E5 := Lib.hid ((E4.out.below hb5).below al)
      have B5 := Lib.hid (bstep (bstep B4.out hb5) al)
      have G5 := Lib.hid (Two.new w5 x y 23)
      clear hb5 al E4 B4 D4 F4
      go_wp2_with fail
      refine (num_any _ _).mono ?_
      rintro e w6 ⟨rfl, rfl⟩
      go_wp2_with fail
      refine (num_any _ _).mono ?_
      rintro e w6 ⟨rfl, rfl⟩
      go_wp2_with fail
      refine (U2.out _ E5.out.tab E5.out.size).mono ?_
      rintro e w6 ⟨rfl, hb6⟩
      have B6 := Lib.hid (bstep B5.out hb6)
      have G6 := Lib.hid (G5.out.below hb6)
      have g0 := G6.out.c0
      have g1 := G6.out.c1
      have gl := G6.out.lt
      clear hb6 B5 G5 E5
      go_wp2_with fail
      refine (K2.out _).mono ?_
      rintro e w7 ⟨rfl, hb7⟩
      have B7 := Lib.hid (bstep B6.out hb7)
      clear hb7 B6 G6 g0 g1 gl
      go_wp2_with fail
      refine (num_any _ _).mono ?_
      rintro e w8 ⟨rfl, rfl⟩
      go_wp2
      go_ret
      exact ⟨rfl, B7.out⟩

theorem back_laid (n c : Int) (s : ByteArray) (h1 : (Lit.int .i64 n).wf = true) (h2 : (Lit.int .i64 c).wf = true) {P : Prop} (_h3 : P) (w : World) (E : Env w) (hs : s.size < 4294967281) :
    Calls Tryd.prog 6 #[.agg #[.int .i64 n, .int .i64 c], .string s] w fun e w' => e = .returned (.bool true) ∧ Below w.heap.size w w' :=
  back_walk n c s (inI_of h1) (inI_of h2) hs w E
end Go.Proofs.YtmmaolhmhdjldaaDoor.AgeW
