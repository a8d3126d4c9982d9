/- What a cluster is made of: client.Check and the document's Check, walked. -/
import Derived.Test.YtpaihfdmjkfegaaCkB
namespace Go.Proofs.Ytpaihfdmjkfegaa.Ck
open Go.RowKit Go.Lib Go.Proofs.Ytpaihfdmjkfegaa.Sta Go.Proofs.Ytpaihfdmjkfegaa.Rd Go.Proofs.Ytpaihfdmjkfegaa.Far

def within (n lo hi : Int) : Bool := decide (lo ≤ n) && decide (n ≤ hi)
theorem within_any (n lo hi : Int) (w : World) : Calls Try.prog 24 #[.int .i64 n, .int .i64 lo, .int .i64 hi] w fun e w' => e = .returned (.bool (within n lo hi)) ∧ w' = w := by
  unfold within
  by_cases h1 : lo ≤ n
  · by_cases h2 : n ≤ hi
    · rw [decide_eq_true h1, decide_eq_true h2]
      go_enter Try.func24, Try.ntmps24
      go_wp2
      go_ret
      exact ⟨rfl, rfl⟩
    · rw [decide_eq_true h1, decide_eq_false h2]
      go_enter Try.func24, Try.ntmps24
      go_wp2
      go_ret
      exact ⟨rfl, rfl⟩
  · rw [decide_eq_false h1]
    go_enter Try.func24, Try.ntmps24
    go_wp2
    go_ret
    exact ⟨rfl, rfl⟩
theorem within_yes {n lo hi : Int} : within n lo hi = true ↔ lo ≤ n ∧ n ≤ hi := by unfold within; simp
theorem within_no {n lo hi : Int} : within n lo hi = false ↔ n < lo ∨ hi < n := by unfold within; simp; omega

/-- Are the numbers where they may be? -/
def rangeB (G F C S : Int) (n : Nat) : Bool := within G 1 8 && within F 0 2 && within C 1 16 && within S 64 16384 && decide ((n : Int) = G - 1)
/-- What is wrong with what a cluster is made of. -/
def chk (G F C S : Int) (sp : List ByteArray) (pl : List Int) : Int :=
  if rangeB G F C S sp.length = false then 2 else if dirErr sp ≠ 0 then dirErr sp else if 0 < pl.length ∧ (pl.length : Int) ≠ C + G * (2 * F + 1) then 2 else if ∃ p ∈ pl, (refPt p).2.2 ≠ 0 then 2 else 0

def cfgV (G F C : Int) (v3 v4 : Value) (S : Int) : Value := .agg #[.int .i64 G, .int .i64 F, .int .i64 C, v3, v4, .int .i64 S]
/-- Where it lies. -/
structure CfgAt (w : World) (H : Nat) (G F C : Int) (v3 v4 : Value) (S : Int) : Prop where
  lt : H < w.heap.size
  c0 : w.cell? ⟨H, 0, none⟩ = some (.int .i64 G)
  c1 : w.cell? ⟨H, 1, none⟩ = some (.int .i64 F)
  c2 : w.cell? ⟨H, 2, none⟩ = some (.int .i64 C)
  c3 : w.cell? ⟨H, 3, none⟩ = some v3
  c4 : w.cell? ⟨H, 4, none⟩ = some v4
  c5 : w.cell? ⟨H, 5, none⟩ = some (.int .i64 S)
theorem CfgAt.below {w w' : World} {H : Nat} {G F C : Int} {v3 v4 : Value} {S : Int} (h : CfgAt w H G F C v3 v4 S) (hb : Below w.heap.size w w') : CfgAt w' H G F C v3 v4 S :=
  ⟨Nat.lt_of_lt_of_le h.lt hb.size, (hb.cell (p := ⟨H, 0, none⟩) h.lt).trans h.c0, (hb.cell (p := ⟨H, 1, none⟩) h.lt).trans h.c1, (hb.cell (p := ⟨H, 2, none⟩) h.lt).trans h.c2, (hb.cell (p := ⟨H, 3, none⟩) h.lt).trans h.c3, (hb.cell (p := ⟨H, 4, none⟩) h.lt).trans h.c4, (hb.cell (p := ⟨H, 5, none⟩) h.lt).trans h.c5⟩

theorem size_bound {G F : Int} (h1 : 1 ≤ G ∧ G ≤ 8) (h2 : 0 ≤ F ∧ F ≤ 2) : 0 ≤ G * (2 * F + 1) ∧ G * (2 * F + 1) ≤ 40 := by
  rcases (show F = 0 ∨ F = 1 ∨ F = 2 by omega) with rfl | rfl | rfl <;> omega

set_option maxRecDepth 100000 in
set_option maxHeartbeats 6400000 in
theorem check_any (G F C S : Int) (sp : List ByteArray) (pl : List Int) (A1 A2 : Option Addr) (c1 c2 : Nat) (w : World) (h1 : RowIn w w.heap.size A1 (sp.map sV)) (h2 : IntsIn w w.heap.size A2 pl) :
    Calls Try.prog 10 #[cfgV G F C (.slice A1 sp.length c1) (.slice A2 pl.length c2) S] w fun e w' => e = .returned (.int .i64 (chk G F C S sp pl)) ∧ Below w.heap.size w w' := by
  have HP := Lib.hid h2
  have DN := Lib.hid (fun w' (hb : Below w.heap.size w w') => dirNew_any sp A1 c1 w' ((h1.below hb).more hb.size))
  have B0 : Hid (Below w.heap.size w (w.alloc (.cells #[.int .i64 G, .int .i64 F, .int .i64 C, .slice A1 sp.length c1, .slice A2 pl.length c2, .int .i64 S] 25))) := Lib.hid ((Below.refl _ _).alloc (Nat.le_refl _) _)
  have K0 : Hid (CfgAt (w.alloc (.cells #[.int .i64 G, .int .i64 F, .int .i64 C, .slice A1 sp.length c1, .slice A2 pl.length c2, .int .i64 S] 25)) w.heap.size G F C (.slice A1 sp.length c1) (.slice A2 pl.length c2) S) := Lib.hid ⟨by simp, by simp [go_sem], by simp [go_sem], by simp [go_sem], by simp [go_sem], by simp [go_sem], by simp [go_sem]⟩
  obtain ⟨n, hn⟩ : ∃ n, n = pl.length := ⟨_, rfl⟩
  obtain ⟨m, hm⟩ : ∃ m, m = sp.length := ⟨_, rfl⟩
  rw [← hn, ← hm] at B0 K0 ⊢
  rw [← hm] at DN
  have HN := Lib.hid hn
  have HM := Lib.hid hm
  obtain ⟨r, hr⟩ : ∃ r, r = chk G F C S sp pl := ⟨_, rfl⟩
  rw [← hr]
  have HR := Lib.hid hr
  have W1 := Lib.hid (within_any G 1 8)
  have W2 := Lib.hid (within_any F 0 2)
  have W3 := Lib.hid (within_any C 1 16)
  have W4 := Lib.hid (within_any S 64 16384)
  clear h1 h2 hn hm hr
  unfold cfgV
  go_enter Try.func10, Try.ntmps10
  go_upto_region 2 with (fail)
  obtain ⟨W, hW⟩ : ∃ W, W = w.alloc (.cells #[.int .i64 G, .int .i64 F, .int .i64 C, .slice A1 m c1, .slice A2 n c2, .int .i64 S] 25) := ⟨_, rfl⟩
  obtain ⟨H, hH⟩ : ∃ H, H = w.heap.size := ⟨_, rfl⟩
  rw [← hW] at B0 K0
  rw [← hH] at K0
  try rw [← hW]
  try rw [← hH]
  clear hW hH
  have R2 : Hid (rangeB G F C S m = false → r = 2) := Lib.hid (fun h => by rw [HR.out]; unfold chk; rw [← HM.out, if_pos h])
  have k0 := K0.out.c0
  have k1 := K0.out.c1
  have k2 := K0.out.c2
  have k3 := K0.out.c3
  have k5 := K0.out.c5
  cases b1 : within G 1 8 with
  | false =>
    rw [b1] at W1
    as_aux_lemma =>
    go_wp2_with fail
    refine (W1.out _).mono ?_
    rintro e w' ⟨rfl, rfl⟩
    have er := R2.out (by unfold rangeB; rw [b1]; simp)
    go_wp2_with fail
    go_ret
    exact ⟨by rw [er]; rfl, B0.out⟩
  | true =>
    rw [b1] at W1
    cases b2 : within F 0 2 with
    | false =>
      rw [b2] at W2
      as_aux_lemma =>
      go_wp2_with fail
      refine (W1.out _).mono ?_
      rintro e w' ⟨rfl, rfl⟩
      go_wp2_with fail
      refine (W2.out _).mono ?_
      rintro e w' ⟨rfl, rfl⟩
      have er := R2.out (by unfold rangeB; rw [b1, b2]; simp)
      go_wp2_with fail
      go_ret
      exact ⟨by rw [er]; rfl, B0.out⟩
    | true =>
      rw [b2] at W2
      cases b3 : within C 1 16 with
      | false =>
        rw [b3] at W3
        as_aux_lemma =>
        go_wp2_with fail
        refine (W1.out _).mono ?_
        rintro e w' ⟨rfl, rfl⟩
        go_wp2_with fail
        refine (W2.out _).mono ?_
        rintro e w' ⟨rfl, rfl⟩
        go_wp2_with fail
        refine (W3.out _).mono ?_
        rintro e w' ⟨rfl, rfl⟩
        have er := R2.out (by unfold rangeB; rw [b1, b2, b3]; simp)
        go_wp2_with fail
        go_ret
        exact ⟨by rw [er]; rfl, B0.out⟩
      | true =>
        rw [b3] at W3
        cases b4 : within S 64 16384 with
        | false =>
          rw [b4] at W4
          as_aux_lemma =>
          go_wp2_with fail
          refine (W1.out _).mono ?_
          rintro e w' ⟨rfl, rfl⟩
          go_wp2_with fail
          refine (W2.out _).mono ?_
          rintro e w' ⟨rfl, rfl⟩
          go_wp2_with fail
          refine (W3.out _).mono ?_
          rintro e w' ⟨rfl, rfl⟩
          go_wp2_with fail
          refine (W4.out _).mono ?_
          rintro e w' ⟨rfl, rfl⟩
          have er := R2.out (by unfold rangeB; rw [b1, b2, b3, b4]; simp)
          go_wp2_with fail
          go_ret
          exact ⟨by rw [er]; rfl, B0.out⟩
        | true =>
          rw [b4] at W4
          by_cases b5 : (m : Int) = G - 1
          · have g1 := within_yes.1 b1
            have g2 := within_yes.1 b2
            have g3 := within_yes.1 b3
            have g5 := size_bound g1 g2
            have RNG : Hid (rangeB G F C S m = true) := Lib.hid (by unfold rangeB; rw [b1, b2, b3, b4, decide_eq_true b5]; rfl)
            go_wp2_with fail
            refine (W1.out _).mono ?_
            rintro e w' ⟨rfl, rfl⟩
            go_wp2_with fail
            refine (W2.out _).mono ?_
            rintro e w' ⟨rfl, rfl⟩
            go_wp2_with fail
            refine (W3.out _).mono ?_
            rintro e w' ⟨rfl, rfl⟩
            go_wp2_with fail
            refine (W4.out _).mono ?_
            rintro e w' ⟨rfl, rfl⟩
            go_wp2_with fail
            refine (DN.out _ B0.out).mono ?_
            rintro e w1 ⟨D, rfl, _, _, hb⟩
            have K1 := Lib.hid (K0.out.below hb)
            have B1 : Hid (Below w.heap.size w w1) := Lib.hid (B0.out.trans (hb.mono B0.out.size))
            obtain ⟨de, hde⟩ : ∃ de, de = dirErr sp := ⟨_, rfl⟩
            rw [← hde]
            have HDE := Lib.hid hde
            clear hb hde k0 k1 k2 k3 k5 b1 b2 b3 b4 W1 W2 W3 W4 DN K0 B0 R2
            by_cases hz : de = 0
            · subst hz
              have R3 : Hid (r = if 0 < n ∧ (n : Int) ≠ C + G * (2 * F + 1) then 2 else if ∃ p ∈ pl, (refPt p).2.2 ≠ 0 then 2 else 0) := Lib.hid (by rw [HR.out, chk, if_neg (by rw [← HM.out, RNG.out]; decide), if_neg (by rw [← HDE.out]; simp), HN.out])
              have k0 := K1.out.c0
              have k1 := K1.out.c1
              have k2 := K1.out.c2
              have k4 := K1.out.c4
              have w3 : IntKind.i64.wrap (G * (2 * F + 1)) = G * (2 * F + 1) := by rw [IntKind.wrap_i64]; omega
              have w4 : IntKind.i64.wrap (C + G * (2 * F + 1)) = C + G * (2 * F + 1) := by rw [IntKind.wrap_i64]; omega
              obtain ⟨q, hq⟩ : ∃ q, q = C + G * (2 * F + 1) := ⟨_, rfl⟩
              rw [← hq] at R3
              by_cases hbad : 0 < n ∧ (n : Int) ≠ q
              · have hn0 : (0 : Int) < (n : Int) := by omega
                have hne : ¬ (n : Int) = C + G * (2 * F + 1) := by rw [← hq]; exact hbad.2
                have er : r = 2 := by rw [R3.out, if_pos hbad]
                as_aux_lemma =>
                clear hq R3
                go_wp2_with fail
                go_ret
                exact ⟨by rw [er]; rfl, B1.out⟩
              · have R4 : Hid (r = if ∃ p ∈ pl, (refPt p).2.2 ≠ 0 then 2 else 0) := Lib.hid (by rw [R3.out, if_neg hbad])
                have go_on : Hid ((0 < n ∧ (n : Int) = C + G * (2 * F + 1)) ∨ n = 0) := Lib.hid (by rw [← hq]; omega)
                clear hbad hq R3
                rcases go_on.out with ⟨hn0, hne⟩ | hn0
                · have hn1 : (0 : Int) < (n : Int) := by omega
                  go_wp2_with fail
                  go_loopg [77] n (fun gk v77 wr => ∃ i : Nat, n - i = gk ∧ i ≤ n ∧ v77 = .int .i64 i ∧ Hid (∀ k x, k < i → pl[k]? = some x → (refPt x).2.2 = 0) ∧ wr = w1)
                  case atStart => exact ⟨0, rfl, by omega, rfl, (fun k x hk => by omega), rfl⟩
                  case round =>
                    obtain ⟨i, hg, hi, rfl, HK, rfl⟩ := hrel
                    by_cases hlt : i < n
                    · have hlt' : (i : Int) < (n : Int) := by omega
                      obtain ⟨b, o, rfl, hb, hc⟩ := HP.out (by rw [← HN.out]; omega)
                      obtain ⟨x, hx⟩ : ∃ x, pl[i]? = some x := ⟨_, List.getElem?_eq_getElem (by rw [← HN.out]; exact hlt)⟩
                      have cx := (B1.out.cell (p := ⟨b, o + i, none⟩) hb).trans (hc i x hx)
                      have HX := Lib.hid hx
                      clear hx hc hb
                      rcases refPt_err x with h0 | h2
                      · as_aux_lemma =>
                        have PX := Lib.hid (fun w => show Calls Try.prog 25 #[.int .i64 x] w fun e w' => ∃ b1 b2, e = .returned (.tuple #[.complex .f64 b1 b2, .int .i64 0]) ∧ w = w' from (point_any x w).mono (by
                          rintro e w' ⟨b1, b2, r1, r2, he, hw⟩
                          rw [h0] at he
                          exact ⟨b1, b2, he, hw⟩))
                        have H0 := Lib.hid h0
                        clear h0
                        go_wp2_with fail
                        refine (PX.out _).mono ?_
                        rintro e w2 ⟨b1, b2, rfl, rfl⟩
                        go_wp2_with fail
                        go_roundg (n - (i + 1))
                        case measure => omega
                        case rel =>
                          refine ⟨i + 1, rfl, by omega, by go_num, (fun k y hk hy => ?_), rfl⟩
                          rcases Nat.lt_or_ge k i with c | c
                          · exact HK.out k y c hy
                          · obtain rfl : k = i := by omega
                            have := HX.out
                            rw [hy] at this
                            cases this
                            exact H0.out
                      · as_aux_lemma =>
                        have PX := Lib.hid (fun w => show Calls Try.prog 25 #[.int .i64 x] w fun e w' => ∃ b1 b2, e = .returned (.tuple #[.complex .f64 b1 b2, .int .i64 2]) ∧ w = w' from (point_any x w).mono (by
                          rintro e w' ⟨b1, b2, r1, r2, he, hw⟩
                          rw [h2] at he
                          exact ⟨b1, b2, he, hw⟩))
                        have er : r = 2 := by rw [R4.out, if_pos ⟨x, List.mem_of_getElem? HX.out, by rw [h2]; decide⟩]
                        clear h2
                        go_wp2_with fail
                        refine (PX.out _).mono ?_
                        rintro e w2 ⟨b1, b2, rfl, rfl⟩
                        go_wp2
                        go_ret
                        exact ⟨by rw [er]; rfl, B1.out⟩
                    · obtain rfl : i = n := by omega
                      have hnn : decide ((i : Int) < (i : Int)) = false := decide_eq_false (by omega)
                      have er : r = 0 := by
                        rw [R4.out, if_neg]
                        rintro ⟨x, hx, hne⟩
                        obtain ⟨k, hk⟩ := List.getElem?_of_mem hx
                        exact hne (HK.out k x (by rw [HN.out]; exact (List.getElem?_eq_some_iff.1 hk).1) hk)
                      as_aux_lemma =>
                      go_wp2_with fail
                      go_ret
                      exact ⟨by rw [er]; rfl, B1.out⟩
                · have hn1 : ¬ (0 : Int) < (n : Int) := by omega
                  clear hn0
                  go_wp2_with fail
                  go_loopg [77] n (fun gk v77 wr => ∃ i : Nat, n - i = gk ∧ i ≤ n ∧ v77 = .int .i64 i ∧ Hid (∀ k x, k < i → pl[k]? = some x → (refPt x).2.2 = 0) ∧ wr = w1)
                  case atStart => exact ⟨0, rfl, by omega, rfl, (fun k x hk => by omega), rfl⟩
                  case round =>
                    obtain ⟨i, hg, hi, rfl, HK, rfl⟩ := hrel
                    by_cases hlt : i < n
                    · have hlt' : (i : Int) < (n : Int) := by omega
                      obtain ⟨b, o, rfl, hb, hc⟩ := HP.out (by rw [← HN.out]; omega)
                      obtain ⟨x, hx⟩ : ∃ x, pl[i]? = some x := ⟨_, List.getElem?_eq_getElem (by rw [← HN.out]; exact hlt)⟩
                      have cx := (B1.out.cell (p := ⟨b, o + i, none⟩) hb).trans (hc i x hx)
                      have HX := Lib.hid hx
                      clear hx hc hb
                      rcases refPt_err x with h0 | h2
                      · as_aux_lemma =>
                        have PX := Lib.hid (fun w => show Calls Try.prog 25 #[.int .i64 x] w fun e w' => ∃ b1 b2, e = .returned (.tuple #[.complex .f64 b1 b2, .int .i64 0]) ∧ w = w' from (point_any x w).mono (by
                          rintro e w' ⟨b1, b2, r1, r2, he, hw⟩
                          rw [h0] at he
                          exact ⟨b1, b2, he, hw⟩))
                        have H0 := Lib.hid h0
                        clear h0
                        go_wp2_with fail
                        refine (PX.out _).mono ?_
                        rintro e w2 ⟨b1, b2, rfl, rfl⟩
                        go_wp2_with fail
                        go_roundg (n - (i + 1))
                        case measure => omega
                        case rel =>
                          refine ⟨i + 1, rfl, by omega, by go_num, (fun k y hk hy => ?_), rfl⟩
                          rcases Nat.lt_or_ge k i with c | c
                          · exact HK.out k y c hy
                          · obtain rfl : k = i := by omega
                            have := HX.out
                            rw [hy] at this
                            cases this
                            exact H0.out
                      · as_aux_lemma =>
                        have PX := Lib.hid (fun w => show Calls Try.prog 25 #[.int .i64 x] w fun e w' => ∃ b1 b2, e = .returned (.tuple #[.complex .f64 b1 b2, .int .i64 2]) ∧ w = w' from (point_any x w).mono (by
                          rintro e w' ⟨b1, b2, r1, r2, he, hw⟩
                          rw [h2] at he
                          exact ⟨b1, b2, he, hw⟩))
                        have er : r = 2 := by rw [R4.out, if_pos ⟨x, List.mem_of_getElem? HX.out, by rw [h2]; decide⟩]
                        clear h2
                        go_wp2_with fail
                        refine (PX.out _).mono ?_
                        rintro e w2 ⟨b1, b2, rfl, rfl⟩
                        go_wp2
                        go_ret
                        exact ⟨by rw [er]; rfl, B1.out⟩
                    · obtain rfl : i = n := by omega
                      have hnn : decide ((i : Int) < (i : Int)) = false := decide_eq_false (by omega)
                      have er : r = 0 := by
                        rw [R4.out, if_neg]
                        rintro ⟨x, hx, hne⟩
                        obtain ⟨k, hk⟩ := List.getElem?_of_mem hx
                        exact hne (HK.out k x (by rw [HN.out]; exact (List.getElem?_eq_some_iff.1 hk).1) hk)
                      as_aux_lemma =>
                      go_wp2_with fail
                      go_ret
                      exact ⟨by rw [er]; rfl, B1.out⟩
            · have er : r = de := by rw [HR.out, chk, if_neg (by rw [← HM.out, RNG.out]; decide), if_pos (by rw [← HDE.out]; exact hz), ← HDE.out]
              as_aux_lemma =>
              go_wp2_with fail
              go_ret
              exact ⟨by rw [er]; rfl, B1.out⟩
          · have b6 : ¬ (m : Int) = G - 1 := b5
            have gb := within_yes.1 b1
            as_aux_lemma =>
            go_wp2_with fail
            refine (W1.out _).mono ?_
            rintro e w' ⟨rfl, rfl⟩
            go_wp2_with fail
            refine (W2.out _).mono ?_
            rintro e w' ⟨rfl, rfl⟩
            go_wp2_with fail
            refine (W3.out _).mono ?_
            rintro e w' ⟨rfl, rfl⟩
            go_wp2_with fail
            refine (W4.out _).mono ?_
            rintro e w' ⟨rfl, rfl⟩
            have er := R2.out (by unfold rangeB; rw [b1, b2, b3, b4, decide_eq_false b5]; rfl)
            go_wp2_with fail
            go_ret
            exact ⟨by rw [er]; rfl, B0.out⟩
end Go.Proofs.Ytpaihfdmjkfegaa.Ck
