/- What a cluster is made of: the document's Check, walked. -/
import Derived.Test.YtpaihfdmjkfegaaCkC
namespace Go.Proofs.Ytpaihfdmjkfegaa.Ck
open Go.RowKit Go.Lib Go.Proofs.Ytpaihfdmjkfegaa.Sta Go.Proofs.Ytpaihfdmjkfegaa.Rd Go.Proofs.Ytpaihfdmjkfegaa.Far

set_option maxRecDepth 100000 in
set_option maxHeartbeats 6400000 in
theorem refCheck_any (G F C S : Int) (sp : List ByteArray) (pl : List Int) (A1 A2 : Option Addr) (c1 c2 : Nat) (w : World) (h1 : RowIn w w.heap.size A1 (sp.map sV)) (h2 : IntsIn w w.heap.size A2 pl) :
    Calls Try.prog 11 #[cfgV G F C (.slice A1 sp.length c1) (.slice A2 pl.length c2) S] w fun e w' => e = .returned (.int .i64 (chk G F C S sp pl)) ∧ Below w.heap.size w w' := by
  have HP := Lib.hid h2
  have DN := Lib.hid (fun w' (hb : Below w.heap.size w w') => refDirNew_any sp A1 c1 w' ((h1.below hb).more hb.size))
  have B0 : Hid (Below w.heap.size w (w.alloc (.cells #[.int .i64 G, .int .i64 F, .int .i64 C, .slice A1 sp.length c1, .slice A2 pl.length c2, .int .i64 S] 25))) := Lib.hid ((Below.refl _ _).alloc (Nat.le_refl _) _)
  have K0 : Hid (CfgAt (w.alloc (.cells #[.int .i64 G, .int .i64 F, .int .i64 C, .slice A1 sp.length c1, .slice A2 pl.length c2, .int .i64 S] 25)) w.heap.size G F C (.slice A1 sp.length c1) (.slice A2 pl.length c2) S) := Lib.hid ⟨by simp, by simp [go_sem], by simp [go_sem], by simp [go_sem], by simp [go_sem], by simp [go_sem], by simp [go_sem]⟩
  obtain ⟨n, hn⟩ : ∃ n, n = pl.length := ⟨_, rfl⟩
  obtain ⟨m, hm⟩ : ∃ m, m = sp.length := ⟨_, rfl⟩
  rw [← hn, ← hm] at B0 K0 ⊢
  rw [← hm] at DN
  have HN := Lib.hid hn
  have HM := Lib.hid hm
  obtain ⟨r, hr⟩ : ∃ r, r = chk G F C S sp pl := ⟨_, rfl⟩
  rw [← hr]
  have HR := Lib.hid hr
  clear h1 h2 hn hm hr
  unfold cfgV
  go_enter Try.func11, Try.ntmps11
  go_upto_region 1 with (fail)
  obtain ⟨W, hW⟩ : ∃ W, W = w.alloc (.cells #[.int .i64 G, .int .i64 F, .int .i64 C, .slice A1 m c1, .slice A2 n c2, .int .i64 S] 25) := ⟨_, rfl⟩
  obtain ⟨H, hH⟩ : ∃ H, H = w.heap.size := ⟨_, rfl⟩
  rw [← hW] at B0 K0
  rw [← hH] at K0
  try rw [← hW]
  try rw [← hH]
  clear hW hH
  have R2 : Hid (rangeB G F C S m = false → r = 2) := Lib.hid (fun h => by rw [HR.out]; unfold chk; rw [← HM.out, if_pos h])
  have k0 := K0.out.c0
  have k1 := K0.out.c1
  have k2 := K0.out.c2
  have k3 := K0.out.c3
  have k5 := K0.out.c5
  by_cases b0 : G < 1
  · as_aux_lemma =>
    have er := R2.out (by unfold rangeB within; simp; omega)
    go_wp2_with fail
    go_ret
    exact ⟨by first | rfl | (rw [er]; rfl), B0.out⟩
  by_cases b1 : G > 8
  · as_aux_lemma =>
    have er := R2.out (by unfold rangeB within; simp; omega)
    go_wp2_with fail
    go_ret
    exact ⟨by first | rfl | (rw [er]; rfl), B0.out⟩
  by_cases b2 : F < 0
  · as_aux_lemma =>
    have er := R2.out (by unfold rangeB within; simp; omega)
    go_wp2_with fail
    go_ret
    exact ⟨by first | rfl | (rw [er]; rfl), B0.out⟩
  by_cases b3 : F > 2
  · as_aux_lemma =>
    have er := R2.out (by unfold rangeB within; simp; omega)
    go_wp2_with fail
    go_ret
    exact ⟨by first | rfl | (rw [er]; rfl), B0.out⟩
  by_cases b4 : C < 1
  · as_aux_lemma =>
    have er := R2.out (by unfold rangeB within; simp; omega)
    go_wp2_with fail
    go_ret
    exact ⟨by first | rfl | (rw [er]; rfl), B0.out⟩
  by_cases b5 : C > 16
  · as_aux_lemma =>
    have er := R2.out (by unfold rangeB within; simp; omega)
    go_wp2_with fail
    go_ret
    exact ⟨by first | rfl | (rw [er]; rfl), B0.out⟩
  by_cases b6 : S < 64
  · as_aux_lemma =>
    have er := R2.out (by unfold rangeB within; simp; omega)
    go_wp2_with fail
    go_ret
    exact ⟨by first | rfl | (rw [er]; rfl), B0.out⟩
  by_cases b7 : S > 16384
  · as_aux_lemma =>
    have er := R2.out (by unfold rangeB within; simp; omega)
    go_wp2_with fail
    go_ret
    exact ⟨by first | rfl | (rw [er]; rfl), B0.out⟩
  by_cases b8 : (m : Int) = G - 1
  · have RNG : Hid (rangeB G F C S m = true) := Lib.hid (by unfold rangeB within; simp; omega)
    have g5 := size_bound (G := G) (F := F) (by omega) (by omega)
    go_wp2_with fail
    refine (DN.out _ B0.out).mono ?_
    rintro e w1 ⟨v, rfl, hv1, hv2, hb⟩
    obtain ⟨A', n', c', rfl⟩ : ∃ A' n' c', v = .slice A' n' c' := by
      by_cases hz : dirErr sp = 0
      · obtain ⟨A', c', e, _⟩ := hv1 hz
        exact ⟨A', _, c', e⟩
      · exact ⟨none, 0, 0, hv2 hz⟩
    have K1 := Lib.hid ((K0.out.below hb).below ((Below.refl _ w1).alloc (Nat.le_refl _) (.cells #[.slice A' n' c'] 83)))
    have B1 : Hid (Below w.heap.size w (w1.alloc (.cells #[.slice A' n' c'] 83))) := Lib.hid ((B0.out.trans (hb.mono B0.out.size)).alloc (Nat.le_trans B0.out.size hb.size) _)
    obtain ⟨de, hde⟩ : ∃ de, de = dirErr sp := ⟨_, rfl⟩
    rw [← hde]
    have HDE := Lib.hid hde
    clear hb hde hv1 hv2 k0 k1 k2 k3 k5 DN K0 B0 R2
    go_upto_region 4 with (fail)
    generalize w1.alloc (.cells #[.slice A' n' c'] 83) = W1 at K1 B1 ⊢
    by_cases hz : de = 0
    · subst hz
      have R3 : Hid (r = if 0 < n ∧ (n : Int) ≠ C + G * (2 * F + 1) then 2 else if ∃ p ∈ pl, (refPt p).2.2 ≠ 0 then 2 else 0) := Lib.hid (by rw [HR.out, chk, if_neg (by rw [← HM.out, RNG.out]; decide), if_neg (by rw [← HDE.out]; simp), HN.out])
      have k0 := K1.out.c0
      have k1 := K1.out.c1
      have k2 := K1.out.c2
      have k4 := K1.out.c4
      have w3 : IntKind.i64.wrap (G * (2 * F + 1)) = G * (2 * F + 1) := by rw [IntKind.wrap_i64]; omega
      have w4 : IntKind.i64.wrap (C + G * (2 * F + 1)) = C + G * (2 * F + 1) := by rw [IntKind.wrap_i64]; omega
      obtain ⟨q, hq⟩ : ∃ q, q = C + G * (2 * F + 1) := ⟨_, rfl⟩
      rw [← hq] at R3
      by_cases hn0 : n = 0
      · have er : r = 0 := by
          rw [R3.out, if_neg (by omega), if_neg]
          rintro ⟨x, hx, _⟩
          have : pl = [] := List.eq_nil_of_length_eq_zero (by rw [← HN.out]; exact hn0)
          rw [this] at hx
          cases hx
        have hn1 : (n : Int) = 0 := by omega
        as_aux_lemma =>
        clear hq R3
        go_wp2_with fail
        go_ret
        exact ⟨by first | rfl | (rw [er]; rfl), B1.out⟩
      · have hn1 : ¬ (n : Int) = 0 := by omega
        have hn2 : ((n : Int) == 0) = false := by simp; omega
        by_cases hbad : (n : Int) = q
        · have hnb : n ≤ 100 := by omega
          have HQ := Lib.hid hq
          have HB := Lib.hid hbad
          have R4 : Hid (r = if ∃ p ∈ pl, (refPt p).2.2 ≠ 0 then 2 else 0) := Lib.hid (by rw [R3.out, if_neg (by omega)])
          clear hq R3 hbad
          go_upto_region 8 with (fail)
          have hne : (n : Int) = C + G * (2 * F + 1) := by rw [← HQ.out]; exact HB.out
          go_wp2_with fail
          clear hne hn1 hn2 b8
          go_loopg [5] n (fun gk v5 wr => ∃ i : Nat, n - i = gk ∧ i ≤ n ∧ v5 = .int .i64 i ∧ Hid (∀ k x, k < i → pl[k]? = some x → (refPt x).2.2 = 0) ∧ Hid (CfgAt wr H G F C (.slice A1 m c1) (.slice A2 n c2) S) ∧ Hid (Below w.heap.size w wr))
          case atStart => exact ⟨0, rfl, by omega, rfl, (fun k x hk => by omega), K1, B1⟩
          case round =>
            clear k0 k1 k2 k4 K1 B1 w3 w4
            obtain ⟨i, hg, hi, rfl, HK, K2, B2⟩ := hrel
            have k4 := K2.out.c4
            by_cases hlt : i < n
            · have hlt' : (i : Int) < (n : Int) := by omega
              obtain ⟨b, o, rfl, hb, hc⟩ := HP.out (by rw [← HN.out]; omega)
              obtain ⟨x, hx⟩ : ∃ x, pl[i]? = some x := ⟨_, List.getElem?_eq_getElem (by rw [← HN.out]; exact hlt)⟩
              have cx := (B2.out.cell (p := ⟨b, o + i, none⟩) hb).trans (hc i x hx)
              have HX := Lib.hid hx
              clear hx hc hb
              obtain ⟨U, hU⟩ : ∃ U, U = (refPt x).1 := ⟨_, rfl⟩
              obtain ⟨V, hV⟩ : ∃ V, V = (refPt x).2.1 := ⟨_, rfl⟩
              have PX := Lib.hid (fun w => show Calls Try.prog 26 #[.int .i64 x] w fun e w' => e = .returned (.tuple #[.agg #[.int .i64 U, .int .i64 V], .int .i64 (refPt x).2.2]) ∧ Below w.heap.size w w' by
                have := refpoint_any x w
                rw [← hU, ← hV] at this
                exact this)
              clear hU hV
              rcases refPt_err x with h0 | h2
              · rw [h0] at PX
                have H0 := Lib.hid h0
                clear h0
                as_aux_lemma =>
                go_wp2_with fail
                refine (PX.out _).mono ?_
                rintro e w2 ⟨rfl, hb2⟩
                have K3 := Lib.hid ((K2.out.below hb2).below ((Below.refl _ w2).alloc (Nat.le_refl _) (.cells #[.int .i64 U, .int .i64 V] 98)))
                have B3 : Hid (Below w.heap.size w (w2.alloc (.cells #[.int .i64 U, .int .i64 V] 98))) := Lib.hid ((B2.out.trans (hb2.mono B2.out.size)).alloc (Nat.le_trans B2.out.size hb2.size) _)
                clear hb2 k4 cx PX K2 B2
                go_wp2_with fail
                go_roundg (n - (i + 1))
                case measure => omega
                case rel =>
                  refine ⟨i + 1, rfl, by omega, by go_num, (fun k y hk hy => ?_), K3, B3⟩
                  rcases Nat.lt_or_ge k i with c | c
                  · exact HK.out k y c hy
                  · obtain rfl : k = i := by omega
                    have := HX.out
                    rw [hy] at this
                    cases this
                    exact H0.out
              · rw [h2] at PX
                have er : r = 2 := by rw [R4.out, if_pos ⟨x, List.mem_of_getElem? HX.out, by rw [h2]; decide⟩]
                clear h2
                as_aux_lemma =>
                go_wp2_with fail
                refine (PX.out _).mono ?_
                rintro e w2 ⟨rfl, hb2⟩
                have B3 : Hid (Below w.heap.size w (w2.alloc (.cells #[.int .i64 U, .int .i64 V] 98))) := Lib.hid ((B2.out.trans (hb2.mono B2.out.size)).alloc (Nat.le_trans B2.out.size hb2.size) _)
                clear hb2
                go_wp2
                go_ret
                exact ⟨by first | rfl | (rw [er]; rfl), B3.out⟩
            · obtain rfl : i = n := by omega
              have hnn : decide ((i : Int) < (i : Int)) = false := decide_eq_false (by omega)
              have er : r = 0 := by
                rw [R4.out, if_neg]
                rintro ⟨x, hx, hne⟩
                obtain ⟨k, hk⟩ := List.getElem?_of_mem hx
                exact hne (HK.out k x (by rw [HN.out]; exact (List.getElem?_eq_some_iff.1 hk).1) hk)
              as_aux_lemma =>
              go_wp2_with fail
              go_ret
              exact ⟨by first | rfl | (rw [er]; rfl), B2.out⟩
        · have hne : ¬ (n : Int) = C + G * (2 * F + 1) := by rw [← hq]; exact hbad
          have er : r = 2 := by rw [R3.out, if_pos (by omega)]
          as_aux_lemma =>
          clear hq R3 hbad
          go_wp2_with fail
          go_ret
          exact ⟨by first | rfl | (rw [er]; rfl), B1.out⟩
    · have er : r = de := by rw [HR.out, chk, if_neg (by rw [← HM.out, RNG.out]; decide), if_pos (by rw [← HDE.out]; exact hz), ← HDE.out]
      as_aux_lemma =>
      go_wp2_with fail
      go_ret
      exact ⟨by first | rfl | (rw [er]; rfl), B1.out⟩
  · as_aux_lemma =>
    have b9 : ¬ (m : Int) = G - 1 := b8
    have er := R2.out (by unfold rangeB; rw [decide_eq_false b8, Bool.and_false])
    go_wp2_with fail
    go_ret
    exact ⟨by first | rfl | (rw [er]; rfl), B0.out⟩
end Go.Proofs.Ytpaihfdmjkfegaa.Ck
