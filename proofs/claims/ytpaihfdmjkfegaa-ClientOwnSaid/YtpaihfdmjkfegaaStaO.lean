/- The document's Order, walked. -/
import Derived.Test.YtpaihfdmjkfegaaStaN
import Derived.Deep.CutRange
namespace Go.Proofs.Ytpaihfdmjkfegaa.Sta
open Go.Shelf Go.RowKit Go.Lib Go.Sort Go.Proofs.Ytpaihfdmjkfegaa.Far Go.Proofs.Ytpaihfdmjkfegaa.Rd

/-- A slice that reads as these numbers, in a block not below lo. -/
def IntsFrom (lo : Nat) (w : World) (A : Option Addr) (l : List Int) : Prop :=
  0 < l.length → ∃ b o, A = some ⟨b, o, none⟩ ∧ lo ≤ b ∧ b < w.heap.size ∧ ∀ (i : Nat) (x : Int), l[i]? = some x → w.cell? ⟨b, o + i, none⟩ = some (.int .i64 x)

theorem reads_from {w : World} {base g n cap : Nat} {xs : List Value} (h : w.ownsRow base 3 1 (.slice (some ⟨g, 0, none⟩) n cap) n xs) {q : Nat} (hq : q ≤ n) :
    ∃ A2 : Addr, (if cap = q then some (⟨g, 0, none⟩ : Addr) else some ⟨g, q, none⟩) = some A2 ∧ Reads w w.heap.size 1 (some A2) (n - q) (xs.drop q) := by
  have hl := h.1
  have hb := own_bounds h
  have key : 0 < n - q → ∀ j u, (xs.drop q)[j]? = some u → w.cell? ((⟨g, q, none⟩ : Addr).add j) = some u := fun _ j u hu => by
    rw [List.getElem?_drop] at hu
    have := h.cells (g := g) rfl (q + j) u hu
    rw [← this]
    congr 1
    unfold Addr.add
    by_cases hj : j = 0
    · subst hj
      by_cases hq0 : q = 0
      · subst hq0; simp
      · simp [hq0]
    · rw [if_neg hj, if_neg (by omega)]
      simp
  by_cases hc : cap = q
  · rw [if_pos hc]
    refine ⟨_, rfl, by rw [List.length_drop]; omega, fun hpos => by omega⟩
  · rw [if_neg hc]
    exact ⟨_, rfl, by rw [List.length_drop]; omega, fun hpos => ⟨_, rfl, hb.2.1, key hpos⟩⟩

set_option maxRecDepth 100000 in
set_option maxHeartbeats 6400000 in
theorem refOrder_any (from_ : Int) (l : List Int) (A : Option Addr) (cap : Nat) (w : World) (hR : IntsIn w w.heap.size A l) (hl : l.length ≤ 10000) :
    Calls Try.prog 23 #[.int .i64 from_, .slice A l.length cap] w fun e w' => ∃ A' c' r er, e = .returned (.tuple #[.slice A' r.length c', .int .i64 er]) ∧ OrdAns from_ l r er ∧ IntsFrom w.heap.size w' A' (r.map (fun x : Nat => (x : Int))) ∧ Below w.heap.size w w' := by
  have HR := Lib.hid hR
  obtain ⟨n, hn⟩ : ∃ n, n = l.length := ⟨_, rfl⟩
  have HN := Lib.hid hn
  rw [← hn]
  rw [← hn] at hl
  clear hR hn
  obtain ⟨ti, hi0, hz0, hz1, hz2⟩ := info_parts info3
  rcases refPt_err from_ with h0 | h2
  · have H0 := Lib.hid h0
    obtain ⟨X, hX⟩ : ∃ X, X = (refPt from_).1 := ⟨_, rfl⟩
    obtain ⟨Y, hY⟩ : ∃ Y, Y = (refPt from_).2.1 := ⟨_, rfl⟩
    have PA := Lib.hid (fun w => show Calls Try.prog 26 #[.int .i64 from_] w fun e w' => e = .returned (.tuple #[.agg #[.int .i64 X, .int .i64 Y], .int .i64 0]) ∧ Below w.heap.size w w' by
      have := refpoint_any from_ w
      rw [h0, ← hX, ← hY] at this
      exact this)
    have BX : Hid ((-1024 ≤ X ∧ X ≤ 1024) ∧ (-1024 ≤ Y ∧ Y ≤ 1024)) := by rw [hX, hY]; exact refPt_bounds from_
    have FX : Hid (∀ (i : Nat) (x : Int), l[i]? = some x → farW X Y (refPt x).1 (refPt x).2.1 = Fl from_ l i) := by rw [hX, hY]; exact fun i x h => Fl_eq from_ l i x h
    obtain ⟨F, hF⟩ : ∃ F, F = Fl from_ l := ⟨_, rfl⟩
    rw [← hF] at FX
    have HF := Lib.hid hF
    clear h0 hX hY hF
    go_enter Try.func23, Try.ntmps23
    go_wp2_with fail
    refine (PA.out _).mono ?_
    rintro e w1 ⟨rfl, hb1⟩
    have HB1 := Lib.hid hb1
    clear hb1 PA
    go_upto_region 4 with (fail)
    have S0 : Hid (RefS w F 0 0 w1.heap.size X Y (.slice none 0 0) (.slice none 0 0) [] (w1.alloc (.cells #[.int .i64 X, .int .i64 Y] 98))) := by
      refine ⟨HB1.out.alloc HB1.out.size _, ⟨HB1.out.size, by simp⟩, by simp [go_sem], by simp [go_sem], World.ownsRow_nil _ _ _ _, World.ownsRow_nil _ _ _ _, fun k hk => by simp [Value.ownBlock] at hk, fun k hk => by simp [Value.ownBlock] at hk, fun k hk => by simp [Value.ownBlock] at hk⟩
    obtain ⟨P, hP⟩ : ∃ P, P = w1.heap.size := ⟨_, rfl⟩
    generalize w1.alloc (.cells #[.int .i64 X, .int .i64 Y] 98) = W at S0 ⊢
    rw [← hP] at S0 ⊢
    clear hP HB1 w1
    go_wp2_with fail
    go_loopg [8, 9, 10] n (fun gk v8 v9 v10 wr => ∃ (i : Nat) (A8 : Option Addr) (c8 : Nat) (A9 : Option Addr) (c9 : Nat) (r : List Nat), n - i = gk ∧ i ≤ n ∧ v8 = .slice A8 i c8 ∧ v9 = .slice A9 i c9 ∧ v10 = .int .i64 i ∧
      Hid (RefS w F i i P X Y (.slice A8 i c8) (.slice A9 i c9) r wr) ∧ Hid (Sorted F i r) ∧ Hid (∀ k x, k < i → l[k]? = some x → (refPt x).2.2 = 0) ∧ Hid (i = 0 → A9 = none ∧ c9 = 0))
    case atStart => exact ⟨0, none, 0, none, 0, [], rfl, by omega, rfl, rfl, rfl, S0, ⟨List.Perm.refl _, List.Pairwise.nil⟩, fun k x hk => by omega, fun _ => ⟨rfl, rfl⟩⟩
    case round =>
      clear S0
      obtain ⟨i, A8, c8, A9, c9, r, hg, hi, rfl, rfl, rfl, S1, HS, HK, HZ⟩ := hrel
      by_cases hlt : i < n
      · have hlt' : (i : Int) < (n : Int) := by omega
        obtain ⟨b, o, rfl, hb, hc⟩ := HR.out (by rw [← HN.out]; omega)
        obtain ⟨x, hx⟩ : ∃ x, l[i]? = some x := ⟨_, List.getElem?_eq_getElem (by rw [← HN.out]; exact hlt)⟩
        have cx : wr.cell? ⟨b, o + i, none⟩ = some (.int .i64 x) := (S1.out.below.cell (p := ⟨b, o + i, none⟩) hb).trans (hc i x hx)
        have HX := Lib.hid hx
        clear hx hc
        rcases refPt_err x with h0 | h2
        · obtain ⟨U, hU⟩ : ∃ X, X = (refPt x).1 := ⟨_, rfl⟩
          obtain ⟨V, hV⟩ : ∃ Y, Y = (refPt x).2.1 := ⟨_, rfl⟩
          have PX := Lib.hid (fun w => show Calls Try.prog 26 #[.int .i64 x] w fun e w' => e = .returned (.tuple #[.agg #[.int .i64 U, .int .i64 V], .int .i64 0]) ∧ Below w.heap.size w w' by
            have := refpoint_any x w
            rw [h0, ← hU, ← hV] at this
            exact this)
          have BU : Hid ((-1024 ≤ U ∧ U ≤ 1024) ∧ (-1024 ≤ V ∧ V ≤ 1024)) := by rw [hU, hV]; exact refPt_bounds x
          have FU : Hid (farW X Y U V = F i) := by rw [hU, hV]; exact FX.out i x HX.out
          have HK1 : Hid (∀ k y, k < i + 1 → l[k]? = some y → (refPt y).2.2 = 0) := fun k y hk hy => by
            rcases Nat.lt_or_ge k i with c | c
            · exact HK.out k y c hy
            · obtain rfl : k = i := by omega
              have := HX.out
              rw [hy] at this
              cases this
              exact h0
          clear h0 hU hV
          have FR := Lib.hid (fun w => ref_far X Y U V BX.out.1 BX.out.2 BU.out.1 BU.out.2 w)
          rw [FU.out] at FR
          clear FU BU HK
          go_wp2_with fail
          refine (PX.out _).mono ?_
          rintro e w2 ⟨rfl, hb2⟩
          have S2 := Lib.hid (S1.out.step hb2)
          clear hb2 PX cx S1
          go_upto_region 12 with (fail)
          have S3 := Lib.hid (S2.out.step ((Below.refl _ _).alloc (Nat.le_refl _) (.cells #[.int .i64 U, .int .i64 V] 98)))
          have cU : (w2.alloc (.cells #[.int .i64 U, .int .i64 V] 98)).cell? ⟨w2.heap.size, 0, none⟩ = some (.int .i64 U) := by simp [go_sem]
          have cV : (w2.alloc (.cells #[.int .i64 U, .int .i64 V] 98)).cell? ⟨w2.heap.size, 1, none⟩ = some (.int .i64 V) := by simp [go_sem]
          obtain ⟨Q, hQ⟩ : ∃ Q, Q = w2.heap.size := ⟨_, rfl⟩
          generalize w2.alloc (.cells #[.int .i64 U, .int .i64 V] 98) = w3 at S3 cU cV ⊢
          rw [← hQ] at cU cV ⊢
          clear hQ S2 w2
          have pX := S3.out.pX
          have pY := S3.out.pY
          go_wp2_with fail
          refine (FR.out _).mono ?_
          rintro e w4 ⟨rfl, hb4⟩
          have S4 := Lib.hid (S3.out.step hb4)
          clear hb4 FR cU cV pX pY S3 w3
          have S5 := Lib.hid (S4.out.step ((Below.refl _ _).alloc (Nat.le_refl _) (.cells #[.int .i64 (F i)] 3)))
          have OWN : Hid ((w4.alloc (.cells #[.int .i64 (F i)] 3)).ownsRow w.heap.size 3 1 (.slice A8 i c8) i ((List.range i).map (fV F))) := Lib.hid S5.out.far
          have hba : w.heap.size ≤ (w4.alloc (.cells #[.int .i64 (F i)] 3)).heap.size := S5.out.below.size
          have hml : i + 1 ≤ maxLen := by unfold maxLen; omega
          go_wp2_with (at_builtin; refine wpList_append_lies _ rfl (.tmp 40) (.tmp 44) 23 rfl w.heap.size 3 ti (.int .i64 0) 1 8 Try.underlying23 hi0 hz0 hz1 hz2 rfl (by decide) _ i ((List.range i).map (fV F)) rfl OWN.out ⟨w4.heap.size, 0, none⟩ 1 1 [.int .i64 (F i)] rfl rfl (new_int w4 _) (one_int _) (by omega) hml (by omega) hba _ rfl ?_; intro g8 c8' w5 hown hgrow hat hlt8)
          have S6 : Hid (RefS w F (i + 1) i P X Y (.slice (some ⟨g8, 0, none⟩) (i + 1) c8') (.slice A9 i c9) r w5) := S5.out.farTo hgrow (by
            rw [List.range_succ, List.map_append]
            exact hown) (by
            rcases hat with e | e
            · exact .inl e.symm
            · exact .inr (by rw [e]; rfl))
          clear hown hgrow hat hlt8 OWN hba S5 S4
          go_wp2_with fail
          go_loopg [13] i (fun gk v13 wr => ∃ s : Nat, s ≤ gk ∧ s ≤ i ∧ v13 = .int .i64 s ∧ Hid (RefS w F (i + 1) i P X Y (.slice (some ⟨g8, 0, none⟩) (i + 1) c8') (.slice A9 i c9) r wr) ∧ Hid (∀ k y, s ≤ k → r[k]? = some y → F i < F y))
          case atStart => exact ⟨i, Nat.le_refl _, Nat.le_refl _, rfl, S6, fun k y hk hy => by
            have := (List.getElem?_eq_some_iff.1 hy).1
            rw [HS.out.length] at this
            omega⟩
          case round =>
            clear S6
            obtain ⟨s, hs1, hs2, rfl, S7, HG⟩ := hrel
            have stop : (s = 0 ∨ ∃ y, r[s - 1]? = some y ∧ F y ≤ F i) → True := fun _ => trivial
            clear stop
            by_cases hs0 : 0 < s
            · obtain ⟨sp, rfl⟩ : ∃ q, s = q + 1 := ⟨s - 1, by omega⟩
              have hlen := HS.out.length
              obtain ⟨y, hy⟩ : ∃ y, r[sp]? = some y := ⟨_, List.getElem?_eq_getElem (by omega)⟩
              have hyi : y < i := HS.out.lt y (List.mem_of_getElem? hy)
              obtain ⟨g9, c9', hv9, hbg9, hg9⟩ := World.ownsRow.form S7.out.out (by omega)
              injection hv9 with hA9 _ hc9
              subst hA9
              clear hc9 c9' hbg9
              have q1 : wr.cell? ⟨g9, sp, none⟩ = some (.int .i64 (y : Int)) := by
                have := S7.out.out.cells (g := g9) rfl sp (iV y) (by rw [List.getElem?_map, hy]; rfl)
                rwa [Addr.add_lit, Nat.zero_add] at this
              have q2 : wr.cell? ⟨g8, y, none⟩ = some (.int .i64 (F y)) := by
                have := S7.out.far.cells (g := g8) rfl y (fV F y) (by rw [List.getElem?_map, List.getElem?_range (by omega)]; rfl)
                rwa [Addr.add_lit, Nat.zero_add] at this
              have q3 : wr.cell? ⟨g8, i, none⟩ = some (.int .i64 (F i)) := by
                have := S7.out.far.cells (g := g8) rfl i (fV F i) (by rw [List.getElem?_map, List.getElem?_range (by omega)]; rfl)
                rwa [Addr.add_lit, Nat.zero_add] at this
              have b1 : (sp : Int) < (i : Int) := by omega
              have b2 : (y : Int) < (i : Int) + 1 := by omega
              have b3 : (i : Int) < (i : Int) + 1 := by omega
              have HY := Lib.hid hy
              clear hy hlen hg9
              by_cases hF : F i < F y
              · as_aux_lemma =>
                have hF' : decide (F y > F i) = true := decide_eq_true hF
                have hF2 : decide (F i < F y) = true := decide_eq_true hF
                go_wp2_with fail
                go_quiet (fail)
                clear q1 q2 q3
                have S8 := Lib.hid (S7.out.step (v' := wr.drewN nq) ⟨rfl, rfl, rfl, Nat.le_refl _, fun _ _ => rfl⟩)
                go_wp2_with fail
                go_roundg sp
                case measure => omega
                case rel =>
                  refine ⟨sp, Nat.le_refl _, by omega, by go_num, S8, fun k z hk hz => ?_⟩
                  rcases Nat.lt_or_ge sp k with c | c
                  · exact HG.out k z (by omega) hz
                  · obtain rfl : k = sp := by omega
                    have := HY.out
                    rw [hz] at this
                    cases this
                    exact hF
              · as_aux_lemma =>
                have hF' : decide (F y > F i) = false := decide_eq_false hF
                have hF2 : decide (F i < F y) = false := decide_eq_false hF
                go_wp2_with fail
                go_quiet (fail)
                clear q1 q2 q3 b1 b2 b3
                have S8 := Lib.hid (S7.out.step (v' := wr.drewN nq) ⟨rfl, rfl, rfl, Nat.le_refl _, fun _ _ => rfl⟩)
                obtain ⟨s, hs⟩ : ∃ s, s = sp + 1 := ⟨_, rfl⟩
                have es : (sp : Int) + 1 = (s : Int) := by omega
                have STOP : Hid (∀ x, 0 < s → r[s - 1]? = some x → F x ≤ F i) := by
                  rw [hs]
                  intro z _ hz
                  have := HY.out
                  rw [show sp + 1 - 1 = sp by omega] at hz
                  rw [hz] at this
                  cases this
                  omega
                rw [← hs] at hs2 HG
                rw [es]
                have hipos : 0 < i := by omega
                clear S7 hs es HY hF hF' hF2 hs1
                generalize hW8 : wr.drewN nq = W8 at S8 ⊢
                clear hW8
                have hg9 := (own_bounds S8.out.out).2.1
                have hcb := own_bounds S8.out.out
                have B8 : Hid (Below W8.heap.size W8 (W8.alloc (.cells #[] 3))) := Lib.hid ((Below.refl _ _).alloc (Nat.le_refl _) _)
                have S9 := Lib.hid (S8.out.step B8.out)
                have OWN0 : Hid ((W8.alloc (.cells #[] 3)).ownsRow W8.heap.size 3 1 (.slice (some ⟨W8.heap.size, 0, none⟩) 0 0) 0 []) := Lib.hid (World.ownsRow_made W8 #[] 0 (Nat.le_refl _) (by unfold maxLen; omega) rfl)
                obtain ⟨A2, hA2, hRd⟩ := reads_from S9.out.out (q := s) hs2
                have RD := Lib.hid hRd
                have OD : Hid (∀ u ∈ (r.map iV).drop s, u.oneCell' = true) := Lib.hid (fun u hu => iV_one r u (List.mem_of_mem_drop hu))
                have z1 : (s : Int) ≤ (i : Int) := by omega
                have z2 : (s : Int) ≤ (c9 : Int) := by omega
                have z3 : (i : Int) ≤ (c9 : Int) := by omega
                have z4 : s ≤ c9 := by omega
                have y63 : 0 + (i - s) ≤ maxLen := by unfold maxLen; omega
                have y64 : (0 + (i - s)) * 8 ≤ 140737488355328 := by omega
                have yb8 : W8.heap.size ≤ (W8.alloc (.cells #[] 3)).heap.size := B8.out.size
                clear hRd hcb
                go_upto_region 16 with (fail)
                go_upto_region 17 with (at_builtin; refine wpList_append_any _ rfl (.tmp 67) (.tmp 70) 23 rfl W8.heap.size 3 ti (.int .i64 0) 1 8 Try.underlying23 hi0 hz0 hz1 hz2 rfl (by decide) _ 0 [] rfl OWN0.out _ (some A2) (i - s) (c9 - s) ((r.map iV).drop s) rfl RD.out OD.out y63 y64 yb8 ?_; intro v14 w9 hown1 hg1 hat1)
                rw [Nat.zero_add, List.nil_append] at hown1
                have B9 : Hid (Below W8.heap.size W8 w9) := Lib.hid (B8.out.grown hg1 yb8 (fun j hj => by cases hj; exact Nat.le_refl _))
                have N14 : Hid (∀ k, v14.ownBlock = some k → W8.heap.size ≤ k) := Lib.hid (fun k hk => (World.ownsRow.lt hown1 k hk).1)
                obtain ⟨A14, c14, rfl⟩ := own_form hown1
                have O14 := Lib.hid hown1
                have S10 := Lib.hid (S8.out.step B9.out)
                have K14 : Hid (∀ k, (Value.slice A14 (i - s) c14).ownBlock = some k → k ≠ g9) := Lib.hid (fun k hk => by have h1 := N14.out k hk; omega)
                clear hown1 hg1 hat1 OWN0 RD OD S9 B8 hA2 hg9
                have B10 : Hid (Below w9.heap.size w9 (w9.alloc (.cells #[.int .i64 (i : Int)] 3))) := Lib.hid ((Below.refl _ _).alloc (Nat.le_refl _) _)
                have S11 := Lib.hid ((S10.out.step B10.out).shrink hs2)
                have O15 := Lib.hid (own_below O14.out B10.out)
                have yb10 : w.heap.size ≤ (w9.alloc (.cells #[.int .i64 (i : Int)] 3)).heap.size := S11.out.below.size
                have y1 : s + 1 ≤ maxLen := by unfold maxLen; omega
                have y2 : (s + 1) * 8 ≤ 140737488355328 := by omega
                have y3 : s + 1 + (i - s) ≤ maxLen := by unfold maxLen; omega
                have y4 : (s + 1 + (i - s)) * 8 ≤ 140737488355328 := by omega
                have OD2 : Hid (∀ u ∈ (r.map iV).drop s, u.oneCell' = true) := Lib.hid (fun u hu => iV_one r u (List.mem_of_mem_drop hu))
                go_wp2_with (first
                  | (have tokB := S12
                     at_builtin
                     refine wpList_append_any _ rfl (.tmp 77) (.tmp 78) 23 rfl w.heap.size 3 ti (.int .i64 0) 1 8 Try.underlying23 hi0 hz0 hz1 hz2 rfl (by decide) _ (s + 1) ((r.take s ++ [i]).map iV) rfl S12.out.out _ A14 (i - s) c14 ((r.map iV).drop s) rfl (Reads.of_own O16.out) OD2.out y3 y4 S12.out.below.size ?_
                     intro v79 w12 hown3 hg3 hat3
                     have S13 : Hid (RefS w F (i + 1) (s + 1 + (i - s)) P X Y (.slice (some ⟨g8, 0, none⟩) (i + 1) c8') v79 (r.take s ++ [i] ++ r.drop s) w12) := Lib.hid (S12.out.outTo hg3 (by rw [List.map_append (l₂ := r.drop s), List.map_drop]; exact hown3) hat3)
                     clear hown3 hg3 hat3 tokB)
                  | (at_builtin
                     refine wpList_append_lies _ rfl (.tmp 74) (.tmp 76) 23 rfl w.heap.size 3 ti (.int .i64 0) 1 8 Try.underlying23 hi0 hz0 hz1 hz2 rfl (by decide) _ s ((r.take s).map iV) rfl S11.out.out ⟨w9.heap.size, 0, none⟩ 1 1 [.int .i64 (i : Int)] rfl rfl (new_int w9 _) (one_int _) (by omega) y1 y2 yb10 _ rfl ?_
                     intro g77 c77 w11 hown2 hg2 hat2 hlt2
                     have S12 : Hid (RefS w F (i + 1) (s + 1) P X Y (.slice (some ⟨g8, 0, none⟩) (i + 1) c8') (.slice (some ⟨g77, 0, none⟩) (s + 1) c77) (r.take s ++ [i]) w11) := Lib.hid (S11.out.outTo hg2 (by rw [List.map_append]; exact hown2) (by rcases hat2 with e | e <;> first | exact .inl e.symm | exact .inr (by rw [e]; rfl)))
                     have O16 := Lib.hid (O15.out.kept hg2 (by
                       cases e : (Value.slice A14 (i - s) c14).ownBlock with
                       | none => exact .inl rfl
                       | some k => exact .inr fun e2 => K14.out k e (by cases e2; rfl)))
                     clear hown2 hg2 hat2 hlt2))
                obtain ⟨A79, c79, hv79⟩ := own_form S13.out.out
                have hnum : s + 1 + (i - s) = i + 1 := by omega
                rw [hnum] at hv79 S13
                subst hv79
                clear hnum
                go_wp2_with fail
                go_roundg (n - (i + 1))
                case measure => omega
                case rel => exact ⟨i + 1, some ⟨g8, 0, none⟩, c8', A79, c79, r.take s ++ [i] ++ r.drop s, rfl, by omega, rfl, rfl, by go_num, S13, HS.out.put hs2 HG.out STOP.out, HK1, fun h => by omega⟩


            · have STOP : Hid (∀ x, 0 < s → r[s - 1]? = some x → F x ≤ F i) := fun x hx => absurd hx hs0
              have hs0' : decide ((0 : Int) < (s : Int)) = false := decide_eq_false (by omega)
              have hs0n : decide (0 < s) = false := decide_eq_false hs0
              rcases Nat.eq_zero_or_pos i with hiz | hipos
              · as_aux_lemma =>
                subst hiz
                obtain ⟨hz9, hzc⟩ := HZ.out rfl
                subst hz9 hzc
                obtain rfl : s = 0 := by omega
                obtain rfl : r = [] := List.eq_nil_of_length_eq_zero HS.out.length
                go_wp2_with fail
                go_quiet (fail)
                have S8 := Lib.hid (S7.out.step (v' := wr.drewN nq) ⟨rfl, rfl, rfl, Nat.le_refl _, fun _ _ => rfl⟩)
                clear S7 hs1 hs0' hs0n hs0
                generalize hW8 : wr.drewN nq = W8 at S8 ⊢
                clear hW8
                have B8 : Hid (Below W8.heap.size W8 (W8.alloc (.cells #[] 3))) := Lib.hid ((Below.refl _ _).alloc (Nat.le_refl _) _)
                have OWN0 : Hid ((W8.alloc (.cells #[] 3)).ownsRow W8.heap.size 3 1 (.slice (some ⟨W8.heap.size, 0, none⟩) 0 0) 0 []) := Lib.hid (World.ownsRow_made W8 #[] 0 (Nat.le_refl _) (by unfold maxLen; omega) rfl)
                have OD : Hid (∀ u ∈ ([] : List Value), u.oneCell' = true) := Lib.hid (fun u hu => by cases hu)
                have y63 : 0 + 0 ≤ maxLen := by unfold maxLen; omega
                have y64 : (0 + 0) * 8 ≤ 140737488355328 := by omega
                have yb8 : W8.heap.size ≤ (W8.alloc (.cells #[] 3)).heap.size := B8.out.size
                go_upto_region 16 with (fail)
                go_upto_region 17 with (at_builtin; refine wpList_append_any _ rfl (.tmp 67) (.tmp 70) 23 rfl W8.heap.size 3 ti (.int .i64 0) 1 8 Try.underlying23 hi0 hz0 hz1 hz2 rfl (by decide) _ 0 [] rfl OWN0.out 0 none 0 0 [] rfl Reads.none_ OD.out y63 y64 yb8 ?_; intro v14 w9 hown1 hg1 hat1)
                rw [Nat.zero_add, List.nil_append] at hown1
                have B9 : Hid (Below W8.heap.size W8 w9) := Lib.hid (B8.out.grown hg1 yb8 (fun j hj => by cases hj; exact Nat.le_refl _))
                obtain ⟨A14, c14, rfl⟩ := own_form hown1
                have S10 := Lib.hid (S8.out.step B9.out)
                clear hown1 hg1 hat1 OWN0 B8
                have B10 : Hid (Below w9.heap.size w9 (w9.alloc (.cells #[.int .i64 0] 3))) := Lib.hid ((Below.refl _ _).alloc (Nat.le_refl _) _)
                have S11 := Lib.hid (S10.out.step B10.out)
                have yb10 : w.heap.size ≤ (w9.alloc (.cells #[.int .i64 0] 3)).heap.size := S11.out.below.size
                have y1 : 0 + 1 ≤ maxLen := by unfold maxLen; omega
                have y2 : (0 + 1) * 8 ≤ 140737488355328 := by omega
                have y3 : 1 + 0 ≤ maxLen := by unfold maxLen; omega
                have y4 : (1 + 0) * 8 ≤ 140737488355328 := by omega
                go_wp2_with (first
                  | (have tokB := S12
                     at_builtin
                     refine wpList_append_any _ rfl (.tmp 77) (.tmp 78) 23 rfl w.heap.size 3 ti (.int .i64 0) 1 8 Try.underlying23 hi0 hz0 hz1 hz2 rfl (by decide) _ 1 ([0].map iV) rfl S12.out.out 0 A14 0 c14 [] rfl Reads.none_ OD.out y3 y4 S12.out.below.size ?_
                     intro v79 w12 hown3 hg3 hat3
                     have S13 : Hid (RefS w F 1 1 P X Y (.slice (some ⟨g8, 0, none⟩) 1 c8') v79 [0] w12) := Lib.hid (S12.out.outTo hg3 (by rw [List.append_nil] at hown3; exact hown3) hat3)
                     clear hown3 hg3 hat3 tokB)
                  | (at_builtin
                     refine wpList_append_lies _ rfl (.tmp 74) (.tmp 76) 23 rfl w.heap.size 3 ti (.int .i64 0) 1 8 Try.underlying23 hi0 hz0 hz1 hz2 rfl (by decide) _ 0 [] rfl S11.out.out ⟨w9.heap.size, 0, none⟩ 1 1 [.int .i64 0] rfl rfl (new_int w9 _) (one_int _) (by omega) y1 y2 yb10 _ rfl ?_
                     intro g77 c77 w11 hown2 hg2 hat2 hlt2
                     have S12 : Hid (RefS w F 1 1 P X Y (.slice (some ⟨g8, 0, none⟩) 1 c8') (.slice (some ⟨g77, 0, none⟩) 1 c77) [0] w11) := Lib.hid (S11.out.outTo hg2 hown2 (by rcases hat2 with e | e <;> first | exact .inl e.symm | exact .inr (by rw [e]; rfl)))
                     clear hown2 hg2 hat2 hlt2))
                obtain ⟨A79, c79, hv79⟩ := own_form S13.out.out
                subst hv79
                go_wp2_with fail
                go_roundg (n - 1)
                case measure => omega
                case rel => exact ⟨1, some ⟨g8, 0, none⟩, c8', A79, c79, [0], rfl, by omega, rfl, rfl, rfl, S13, HS.out.put (Nat.le_refl 0) HG.out STOP.out, HK1, fun h => by omega⟩
              · as_aux_lemma =>
                clear hs0
                go_wp2_with fail
                go_quiet (fail)
                have S8 := Lib.hid (S7.out.step (v' := wr.drewN nq) ⟨rfl, rfl, rfl, Nat.le_refl _, fun _ _ => rfl⟩)
                clear S7 hs1 hs0' hs0n
                generalize hW8 : wr.drewN nq = W8 at S8 ⊢
                clear hW8
                obtain ⟨g9, c9', hv9, _, _⟩ := World.ownsRow.form S8.out.out hipos
                injection hv9 with hA9 _ hc9
                subst hA9
                clear hc9 c9'
                have hg9 := (own_bounds S8.out.out).2.1
                have hcb := own_bounds S8.out.out
                have B8 : Hid (Below W8.heap.size W8 (W8.alloc (.cells #[] 3))) := Lib.hid ((Below.refl _ _).alloc (Nat.le_refl _) _)
                have S9 := Lib.hid (S8.out.step B8.out)
                have OWN0 : Hid ((W8.alloc (.cells #[] 3)).ownsRow W8.heap.size 3 1 (.slice (some ⟨W8.heap.size, 0, none⟩) 0 0) 0 []) := Lib.hid (World.ownsRow_made W8 #[] 0 (Nat.le_refl _) (by unfold maxLen; omega) rfl)
                obtain ⟨A2, hA2, hRd⟩ := reads_from S9.out.out (q := s) hs2
                have RD := Lib.hid hRd
                have OD : Hid (∀ u ∈ (r.map iV).drop s, u.oneCell' = true) := Lib.hid (fun u hu => iV_one r u (List.mem_of_mem_drop hu))
                have z1 : (s : Int) ≤ (i : Int) := by omega
                have z2 : (s : Int) ≤ (c9 : Int) := by omega
                have z3 : (i : Int) ≤ (c9 : Int) := by omega
                have z4 : s ≤ c9 := by omega
                have y63 : 0 + (i - s) ≤ maxLen := by unfold maxLen; omega
                have y64 : (0 + (i - s)) * 8 ≤ 140737488355328 := by omega
                have yb8 : W8.heap.size ≤ (W8.alloc (.cells #[] 3)).heap.size := B8.out.size
                clear hRd hcb
                go_upto_region 16 with (fail)
                go_upto_region 17 with (at_builtin; refine wpList_append_any _ rfl (.tmp 67) (.tmp 70) 23 rfl W8.heap.size 3 ti (.int .i64 0) 1 8 Try.underlying23 hi0 hz0 hz1 hz2 rfl (by decide) _ 0 [] rfl OWN0.out _ (some A2) (i - s) (c9 - s) ((r.map iV).drop s) rfl RD.out OD.out y63 y64 yb8 ?_; intro v14 w9 hown1 hg1 hat1)
                rw [Nat.zero_add, List.nil_append] at hown1
                have B9 : Hid (Below W8.heap.size W8 w9) := Lib.hid (B8.out.grown hg1 yb8 (fun j hj => by cases hj; exact Nat.le_refl _))
                have N14 : Hid (∀ k, v14.ownBlock = some k → W8.heap.size ≤ k) := Lib.hid (fun k hk => (World.ownsRow.lt hown1 k hk).1)
                obtain ⟨A14, c14, rfl⟩ := own_form hown1
                have O14 := Lib.hid hown1
                have S10 := Lib.hid (S8.out.step B9.out)
                have K14 : Hid (∀ k, (Value.slice A14 (i - s) c14).ownBlock = some k → k ≠ g9) := Lib.hid (fun k hk => by have h1 := N14.out k hk; omega)
                clear hown1 hg1 hat1 OWN0 RD OD S9 B8 hA2 hg9
                have B10 : Hid (Below w9.heap.size w9 (w9.alloc (.cells #[.int .i64 (i : Int)] 3))) := Lib.hid ((Below.refl _ _).alloc (Nat.le_refl _) _)
                have S11 := Lib.hid ((S10.out.step B10.out).shrink hs2)
                have O15 := Lib.hid (own_below O14.out B10.out)
                have yb10 : w.heap.size ≤ (w9.alloc (.cells #[.int .i64 (i : Int)] 3)).heap.size := S11.out.below.size
                have y1 : s + 1 ≤ maxLen := by unfold maxLen; omega
                have y2 : (s + 1) * 8 ≤ 140737488355328 := by omega
                have y3 : s + 1 + (i - s) ≤ maxLen := by unfold maxLen; omega
                have y4 : (s + 1 + (i - s)) * 8 ≤ 140737488355328 := by omega
                have OD2 : Hid (∀ u ∈ (r.map iV).drop s, u.oneCell' = true) := Lib.hid (fun u hu => iV_one r u (List.mem_of_mem_drop hu))
                go_wp2_with (first
                  | (have tokB := S12
                     at_builtin
                     refine wpList_append_any _ rfl (.tmp 77) (.tmp 78) 23 rfl w.heap.size 3 ti (.int .i64 0) 1 8 Try.underlying23 hi0 hz0 hz1 hz2 rfl (by decide) _ (s + 1) ((r.take s ++ [i]).map iV) rfl S12.out.out _ A14 (i - s) c14 ((r.map iV).drop s) rfl (Reads.of_own O16.out) OD2.out y3 y4 S12.out.below.size ?_
                     intro v79 w12 hown3 hg3 hat3
                     have S13 : Hid (RefS w F (i + 1) (s + 1 + (i - s)) P X Y (.slice (some ⟨g8, 0, none⟩) (i + 1) c8') v79 (r.take s ++ [i] ++ r.drop s) w12) := Lib.hid (S12.out.outTo hg3 (by rw [List.map_append (l₂ := r.drop s), List.map_drop]; exact hown3) hat3)
                     clear hown3 hg3 hat3 tokB)
                  | (at_builtin
                     refine wpList_append_lies _ rfl (.tmp 74) (.tmp 76) 23 rfl w.heap.size 3 ti (.int .i64 0) 1 8 Try.underlying23 hi0 hz0 hz1 hz2 rfl (by decide) _ s ((r.take s).map iV) rfl S11.out.out ⟨w9.heap.size, 0, none⟩ 1 1 [.int .i64 (i : Int)] rfl rfl (new_int w9 _) (one_int _) (by omega) y1 y2 yb10 _ rfl ?_
                     intro g77 c77 w11 hown2 hg2 hat2 hlt2
                     have S12 : Hid (RefS w F (i + 1) (s + 1) P X Y (.slice (some ⟨g8, 0, none⟩) (i + 1) c8') (.slice (some ⟨g77, 0, none⟩) (s + 1) c77) (r.take s ++ [i]) w11) := Lib.hid (S11.out.outTo hg2 (by rw [List.map_append]; exact hown2) (by rcases hat2 with e | e <;> first | exact .inl e.symm | exact .inr (by rw [e]; rfl)))
                     have O16 := Lib.hid (O15.out.kept hg2 (by
                       cases e : (Value.slice A14 (i - s) c14).ownBlock with
                       | none => exact .inl rfl
                       | some k => exact .inr fun e2 => K14.out k e (by cases e2; rfl)))
                     clear hown2 hg2 hat2 hlt2))
                obtain ⟨A79, c79, hv79⟩ := own_form S13.out.out
                have hnum : s + 1 + (i - s) = i + 1 := by omega
                rw [hnum] at hv79 S13
                subst hv79
                clear hnum
                go_wp2_with fail
                go_roundg (n - (i + 1))
                case measure => omega
                case rel => exact ⟨i + 1, some ⟨g8, 0, none⟩, c8', A79, c79, r.take s ++ [i] ++ r.drop s, rfl, by omega, rfl, rfl, by go_num, S13, HS.out.put hs2 HG.out STOP.out, HK1, fun h => by omega⟩

        · as_aux_lemma =>
          have H2 := Lib.hid h2
          have PX := Lib.hid (fun w => show Calls Try.prog 26 #[.int .i64 x] w fun e w' => e = .returned (.tuple #[.agg #[.int .i64 (refPt x).1, .int .i64 (refPt x).2.1], .int .i64 2]) ∧ Below w.heap.size w w' by
            have := refpoint_any x w
            rw [h2] at this
            exact this)
          clear h2
          go_wp2_with fail
          refine (PX.out _).mono ?_
          rintro e w2 ⟨rfl, hb2⟩
          have S2 := Lib.hid (S1.out.step hb2)
          clear hb2 PX
          go_wp2
          refine bodyPost_ret (v := .tuple #[.slice none 0 0, .int .i64 2]) (by simp [results, Try.results23, go_sem]) rfl ⟨none, 0, [], 2, rfl, .inr ⟨fun hok => ?_, rfl, rfl⟩, fun h => absurd h (by simp), ?_⟩
          · have := hok.2 x (List.mem_of_getElem? HX.out)
            rw [H2.out] at this
            cases this
          · exact S2.out.below.alloc S2.out.below.size _
      · obtain rfl : i = n := by omega
        have hnn : decide ((i : Int) < (i : Int)) = false := decide_eq_false (by omega)
        have OK : Hid (OrdOk from_ l) := by
          refine ⟨H0.out, fun x hx => ?_⟩
          obtain ⟨k, hk⟩ := List.getElem?_of_mem hx
          exact HK.out k x (by rw [HN.out]; exact (List.getElem?_eq_some_iff.1 hk).1) hk
        as_aux_lemma =>
        go_wp2
        refine bodyPost_ret (v := .tuple #[.slice A9 i c9, .int .i64 0]) (by simp [results, Try.results23, go_sem]) rfl ⟨A9, c9, r, 0, by rw [HS.out.length], .inl ⟨OK.out, rfl, ?_⟩, ?_, S1.out.below⟩
        · rw [← HF.out, ← HN.out]
          exact HS.out
        · intro hpos
          have hr : 0 < i := by rw [List.length_map, HS.out.length] at hpos; exact hpos
          obtain ⟨g, c, hv, hgb, hgl⟩ := World.ownsRow.form S1.out.out hr
          injection hv with hA _ _
          refine ⟨g, 0, hA, hgb, hgl, fun k y hk => ?_⟩
          have := S1.out.out.cells (g := g) (by rw [hA]; rfl) k (.int .i64 y) (by
            rw [List.getElem?_map] at hk ⊢
            cases hq : r[k]? with
            | none => rw [hq] at hk; cases hk
            | some z => rw [hq] at hk; cases hk; rfl)
          rw [Nat.zero_add]
          rw [← this]
          unfold Addr.add
          split <;> simp [*]
  · have PA := Lib.hid (fun w => show Calls Try.prog 26 #[.int .i64 from_] w fun e w' => e = .returned (.tuple #[.agg #[.int .i64 (refPt from_).1, .int .i64 (refPt from_).2.1], .int .i64 2]) ∧ Below w.heap.size w w' by
      have := refpoint_any from_ w
      rw [h2] at this
      exact this)
    have H2 := Lib.hid h2
    clear h2
    go_enter Try.func23, Try.ntmps23
    go_wp2_with fail
    refine (PA.out _).mono ?_
    rintro e w1 ⟨rfl, hb1⟩
    have HB1 := Lib.hid hb1
    clear hb1 PA
    go_wp2
    refine bodyPost_ret (v := .tuple #[.slice none 0 0, .int .i64 2]) (by simp [results, Try.results23, go_sem]) rfl ⟨none, 0, [], 2, rfl, .inr ⟨fun hok => ?_, rfl, rfl⟩, fun h => absurd h (by simp), ?_⟩
    · have := hok.1
      rw [H2.out] at this
      cases this
    · exact HB1.out.alloc HB1.out.size _
end Go.Proofs.Ytpaihfdmjkfegaa.Sta
