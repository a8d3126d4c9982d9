/- AgeTotal, walked: a list that is not empty. -/
import Derived.Test.YtmmaolhmhdjldaaDoorTotC
namespace Go.Proofs.YtmmaolhmhdjldaaDoor.AgeS
open Go.RowKit Go.Proofs.YtmmaolhmhdjldaaDoor.Cls Go.Proofs.YtmmaolhmhdjldaaDoor.NT

set_option maxRecDepth 100000 in
set_option maxHeartbeats 8000000 in
theorem total_some (X : Nat → Int × Int) (S : Nat → Int) (b o n cap : Nat) (A : Option Addr) (m c : Nat) (hc : cap ≤ 9223372036854775807) (hnc : n ≤ cap) (hn : n ≤ 40) (hp : 0 < n) (w : World) (hb : b < w.heap.size) (hA : IdsAt w b o n X) (hS : SAt w A m S)
    (htab : AgeW.Tab w) (hsz : 4 ≤ w.heap.size) :
    Calls Tryd.prog 5 #[.slice (some ⟨b, o, none⟩) n cap, .slice A m c] w fun e w' => e = .returned (.bool true) ∧ Below w.heap.size w w' := by
  have HA := Lib.hid hA
  have HS := Lib.hid hS
  have WK := Lib.hid (AgeW.works_any w htab hsz)
  clear hA hS htab hsz
  obtain ⟨C, hCd⟩ : ∃ C : World → Prop, C = Below w.heap.size w := ⟨_, rfl⟩
  have TC : Hid (∀ v, C v → Below w.heap.size w v) := Lib.hid (by rw [hCd]; exact fun _ h => h)
  have MC : Hid (∀ v, Below w.heap.size w v → C v) := Lib.hid (by rw [hCd]; exact fun _ h => h)
  have KC : Hid (∀ v v', C v → Below v.heap.size v v' → C v') := Lib.hid (fun v v' h hb => MC.out _ ((TC.out _ h).trans (hb.mono (TC.out _ h).size)))
  have NE : Nonempty (InCls C) := ⟨⟨w, MC.out _ (Below.refl _ _)⟩⟩
  have XC : Hid (∀ p : InCls C, IdsAt p.w b o n X) := Lib.hid (fun p => HA.out.below hb (TC.out _ p.h))
  have SC : Hid (∀ p : InCls C, SAt p.w A m S) := Lib.hid (fun p => HS.out.below (TC.out _ p.h))
  obtain ⟨st, hst⟩ : ∃ f : Nat → Int, f = stampV S m := ⟨_, rfl⟩
  have RS : Hid (∀ (j : Nat) (p : InCls C), Calls Tryd.prog 17 #[.slice A m c, .int .i64 j] p.w fun e w' => e = .returned (.int .i64 (st j)) ∧ Below p.w.heap.size p.w w') := Lib.hid (fun j p => by rw [hst]; exact (stamp_any S A m c j p.w (SC.out p)).mono fun _ _ ⟨h1, h2⟩ => ⟨h1, by subst h2; exact Below.refl _ _⟩)
  clear hCd hst
  have big : decide ((40 : Int) < (n : Int)) = false := decide_eq_false (by omega)
  go_enter Tryd.func5, Tryd.ntmps5
  go_wp2_with fail
  refine WK.out.mono ?_
  rintro e w1 ⟨rfl, hb1⟩
  have HB1 := Lib.hid hb1
  clear hb1 WK
  go_wp2_with fail
  go_loopg [5] n (RelI n w)
  case atStart => exact ⟨0, by omega, rfl, HB1.out⟩
  case round =>
    clear HB1
    obtain ⟨gi, hgk⟩ : ∃ x, x = gk := ⟨_, rfl⟩
    rw [← hgk] at hrel
    obtain ⟨i, hi, rfl, hB⟩ := hrel
    have HGI := Lib.hid hgk
    have HB := Lib.hid hB
    clear hgk hB
    by_cases hin : i < n
    · as_aux_lemma =>
      have hin' : (i : Int) < (n : Int) := by omega
      go_wp2_with fail
      go_loopg [6] n (RelI n w)
      case atStart => exact ⟨0, by omega, rfl, HB.out⟩
      case round =>
        clear HB
        obtain ⟨gk1, hgk⟩ : ∃ x, x = gk := ⟨_, rfl⟩
        rw [← hgk] at hrel
        obtain ⟨k, hk, rfl, hB⟩ := hrel
        have HGK := Lib.hid hgk
        have HB := Lib.hid hB
        clear hgk hB
        by_cases hkn : k < n
        · as_aux_lemma =>
          have hkn' : (k : Int) < (n : Int) := by omega
          have x0 : ∀ p : InCls C, p.w.cell? ⟨b, o + i * 2, none⟩ = some (.int .i64 (X i).1) := fun p => (XC.out p i hin).1
          have x1 : ∀ p : InCls C, p.w.cell? ⟨b, o + i * 2 + 1, none⟩ = some (.int .i64 (X i).2) := fun p => (XC.out p i hin).2
          have y0 : ∀ p : InCls C, p.w.cell? ⟨b, o + k * 2, none⟩ = some (.int .i64 (X k).1) := fun p => (XC.out p k hkn).1
          have y1 : ∀ p : InCls C, p.w.cell? ⟨b, o + k * 2 + 1, none⟩ = some (.int .i64 (X k).2) := fun p => (XC.out p k hkn).2
          obtain ⟨xi, hxi⟩ : ∃ x, X i = x := ⟨_, rfl⟩
          obtain ⟨xk, hxk⟩ : ∃ x, X k = x := ⟨_, rfl⟩
          rw [hxi] at x0 x1
          rw [hxk] at y0 y1
          have HXI := Lib.hid hxi
          have HXK := Lib.hid hxk
          clear hxi hxk
          obtain ⟨xi0, xi1⟩ := xi
          obtain ⟨xk0, xk1⟩ := xk
          simp only at x0 x1 y0 y1
          obtain ⟨cx, hcx⟩ : ∃ x, ageCmp xi0 xi1 xk0 xk1 = x := ⟨_, rfl⟩
          obtain ⟨cy, hcy⟩ : ∃ x, AgeC.laterCmp (st i) xi0 xi1 (st k) xk0 xk1 = x := ⟨_, rfl⟩
          obtain ⟨q1, q2, q3, q4⟩ := cmp_bounds xi0 xi1 xk0 xk1
          obtain ⟨l1, l2⟩ := later_bounds (st i) xi0 xi1 (st k) xk0 xk1
          have lb1 := laterB (st i) xi0 xi1 (st k) xk0 xk1
          rw [hcx] at q1 q2 q3 q4
          rw [hcy] at l1 l2 lb1
          have RC1 : Hid (∀ w, Calls Tryd.prog 11 #[.agg #[.int .i64 xi0, .int .i64 xi1], .agg #[.int .i64 xk0, .int .i64 xk1]] w fun e w' => e = .returned (.int .i64 cx) ∧ Below w.heap.size w w') := Lib.hid (by rw [← hcx]; exact compare_below xi0 xi1 xk0 xk1)
          have RC2 : Hid (∀ w, Calls Tryd.prog 11 #[.agg #[.int .i64 xk0, .int .i64 xk1], .agg #[.int .i64 xi0, .int .i64 xi1]] w fun e w' => e = .returned (.int .i64 (-cx)) ∧ Below w.heap.size w w') := Lib.hid (by rw [← q3]; exact compare_below xk0 xk1 xi0 xi1)
          have RL1 : Hid (∀ w, Calls Tryd.prog 16 #[.int .i64 (st i), .agg #[.int .i64 xi0, .int .i64 xi1], .int .i64 (st k), .agg #[.int .i64 xk0, .int .i64 xk1]] w fun e w' => e = .returned (.int .i64 cy) ∧ Below w.heap.size w w') := Lib.hid (by rw [← hcy]; exact AgeC.later_any (st i) xi0 xi1 (st k) xk0 xk1)
          have RL2 : Hid (∀ w, Calls Tryd.prog 16 #[.int .i64 (st k), .agg #[.int .i64 xk0, .int .i64 xk1], .int .i64 (st i), .agg #[.int .i64 xi0, .int .i64 xi1]] w fun e w' => e = .returned (.int .i64 (-cy)) ∧ Below w.heap.size w w') := Lib.hid (by rw [← l1]; exact AgeC.later_any (st k) xk0 xk1 (st i) xi0 xi1)
          have HCX := Lib.hid hcx
          have Q4 := Lib.hid q4
          have L2 := Lib.hid l2
          clear hcx hcy q3 q4 l1 l2
          go_wp2_with fail
          refine wp_region_cls C (by kernel_rfl) (by kernel_rfl) (KC.out _ _ (MC.out _ HB.out) (Below.refl _ _).drew) ?_
          repeat (go_big_quiet_step ((go_at_call 11; exact cls_of KC.out (RC1.out _))))
          refine wpQuiet_nil ?_
          intro _ hw'
          obtain ⟨p, hw''⟩ := hw'
          subst hw''
          clear HB
          go_wp2_with fail
          have C1 : decide (cx < -1) = false := decide_eq_false (by omega)
          have C2 : decide (1 < cx) = false := decide_eq_false (by omega)
          refine wp_region_cls C (by kernel_rfl) (by kernel_rfl) (KC.out _ _ p.h (Below.refl _ _).drew) ?_
          repeat (go_big_quiet_step ((first | (go_at_call 17; exact cls_of KC.out (RS.out _ _)) | (go_at_call 16; exact cls_of KC.out (RL1.out _)))))
          refine wpQuiet_nil ?_
          intro _ hw'
          obtain ⟨p2, hw''⟩ := hw'
          subst hw''
          go_wp2_with fail
          obtain ⟨bb, hbb⟩ : ∃ bb, decide ((xi0, xi1) = (xk0, xk1)) = bb := ⟨_, rfl⟩
          have eqi := eqId (xi0, xi1) (xk0, xk1) bb hbb
          have HBB := Lib.hid hbb
          clear hbb
          simp only at eqi
          have e0 : (cx == 0) = bb := by
            rw [← HBB.out]
            rw [Bool.eq_iff_iff]
            simp only [beq_iff_eq, decide_eq_true_eq, Prod.mk.injEq]
            exact Q4.out
          have n1 : (cx != - -cx) = false := by rw [Int.neg_neg]; simp
          have n2 : (cy != - -cy) = false := by rw [Int.neg_neg]; simp
          have g1 : -1 ≤ -cx := by omega
          have g2 : -cx ≤ 1 := by omega
          have g3 : -1 ≤ -cy := by omega
          have g4 : -cy ≤ 1 := by omega
          obtain ⟨yv, hyv⟩ : ∃ y, (cy == 0) = y := ⟨_, rfl⟩
          have HY : Hid (yv = (bb && (st i == st k))) := Lib.hid (by
            rw [← hyv, ← HBB.out]
            rw [Bool.eq_iff_iff]
            simp only [beq_iff_eq, Bool.and_eq_true, decide_eq_true_eq, Prod.mk.injEq]
            rw [L2.out]
            exact ⟨fun h => ⟨h.2, h.1⟩, fun h => ⟨h.2, h.1⟩⟩)
          refine wp_region_cls C (by kernel_rfl) (by kernel_rfl) (KC.out _ _ p2.h (Below.refl _ _).drew) ?_
          simp only [List.append_eq, List.cons_append, List.nil_append]
          repeat (go_big_quiet_step ((first | (go_at_call 17; exact cls_of KC.out (RS.out _ _)) | (go_at_call 16; exact cls_of KC.out (RL2.out _)) | (go_at_call 11; exact cls_of KC.out (RC2.out _)))))
          have tail : True := trivial
          cases bb with
          | false =>
            as_aux_lemma =>
            obtain rfl : yv = false := by simpa using HY.out
            repeat (go_big_quiet_step ((first | (go_at_call 17; exact cls_of KC.out (RS.out _ _)) | (go_at_call 16; exact cls_of KC.out (RL2.out _)) | (go_at_call 11; exact cls_of KC.out (RC2.out _)))))
            refine wpQuiet_nil ?_
            intro _ hw'
            obtain ⟨p3, hw''⟩ := hw'
            subst hw''
            clear eqi n1 n2 e0 hyv x0 x1 y0 y1
            go_wp2_with fail
            go_loopg [9] n (RelI n w)
            case atStart => exact ⟨0, by omega, rfl, TC.out _ p3.h⟩
            case round =>
              obtain ⟨gj1, hgj⟩ : ∃ x, x = gk := ⟨_, rfl⟩
              rw [← hgj] at hrel
              obtain ⟨j, hj, rfl, hB⟩ := hrel
              have HGJ := Lib.hid hgj
              have HB := Lib.hid hB
              clear hgj hB
              by_cases hjn : j < n
              · as_aux_lemma =>
                have hjn' : (j : Int) < (n : Int) := by omega
                have x0 : ∀ p : InCls C, p.w.cell? ⟨b, o + i * 2, none⟩ = some (.int .i64 xi0) := fun p => by have h := (XC.out p i hin).1; rw [HXI.out] at h; exact h
                have x1 : ∀ p : InCls C, p.w.cell? ⟨b, o + i * 2 + 1, none⟩ = some (.int .i64 xi1) := fun p => by have h := (XC.out p i hin).2; rw [HXI.out] at h; exact h
                have y0 : ∀ p : InCls C, p.w.cell? ⟨b, o + k * 2, none⟩ = some (.int .i64 xk0) := fun p => by have h := (XC.out p k hkn).1; rw [HXK.out] at h; exact h
                have y1 : ∀ p : InCls C, p.w.cell? ⟨b, o + k * 2 + 1, none⟩ = some (.int .i64 xk1) := fun p => by have h := (XC.out p k hkn).2; rw [HXK.out] at h; exact h
                have z0 : ∀ p : InCls C, p.w.cell? ⟨b, o + j * 2, none⟩ = some (.int .i64 (X j).1) := fun p => (XC.out p j hjn).1
                have z1 : ∀ p : InCls C, p.w.cell? ⟨b, o + j * 2 + 1, none⟩ = some (.int .i64 (X j).2) := fun p => (XC.out p j hjn).2
                obtain ⟨⟨xj0, xj1⟩, hxj⟩ : ∃ x, X j = x := ⟨_, rfl⟩
                rw [hxj] at z0 z1
                clear hxj
                simp only at z0 z1
                obtain ⟨cj, hcj⟩ : ∃ x, ageCmp xk0 xk1 xj0 xj1 = x := ⟨_, rfl⟩
                obtain ⟨ci, hci⟩ : ∃ x, ageCmp xi0 xi1 xj0 xj1 = x := ⟨_, rfl⟩
                have TR : Hid (cx ≤ 0 → cj ≤ 0 → ¬ 0 < ci) := Lib.hid (fun h1 h2 => by rw [← hci]; exact cmp_tr (by rw [HCX.out]; exact h1) (by rw [hcj]; exact h2))
                have RCJ : Hid (∀ w, Calls Tryd.prog 11 #[.agg #[.int .i64 xk0, .int .i64 xk1], .agg #[.int .i64 xj0, .int .i64 xj1]] w fun e w' => e = .returned (.int .i64 cj) ∧ Below w.heap.size w w') := Lib.hid (by rw [← hcj]; exact compare_below xk0 xk1 xj0 xj1)
                have RCI : Hid (∀ w, Calls Tryd.prog 11 #[.agg #[.int .i64 xi0, .int .i64 xi1], .agg #[.int .i64 xj0, .int .i64 xj1]] w fun e w' => e = .returned (.int .i64 ci) ∧ Below w.heap.size w w') := Lib.hid (by rw [← hci]; exact compare_below xi0 xi1 xj0 xj1)
                clear hcj hci
                go_wp2_with fail
                cases h1 : decide (cx ≤ 0) with
                | false =>
                  refine wp_region_cls C (by kernel_rfl) (by kernel_rfl) (KC.out _ _ (MC.out _ HB.out) (Below.refl _ _).drew) ?_
                  repeat (go_big_quiet_step ((first | (go_at_call_of 11 (Value.agg #[Value.int IntKind.i64 xk0, Value.int IntKind.i64 xk1]); exact cls_of KC.out (RCJ.out _)) | (go_at_call_of 11 (Value.agg #[Value.int IntKind.i64 xi0, Value.int IntKind.i64 xi1]); exact cls_of KC.out (RCI.out _)))))
                  refine wpQuiet_nil ?_
                  intro _ hw'
                  obtain ⟨p4, hw''⟩ := hw'
                  subst hw''
                  clear x0 x1 y0 y1 z0 z1
                  go_wp2_with fail
                  go_roundg (gj1 - 1)
                  case measure => have := HGJ.out; omega
                  case rel => exact ⟨j + 1, by omega, by go_num, TC.out _ p4.h⟩
                | true =>
                  cases h2 : decide (cj ≤ 0) with
                  | false =>
                    refine wp_region_cls C (by kernel_rfl) (by kernel_rfl) (KC.out _ _ (MC.out _ HB.out) (Below.refl _ _).drew) ?_
                    repeat (go_big_quiet_step ((first | (go_at_call_of 11 (Value.agg #[Value.int IntKind.i64 xk0, Value.int IntKind.i64 xk1]); exact cls_of KC.out (RCJ.out _)) | (go_at_call_of 11 (Value.agg #[Value.int IntKind.i64 xi0, Value.int IntKind.i64 xi1]); exact cls_of KC.out (RCI.out _)))))
                    refine wpQuiet_nil ?_
                    intro _ hw'
                    obtain ⟨p4, hw''⟩ := hw'
                    subst hw''
                    clear x0 x1 y0 y1 z0 z1
                    go_wp2_with fail
                    go_roundg (gj1 - 1)
                    case measure => have := HGJ.out; omega
                    case rel => exact ⟨j + 1, by omega, by go_num, TC.out _ p4.h⟩
                  | true =>
                    have h3 : decide (0 < ci) = false := decide_eq_false (by have := TR.out (of_decide_eq_true h1) (of_decide_eq_true h2); omega)
                    refine wp_region_cls C (by kernel_rfl) (by kernel_rfl) (KC.out _ _ (MC.out _ HB.out) (Below.refl _ _).drew) ?_
                    repeat (go_big_quiet_step ((first | (go_at_call_of 11 (Value.agg #[Value.int IntKind.i64 xk0, Value.int IntKind.i64 xk1]); exact cls_of KC.out (RCJ.out _)) | (go_at_call_of 11 (Value.agg #[Value.int IntKind.i64 xi0, Value.int IntKind.i64 xi1]); exact cls_of KC.out (RCI.out _)))))
                    refine wpQuiet_nil ?_
                    intro _ hw'
                    obtain ⟨p4, hw''⟩ := hw'
                    subst hw''
                    clear x0 x1 y0 y1 z0 z1
                    go_wp2_with fail
                    go_roundg (gj1 - 1)
                    case measure => have := HGJ.out; omega
                    case rel => exact ⟨j + 1, by omega, by go_num, TC.out _ p4.h⟩
              · obtain rfl : j = n := by omega
                have hjn' : decide ((j : Int) < (j : Int)) = false := decide_eq_false (by omega)
                go_wp2_with fail
                go_roundg (gk1 - 1)
                case measure => have := HGK.out; omega
                case rel => exact ⟨k + 1, by omega, by go_num, HB.out⟩
          | true =>
            as_aux_lemma =>
            have e2 : (st i == st k) = yv := by simpa using HY.out.symm
            repeat (go_big_quiet_step ((first | (go_at_call 17; exact cls_of KC.out (RS.out _ _)) | (go_at_call 16; exact cls_of KC.out (RL2.out _)) | (go_at_call 11; exact cls_of KC.out (RC2.out _)))))
            refine wpQuiet_nil ?_
            intro _ hw'
            obtain ⟨p3, hw''⟩ := hw'
            subst hw''
            clear eqi n1 n2 e0 hyv x0 x1 y0 y1
            go_wp2_with fail
            go_loopg [9] n (RelI n w)
            case atStart => exact ⟨0, by omega, rfl, TC.out _ p3.h⟩
            case round =>
              obtain ⟨gj1, hgj⟩ : ∃ x, x = gk := ⟨_, rfl⟩
              rw [← hgj] at hrel
              obtain ⟨j, hj, rfl, hB⟩ := hrel
              have HGJ := Lib.hid hgj
              have HB := Lib.hid hB
              clear hgj hB
              by_cases hjn : j < n
              · as_aux_lemma =>
                have hjn' : (j : Int) < (n : Int) := by omega
                have x0 : ∀ p : InCls C, p.w.cell? ⟨b, o + i * 2, none⟩ = some (.int .i64 xi0) := fun p => by have h := (XC.out p i hin).1; rw [HXI.out] at h; exact h
                have x1 : ∀ p : InCls C, p.w.cell? ⟨b, o + i * 2 + 1, none⟩ = some (.int .i64 xi1) := fun p => by have h := (XC.out p i hin).2; rw [HXI.out] at h; exact h
                have y0 : ∀ p : InCls C, p.w.cell? ⟨b, o + k * 2, none⟩ = some (.int .i64 xk0) := fun p => by have h := (XC.out p k hkn).1; rw [HXK.out] at h; exact h
                have y1 : ∀ p : InCls C, p.w.cell? ⟨b, o + k * 2 + 1, none⟩ = some (.int .i64 xk1) := fun p => by have h := (XC.out p k hkn).2; rw [HXK.out] at h; exact h
                have z0 : ∀ p : InCls C, p.w.cell? ⟨b, o + j * 2, none⟩ = some (.int .i64 (X j).1) := fun p => (XC.out p j hjn).1
                have z1 : ∀ p : InCls C, p.w.cell? ⟨b, o + j * 2 + 1, none⟩ = some (.int .i64 (X j).2) := fun p => (XC.out p j hjn).2
                obtain ⟨⟨xj0, xj1⟩, hxj⟩ : ∃ x, X j = x := ⟨_, rfl⟩
                rw [hxj] at z0 z1
                clear hxj
                simp only at z0 z1
                obtain ⟨cj, hcj⟩ : ∃ x, ageCmp xk0 xk1 xj0 xj1 = x := ⟨_, rfl⟩
                obtain ⟨ci, hci⟩ : ∃ x, ageCmp xi0 xi1 xj0 xj1 = x := ⟨_, rfl⟩
                have TR : Hid (cx ≤ 0 → cj ≤ 0 → ¬ 0 < ci) := Lib.hid (fun h1 h2 => by rw [← hci]; exact cmp_tr (by rw [HCX.out]; exact h1) (by rw [hcj]; exact h2))
                have RCJ : Hid (∀ w, Calls Tryd.prog 11 #[.agg #[.int .i64 xk0, .int .i64 xk1], .agg #[.int .i64 xj0, .int .i64 xj1]] w fun e w' => e = .returned (.int .i64 cj) ∧ Below w.heap.size w w') := Lib.hid (by rw [← hcj]; exact compare_below xk0 xk1 xj0 xj1)
                have RCI : Hid (∀ w, Calls Tryd.prog 11 #[.agg #[.int .i64 xi0, .int .i64 xi1], .agg #[.int .i64 xj0, .int .i64 xj1]] w fun e w' => e = .returned (.int .i64 ci) ∧ Below w.heap.size w w') := Lib.hid (by rw [← hci]; exact compare_below xi0 xi1 xj0 xj1)
                clear hcj hci
                go_wp2_with fail
                cases h1 : decide (cx ≤ 0) with
                | false =>
                  refine wp_region_cls C (by kernel_rfl) (by kernel_rfl) (KC.out _ _ (MC.out _ HB.out) (Below.refl _ _).drew) ?_
                  repeat (go_big_quiet_step ((first | (go_at_call_of 11 (Value.agg #[Value.int IntKind.i64 xk0, Value.int IntKind.i64 xk1]); exact cls_of KC.out (RCJ.out _)) | (go_at_call_of 11 (Value.agg #[Value.int IntKind.i64 xi0, Value.int IntKind.i64 xi1]); exact cls_of KC.out (RCI.out _)))))
                  refine wpQuiet_nil ?_
                  intro _ hw'
                  obtain ⟨p4, hw''⟩ := hw'
                  subst hw''
                  clear x0 x1 y0 y1 z0 z1
                  go_wp2_with fail
                  go_roundg (gj1 - 1)
                  case measure => have := HGJ.out; omega
                  case rel => exact ⟨j + 1, by omega, by go_num, TC.out _ p4.h⟩
                | true =>
                  cases h2 : decide (cj ≤ 0) with
                  | false =>
                    refine wp_region_cls C (by kernel_rfl) (by kernel_rfl) (KC.out _ _ (MC.out _ HB.out) (Below.refl _ _).drew) ?_
                    repeat (go_big_quiet_step ((first | (go_at_call_of 11 (Value.agg #[Value.int IntKind.i64 xk0, Value.int IntKind.i64 xk1]); exact cls_of KC.out (RCJ.out _)) | (go_at_call_of 11 (Value.agg #[Value.int IntKind.i64 xi0, Value.int IntKind.i64 xi1]); exact cls_of KC.out (RCI.out _)))))
                    refine wpQuiet_nil ?_
                    intro _ hw'
                    obtain ⟨p4, hw''⟩ := hw'
                    subst hw''
                    clear x0 x1 y0 y1 z0 z1
                    go_wp2_with fail
                    go_roundg (gj1 - 1)
                    case measure => have := HGJ.out; omega
                    case rel => exact ⟨j + 1, by omega, by go_num, TC.out _ p4.h⟩
                  | true =>
                    have h3 : decide (0 < ci) = false := decide_eq_false (by have := TR.out (of_decide_eq_true h1) (of_decide_eq_true h2); omega)
                    refine wp_region_cls C (by kernel_rfl) (by kernel_rfl) (KC.out _ _ (MC.out _ HB.out) (Below.refl _ _).drew) ?_
                    repeat (go_big_quiet_step ((first | (go_at_call_of 11 (Value.agg #[Value.int IntKind.i64 xk0, Value.int IntKind.i64 xk1]); exact cls_of KC.out (RCJ.out _)) | (go_at_call_of 11 (Value.agg #[Value.int IntKind.i64 xi0, Value.int IntKind.i64 xi1]); exact cls_of KC.out (RCI.out _)))))
                    refine wpQuiet_nil ?_
                    intro _ hw'
                    obtain ⟨p4, hw''⟩ := hw'
                    subst hw''
                    clear x0 x1 y0 y1 z0 z1
                    go_wp2_with fail
                    go_roundg (gj1 - 1)
                    case measure => have := HGJ.out; omega
                    case rel => exact ⟨j + 1, by omega, by go_num, TC.out _ p4.h⟩
              · obtain rfl : j = n := by omega
                have hjn' : decide ((j : Int) < (j : Int)) = false := decide_eq_false (by omega)
                go_wp2_with fail
                go_roundg (gk1 - 1)
                case measure => have := HGK.out; omega
                case rel => exact ⟨k + 1, by omega, by go_num, HB.out⟩
        · obtain rfl : k = n := by omega
          have hkn' : decide ((k : Int) < (k : Int)) = false := decide_eq_false (by omega)
          go_wp2_with fail
          go_roundg (gi - 1)
          case measure => have := HGI.out; omega
          case rel => exact ⟨i + 1, by omega, by go_num, HB.out⟩
    · as_aux_lemma =>
      obtain rfl : n = i := by omega
      have hin' : decide ((n : Int) < (n : Int)) = false := decide_eq_false (by omega)
      go_wp2_with fail
      obtain ⟨i0, hi0, hz0, hz1, hz2⟩ := info_parts infoId
      go_loopg [10, 11] n (RelT X n w)
      case atStart => exact ⟨0, by omega, by first | rfl | (congr 1; omega), World.ownsRow_nil _ _ _ _, HB.out⟩
      case round =>
        clear HB
        obtain ⟨g4, hg4⟩ : ∃ x, x = gk := ⟨_, rfl⟩
        rw [← hg4] at hrel
        obtain ⟨t, ht, rfl, hown, hB⟩ := hrel
        have HG4 := Lib.hid hg4
        have HB := Lib.hid hB
        have HW := Lib.hid hown
        clear hg4 hB hown
        by_cases htn : t < n
        · as_aux_lemma =>
          obtain ⟨q, hq⟩ : ∃ q : Nat, (n : Int) - 1 - (t : Int) = q := ⟨n - 1 - t, by omega⟩
          rw [hq]
          have HQ := Lib.hid hq
          clear hq
          have hqn : q < n := by have := HQ.out; omega
          have hqn' : (q : Int) < (n : Int) := by omega
          have hq0 : 0 ≤ (q : Int) := by omega
          have hq1 : decide (0 ≤ (q : Int)) = true := decide_eq_true hq0
          have c0 : wr.cell? ⟨b, o + q * 2, none⟩ = some (.int .i64 (X q).1) := (HA.out.below hb HB.out q hqn).1
          have c1 : wr.cell? ⟨b, o + q * 2 + 1, none⟩ = some (.int .i64 (X q).2) := (HA.out.below hb HB.out q hqn).2
          obtain ⟨⟨x0, x1⟩, hx⟩ : ∃ x, X q = x := ⟨_, rfl⟩
          rw [hx] at c0 c1
          have HX := Lib.hid hx
          clear hx
          simp only at c0 c1
          have hbr : ∀ j, u10.ownBlock = some j → w.heap.size ≤ j := fun j hj => (World.ownsRow.lt HW.out j hj).1
          have HBR := Lib.hid hbr
          clear hbr
          go_wp2_with fail
          have OWA : Hid ((wr.alloc (.cells #[.int .i64 x0, .int .i64 x1, .int .i64 x0, .int .i64 x1] 23)).ownsRow w.heap.size 23 2 u10 (t * 2) (idCells (turn X n) (t * 2))) := Lib.hid (World.ownsRow.alloc HW.out _)
          have NW : Hid (∀ j u, (idC (x0, x1) ++ idC (x0, x1))[j]? = some u → (wr.alloc (.cells #[.int .i64 x0, .int .i64 x1, .int .i64 x0, .int .i64 x1] 23)).cell? ((⟨wr.heap.size, 0, none⟩ : Addr).add j) = some u) := Lib.hid (cell_alloc4 wr x0 x1)
          have hsw := HB.out.size
          have hbw : b < wr.heap.size := by omega
          have hml : t * 2 + 2 ≤ maxLen := by unfold maxLen; omega
          have hbs : w.heap.size ≤ (wr.alloc (.cells #[.int .i64 x0, .int .i64 x1, .int .i64 x0, .int .i64 x1] 23)).heap.size := by simp; omega
          have hbt : b < (wr.alloc (.cells #[.int .i64 x0, .int .i64 x1, .int .i64 x0, .int .i64 x1] 23)).heap.size := by simp; omega
          go_region_held_law (fun w' => w'.cell? ⟨b, o + q * 2, none⟩ = some (.int .i64 x0) ∧ w'.cell? ⟨b, o + q * 2 + 1, none⟩ = some (.int .i64 x1))
            (first
              | go_keep
              | exact ⟨cell_farO HBR.out hgrow hb hbt ((World.cell?_alloc_lt wr _ ⟨b, o + q * 2, none⟩ hbw).trans c0), cell_farO HBR.out hgrow hb hbt ((World.cell?_alloc_lt wr _ ⟨b, o + q * 2 + 1, none⟩ hbw).trans c1)⟩)
            (first
              | (refine step_append_lies _ (by rfl) (.tmp 173) (.tmp 182) 37 (by rfl) w.heap.size 23 i0 (.agg #[.int .i64 0, .int .i64 0]) 2 16 Tryd.underlying37 hi0 hz0 hz1 hz2 rfl (by decide) u10 (t * 2) (idCells (turn X n) (t * 2)) (by simp [Act.eval]) OWA.out ⟨wr.heap.size, 0, none⟩ 2 2 (idC (x0, x1) ++ idC (x0, x1)) (by simp [Act.eval]) (by rfl) NW.out idC2_one (by omega) hml (by omega) hbs _ (by rfl) ?_
                 intro gt capt w4 hown hgrow hat hlt))
          have HO4 : Hid (w4.ownsRow w.heap.size 23 2 (.slice (some ⟨gt, 0, none⟩) (t * 2 + 2) capt) ((t + 1) * 2) (idCells (turn X n) ((t + 1) * 2))) := Lib.hid (by
            have e : idCells (turn X n) ((t + 1) * 2) = idCells (turn X n) (t * 2) ++ (idC (x0, x1) ++ idC (x0, x1)) := by
              have hQ := HQ.out
              have e1 : turn X n (t * 2) = (x0, x1) := by unfold turn; rw [show n - 1 - t * 2 / 2 = q by omega]; exact HX.out
              have e2 : turn X n (t * 2 + 1) = (x0, x1) := by unfold turn; rw [show n - 1 - (t * 2 + 1) / 2 = q by omega]; exact HX.out
              rw [show (t + 1) * 2 = t * 2 + 1 + 1 by omega]
              show (idCells (turn X n) (t * 2) ++ idC (turn X n (t * 2))) ++ idC (turn X n (t * 2 + 1)) = _
              rw [e1, e2, List.append_assoc]
            rw [e, show (t + 1) * 2 = t * 2 + 2 by omega]
            exact hown)
          have HB4 : Hid (Below w.heap.size w w4) := Lib.hid ((show Below w.heap.size w ((wr.alloc (.cells #[.int .i64 x0, .int .i64 x1, .int .i64 x0, .int .i64 x1] 23)).drew) from (HB.out.alloc hsw _).drew).grown hgrow hbs HBR.out)
          clear hown hgrow hat hlt OWA NW HW HB c0 c1
          go_wp2_with fail
          go_roundg (g4 - 1)
          case measure => have := HG4.out; omega
          case rel => exact ⟨t + 1, by omega, by have := HQ.out; first | (go_num; done) | (congr 1; omega) | (rw [show (n : Int) - 1 - ((t + 1 : Nat) : Int) = (q : Int) - 1 by omega]; go_num), HO4.out, HB4.out⟩
        · as_aux_lemma =>
          have et : t = n := by omega
          have em : (n : Int) - 1 - (t : Int) = -1 := by omega
          rw [em]
          rw [et] at HW
          clear em
          go_wp2_with fail
          refine (age_sort_some X b o n cap (by omega) hp wr (Nat.lt_of_lt_of_le hb HB.out.size) (HA.out.below hb HB.out)).mono ?_
          rintro e w5 ⟨ga, capa, L, rfl, hR, hO, hb5⟩
          have HR := Lib.hid hR
          have HO := Lib.hid hO
          have HB5 : Hid (Below w.heap.size w w5) := Lib.hid (HB.out.trans (hb5.mono HB.out.size))
          have HW5 : Hid (w5.ownsRow w.heap.size 23 2 u10 (n * 2) (idCells (turn X n) (n * 2))) := Lib.hid (World.ownsRow.kept HW.out (row := none) ⟨hb5.os, hb5.tape, hb5.output, hb5.size, fun j hj _ => hb5.block j hj⟩ (by cases u10.ownBlock <;> simp))
          clear hR hO hb5 HW HB
          obtain ⟨z, hz⟩ : ∃ z, L.length = z := ⟨_, rfl⟩
          rw [hz]
          have HZ := Lib.hid hz
          have hzn : z ≤ n := by rw [← hz]; exact HR.out.len
          have hz0 : 0 < z := by rw [← hz]; exact HR.out.pos hp
          clear hz
          obtain ⟨D, hDd⟩ : ∃ D : World → Prop, D = Below w5.heap.size w5 := ⟨_, rfl⟩
          have TD : Hid (∀ v, D v → Below w5.heap.size w5 v) := Lib.hid (by rw [hDd]; exact fun _ h => h)
          have MD : Hid (∀ v, Below w5.heap.size w5 v → D v) := Lib.hid (by rw [hDd]; exact fun _ h => h)
          have KD : Hid (∀ v v', D v → Below v.heap.size v v' → D v') := Lib.hid (fun v v' h hb => MD.out _ ((TD.out _ h).trans (hb.mono (TD.out _ h).size)))
          have ND : Nonempty (InCls D) := ⟨⟨w5, MD.out _ (Below.refl _ _)⟩⟩
          have hb5w : b < w5.heap.size := Nat.lt_of_lt_of_le hb HB5.out.size
          have XD : Hid (∀ p : InCls D, IdsAt p.w b o n X) := Lib.hid (fun p => (HA.out.below hb HB5.out).below hb5w (TD.out _ p.h))
          have LD : Hid (∀ p : InCls D, IdsAt p.w ga 0 z (at_ L)) := Lib.hid (fun p => by have h := HO.out.cells.below HO.out.bounds.2.1 (TD.out _ p.h); rw [HZ.out] at h; exact h)
          clear hDd
          have hex : ∃ gt capt, u10 = .slice (some ⟨gt, 0, none⟩) (n * 2) capt ∧ gt < w5.heap.size ∧ OwnIds w5 w.heap.size gt (n * 2) capt (turn X n) := by
            obtain ⟨gt, capt, hv, _, hlt⟩ := HW5.out.form (by omega)
            refine ⟨gt, capt, hv, hlt, ?_⟩
            have h := HW5.out
            rw [hv] at h
            exact h
          obtain ⟨gt, capt, hv, hgt, hOT⟩ := hex
          rw [hv]
          have HT := Lib.hid hOT
          clear hOT hv HW5
          have hga : ga < w5.heap.size := HO.out.bounds.2.1
          go_wp2_with fail
          go_loopg [13] z (RelI z w5)
          case atStart => exact ⟨0, by omega, rfl, Below.refl _ _⟩
          case round =>
            obtain ⟨g5, hg5⟩ : ∃ x, x = gk := ⟨_, rfl⟩
            rw [← hg5] at hrel
            obtain ⟨i, hi, rfl, hB⟩ := hrel
            have HG5 := Lib.hid hg5
            have HB := Lib.hid hB
            clear hg5 hB
            by_cases hiz : i < z
            · as_aux_lemma =>
              have hiz' : (i : Int) < (z : Int) := by omega
              go_wp2_with fail
              go_loopg [14, 15] n (RelF X (at_ L i) n w5)
              case atStart => exact ⟨0, false, by omega, rfl, rfl, by simp, HB.out⟩
              case round =>
                clear HB
                obtain ⟨g6, hg6⟩ : ∃ x, x = gk := ⟨_, rfl⟩
                rw [← hg6] at hrel
                obtain ⟨k, f, hk, rfl, rfl, hf, hB⟩ := hrel
                have HG6 := Lib.hid hg6
                have HB := Lib.hid hB
                have HF := Lib.hid hf
                clear hg6 hB hf
                by_cases hkn : k < n
                · as_aux_lemma =>
                  have hkn' : (k : Int) < (n : Int) := by omega
                  have x0 := (XD.out ⟨wr, MD.out _ HB.out⟩ k hkn).1
                  have x1 := (XD.out ⟨wr, MD.out _ HB.out⟩ k hkn).2
                  have y0 := (LD.out ⟨wr, MD.out _ HB.out⟩ i hiz).1
                  have y1 := (LD.out ⟨wr, MD.out _ HB.out⟩ i hiz).2
                  obtain ⟨bb, hbb⟩ : ∃ bb, decide (X k = at_ L i) = bb := ⟨_, rfl⟩
                  have eqi := eqId (X k) (at_ L i) bb hbb
                  have HF2 : Hid ((f || bb) = true ↔ ∃ j, j < k + 1 ∧ X j = at_ L i) := Lib.hid (by
                    rw [← hbb, Bool.or_eq_true, HF.out, decide_eq_true_eq]
                    constructor
                    · rintro (⟨j, hj, e⟩ | e)
                      · exact ⟨j, by omega, e⟩
                      · exact ⟨k, by omega, e⟩
                    · rintro ⟨j, hj, e⟩
                      rcases (show j < k ∨ j = k by omega) with h | rfl
                      · exact .inl ⟨j, h, e⟩
                      · exact .inr e)
                  clear hbb
                  generalize X k = xk at x0 x1 eqi
                  generalize hyi : at_ L i = yi at y0 y1 eqi HF HF2
                  have HYI := Lib.hid hyi
                  clear hyi
                  obtain ⟨xk0, xk1⟩ := xk
                  obtain ⟨yi0, yi1⟩ := yi
                  simp only [Nat.zero_add] at x0 x1 y0 y1 eqi
                  cases f with
                  | false =>
                    go_wp2_with fail
                    go_quiet (fail)
                    go_wp2_with fail
                    go_roundg (g6 - 1)
                    case measure => have := HG6.out; omega
                    case rel => exact ⟨k + 1, bb, by omega, by simp, by go_num, by rw [HYI.out]; simpa using HF2.out, pw_drew HB.out⟩
                  | true =>
                    go_wp2_with fail
                    go_quiet (fail)
                    go_wp2_with fail
                    go_roundg (g6 - 1)
                    case measure => have := HG6.out; omega
                    case rel => exact ⟨k + 1, true, by omega, by simp, by go_num, by rw [HYI.out]; simpa using HF2.out, pw_drew HB.out⟩
                · as_aux_lemma =>
                  obtain rfl : n = k := by omega
                  have hkn' : decide ((n : Int) < (n : Int)) = false := decide_eq_false (by omega)
                  obtain rfl : f = true := HF.out.2 (found_all HR.out (by rw [HZ.out]; exact hiz))
                  clear HF
                  rcases (show i = 0 ∨ 0 < i by omega) with h0 | h0
                  · have g0 : decide ((0 : Int) < (i : Int)) = false := decide_eq_false (by omega)
                    have g0' : decide (0 < i) = false := decide_eq_false (by omega)
                    clear h0
                    go_wp2_with fail
                    go_quiet (fail)
                    go_wp2_with fail
                    go_roundg (g5 - 1)
                    case measure => have := HG5.out; omega
                    case rel => exact ⟨i + 1, by omega, by go_num, pw_drew HB.out⟩
                  · have g0 : decide ((0 : Int) < (i : Int)) = true := decide_eq_true (by omega)
                    have g0' : decide (0 < i) = true := decide_eq_true (by omega)
                    obtain ⟨q, hq⟩ : ∃ q : Nat, q + 1 = i := ⟨i - 1, by omega⟩
                    have s1 : IntKind.i64.wrap ((i : Int) - 1) = (q : Int) := wrap_pred hq (by omega)
                    have hqi : q < i := by omega
                    have hqz : (q : Int) < (z : Int) := by omega
                    have hq0 : (0 : Int) ≤ (q : Int) := by omega
                    have RC0 := compare_b (at_ L q) (at_ L i)
                    rw [cmp_m1 (pw_get HR.out.up hqi (by rw [HZ.out]; exact hiz))] at RC0
                    have a0 : ∀ p : InCls D, p.w.cell? ⟨ga, q * 2, none⟩ = some (.int .i64 (at_ L q).1) := fun p => by have h := (LD.out p q (by omega)).1; rw [Nat.zero_add] at h; exact h
                    have a1 : ∀ p : InCls D, p.w.cell? ⟨ga, q * 2 + 1, none⟩ = some (.int .i64 (at_ L q).2) := fun p => by have h := (LD.out p q (by omega)).2; rw [Nat.zero_add] at h; exact h
                    have b0 : ∀ p : InCls D, p.w.cell? ⟨ga, i * 2, none⟩ = some (.int .i64 (at_ L i).1) := fun p => by have h := (LD.out p i hiz).1; rw [Nat.zero_add] at h; exact h
                    have b1 : ∀ p : InCls D, p.w.cell? ⟨ga, i * 2 + 1, none⟩ = some (.int .i64 (at_ L i).2) := fun p => by have h := (LD.out p i hiz).2; rw [Nat.zero_add] at h; exact h
                    have HQ := Lib.hid hq
                    clear hq h0
                    generalize at_ L q = xq at a0 a1 RC0
                    generalize at_ L i = xi at b0 b1 RC0
                    obtain ⟨xq0, xq1⟩ := xq
                    obtain ⟨xi0, xi1⟩ := xi
                    simp only at a0 a1 b0 b1 RC0
                    have RC := Lib.hid RC0
                    clear RC0
                    go_wp2_with fail
                    refine wp_region_cls D (by kernel_rfl) (by kernel_rfl) (KD.out _ _ (MD.out _ HB.out) (Below.refl _ _).drew) ?_
                    repeat (go_big_quiet_step ((go_at_call 11; exact cls_of KD.out (RC.out _))))
                    refine wpQuiet_nil ?_
                    intro _ hw'
                    obtain ⟨p4, hw''⟩ := hw'
                    subst hw''
                    clear a0 a1 b0 b1 s1
                    go_wp2_with fail
                    go_roundg (g5 - 1)
                    case measure => have := HG5.out; omega
                    case rel => exact ⟨i + 1, by omega, by go_num, TD.out _ p4.h⟩
            · as_aux_lemma =>
              obtain rfl : z = i := by omega
              have hzz : decide ((z : Int) < (z : Int)) = false := decide_eq_false (by omega)
              go_wp2_with fail
              go_loopg [16] n (RelI n w5)
              case atStart => exact ⟨0, by omega, rfl, HB.out⟩
              case round =>
                clear HB
                obtain ⟨g7, hg7⟩ : ∃ x, x = gk := ⟨_, rfl⟩
                rw [← hg7] at hrel
                obtain ⟨k, hk, rfl, hB⟩ := hrel
                have HG7 := Lib.hid hg7
                have HB := Lib.hid hB
                clear hg7 hB
                by_cases hkn : k < n
                · as_aux_lemma =>
                  have hkn' : (k : Int) < (n : Int) := by omega
                  go_wp2_with fail
                  go_loopg [17, 18] z (RelF (at_ L) (X k) z w5)
                  case atStart => exact ⟨0, false, by omega, rfl, rfl, by simp, HB.out⟩
                  case round =>
                    clear HB
                    obtain ⟨g8, hg8⟩ : ∃ x, x = gk := ⟨_, rfl⟩
                    rw [← hg8] at hrel
                    obtain ⟨j, f, hj, rfl, rfl, hf, hB⟩ := hrel
                    have HG8 := Lib.hid hg8
                    have HB := Lib.hid hB
                    have HF := Lib.hid hf
                    clear hg8 hB hf
                    by_cases hjz : j < z
                    · as_aux_lemma =>
                      have hjz' : (j : Int) < (z : Int) := by omega
                      have x0 := (XD.out ⟨wr, MD.out _ HB.out⟩ k hkn).1
                      have x1 := (XD.out ⟨wr, MD.out _ HB.out⟩ k hkn).2
                      have y0 := (LD.out ⟨wr, MD.out _ HB.out⟩ j hjz).1
                      have y1 := (LD.out ⟨wr, MD.out _ HB.out⟩ j hjz).2
                      obtain ⟨bb, hbb⟩ : ∃ bb, decide (X k = at_ L j) = bb := ⟨_, rfl⟩
                      have eqi := eqId (X k) (at_ L j) bb hbb
                      have HF2 := Lib.hid (found_step HF.out (bb := bb) (by rw [← hbb, decide_eq_true_eq]; exact ⟨fun h => h.symm, fun h => h.symm⟩))
                      clear hbb
                      generalize at_ L j = yj at y0 y1 eqi
                      generalize hxk : X k = xk at x0 x1 eqi HF HF2
                      have HXK := Lib.hid hxk
                      clear hxk
                      obtain ⟨xk0, xk1⟩ := xk
                      obtain ⟨yj0, yj1⟩ := yj
                      simp only [Nat.zero_add] at x0 x1 y0 y1 eqi
                      cases f with
                      | false =>
                        go_wp2_with fail
                        go_quiet (fail)
                        go_wp2_with fail
                        go_roundg (g8 - 1)
                        case measure => have := HG8.out; omega
                        case rel => exact ⟨j + 1, bb, by omega, by simp, by go_num, by rw [HXK.out]; simpa using HF2.out, pw_drew HB.out⟩
                      | true =>
                        go_wp2_with fail
                        go_quiet (fail)
                        go_wp2_with fail
                        go_roundg (g8 - 1)
                        case measure => have := HG8.out; omega
                        case rel => exact ⟨j + 1, true, by omega, by simp, by go_num, by rw [HXK.out]; simpa using HF2.out, pw_drew HB.out⟩
                    · obtain rfl : z = j := by omega
                      obtain rfl : f = true := HF.out.2 (by have h := found_back HR.out hkn; rw [HZ.out] at h; exact h)
                      clear HF
                      go_wp2_with fail
                      go_roundg (g7 - 1)
                      case measure => have := HG7.out; omega
                      case rel => exact ⟨k + 1, by omega, by go_num, HB.out⟩
                · as_aux_lemma =>
                  obtain rfl : n = k := by omega
                  have hnn : decide ((n : Int) < (n : Int)) = false := decide_eq_false (by omega)
                  have s5 := HB.out.size
                  have hz4 : z ≤ 4000 := by omega
                  go_wp2_with fail
                  refine (sort_to (turn X n) gt 0 (n * 2) capt (by omega) (by omega) wr (by omega) (HT.out.cells.below hgt HB.out) L z HZ.out HR.out.turned).mono ?_
                  rintro e w6 ⟨g6, cap6, rfl, hO6, hb6⟩
                  have HO6 := Lib.hid hO6
                  have HB6 : Hid (Below w5.heap.size w5 w6) := Lib.hid (HB.out.trans (hb6.mono s5))
                  clear hO6 hb6 HT HB
                  have s6 := HB6.out.size
                  go_wp2_with fail
                  refine (same_some (at_ L) ga 0 g6 0 z capa cap6 hz4 w6 (LD.out ⟨w6, MD.out _ HB6.out⟩) HO6.out.cells).mono ?_
                  rintro e w7 ⟨rfl, hb7⟩
                  have HB7 : Hid (Below w5.heap.size w5 w7) := Lib.hid (HB6.out.trans (hb7.mono s6))
                  clear hb7 HO6 HB6
                  have s7 := HB7.out.size
                  go_wp2_with fail
                  refine (sort_to (at_ L) ga 0 z capa hz4 hz0 w7 (by omega) (LD.out ⟨w7, MD.out _ HB7.out⟩) L z HZ.out (HR.out.self HZ.out)).mono ?_
                  rintro e w8 ⟨g8, cap8, rfl, hO8, hb8⟩
                  have HO8 := Lib.hid hO8
                  have HB8 : Hid (Below w5.heap.size w5 w8) := Lib.hid (HB7.out.trans (hb8.mono s7))
                  clear hO8 hb8 HB7
                  have s8 := HB8.out.size
                  go_wp2_with fail
                  refine (same_some (at_ L) ga 0 g8 0 z capa cap8 hz4 w8 (LD.out ⟨w8, MD.out _ HB8.out⟩) HO8.out.cells).mono ?_
                  rintro e w9 ⟨rfl, hb9⟩
                  have HB9 : Hid (Below w5.heap.size w5 w9) := Lib.hid (HB8.out.trans (hb9.mono s8))
                  clear hb9 HO8 HB8
                  have s9 := HB9.out.size
                  go_wp2_with fail
                  refine (oldest_some X b o n cap hnc hp hc w9 (by omega) (XD.out ⟨w9, MD.out _ HB9.out⟩)).mono ?_
                  rintro e w10 ⟨rfl, hb10⟩
                  rw [HR.out.first hp]
                  obtain ⟨⟨a0, a1⟩, hra⟩ : ∃ x, at_ L 0 = x := ⟨_, rfl⟩
                  rw [hra]
                  have RA := Lib.hid hra
                  clear hra
                  simp only
                  have HB10 : Hid (Below w5.heap.size w5 w10) := Lib.hid (HB9.out.trans (hb10.mono s9))
                  clear hb10 HB9
                  have s10 := HB10.out.size
                  go_wp2_with fail
                  have HB11 : Hid (Below w5.heap.size w5 (w10.alloc (.cells #[.int .i64 a0, .int .i64 a1] 23))) := Lib.hid (HB10.out.alloc s10 _)
                  refine (youngest_some X b o n cap hnc hp hc _ (by simp; omega) (XD.out ⟨_, MD.out _ HB11.out⟩)).mono ?_
                  rintro e w11 ⟨rfl, hb11⟩
                  rw [HR.out.last hp, HZ.out]
                  obtain ⟨k1, hk1⟩ : ∃ k1 : Nat, k1 + 1 = z := ⟨z - 1, by omega⟩
                  rw [show z - 1 = k1 by omega]
                  obtain ⟨⟨c0, c1⟩, hrb⟩ : ∃ x, at_ L k1 = x := ⟨_, rfl⟩
                  rw [hrb]
                  have RB := Lib.hid hrb
                  clear hrb
                  simp only
                  have CA0 : Hid (w11.cell? ⟨w10.heap.size, 0, none⟩ = some (.int .i64 a0)) := Lib.hid (by rw [hb11.cell (p := ⟨w10.heap.size, 0, none⟩) (by simp)]; simp [go_sem])
                  have CA1 : Hid (w11.cell? ⟨w10.heap.size, 1, none⟩ = some (.int .i64 a1)) := Lib.hid (by rw [hb11.cell (p := ⟨w10.heap.size, 1, none⟩) (by simp)]; simp [go_sem])
                  have HB12 : Hid (Below w5.heap.size w5 w11) := Lib.hid (HB11.out.trans (hb11.mono (by simp; omega)))
                  have s11 : w10.heap.size < w11.heap.size := by have := hb11.size; simp at this; omega
                  clear hb11 HB11 HB10
                  have s12 := HB12.out.size
                  have s2 : IntKind.i64.wrap ((z : Int) - 1) = (k1 : Int) := wrap_pred hk1 (by omega)
                  have hk1z : (k1 : Int) < (z : Int) := by omega
                  have hk10 : (0 : Int) ≤ (k1 : Int) := by omega
                  have hz0' : (0 : Int) < (z : Int) := by omega
                  have hn0' : decide ((0 : Int) < (n : Int)) = true := decide_eq_true (by omega)
                  have hn0'' : decide (0 < n) = true := decide_eq_true (by omega)
                  go_wp2_with fail
                  obtain ⟨wz, hwz⟩ : ∃ wz, wz = w11.alloc (.cells #[.int .i64 c0, .int .i64 c1] 23) := ⟨_, rfl⟩
                  rw [← hwz]
                  have BZ : Hid (Below w11.heap.size w11 wz) := Lib.hid (by rw [hwz]; exact (Below.refl _ _).alloc (Nat.le_refl _) _)
                  have HB13 : Hid (Below w5.heap.size w5 wz) := Lib.hid (HB12.out.trans (BZ.out.mono s12))
                  have pb0 : wz.cell? ⟨w11.heap.size, 0, none⟩ = some (.int .i64 c0) := by rw [hwz]; simp [go_sem]
                  have pb1 : wz.cell? ⟨w11.heap.size, 1, none⟩ = some (.int .i64 c1) := by rw [hwz]; simp [go_sem]
                  have pa0 := (BZ.out.cell (p := ⟨w10.heap.size, 0, none⟩) s11).trans CA0.out
                  have pa1 := (BZ.out.cell (p := ⟨w10.heap.size, 1, none⟩) s11).trans CA1.out
                  clear hwz
                  have d0 := (LD.out ⟨wz, MD.out _ HB13.out⟩ 0 (by omega)).1
                  have d1 := (LD.out ⟨wz, MD.out _ HB13.out⟩ 0 (by omega)).2
                  have e0 := (LD.out ⟨wz, MD.out _ HB13.out⟩ k1 (by omega)).1
                  have e1 := (LD.out ⟨wz, MD.out _ HB13.out⟩ k1 (by omega)).2
                  rw [RA.out] at d0 d1
                  rw [RB.out] at e0 e1
                  simp only [Nat.zero_add, Nat.zero_mul] at d0 d1 e0 e1
                  have ea := eqId (a0, a1) (a0, a1) true (by simp)
                  have eb := eqId (c0, c1) (c0, c1) true (by simp)
                  simp only at ea eb
                  have HK1 := Lib.hid hk1
                  clear hk1 CA0 CA1
                  go_quiet (fail)
                  go_wp2_with fail
                  go_ret
                  exact ⟨rfl, pw_drew (HB5.out.trans (HB13.out.mono HB5.out.size))⟩
end Go.Proofs.YtmmaolhmhdjldaaDoor.AgeS
