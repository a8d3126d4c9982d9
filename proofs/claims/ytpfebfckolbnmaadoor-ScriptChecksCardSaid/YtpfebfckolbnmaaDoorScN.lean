/- The law ScriptChecks, walked. -/
import Derived.Test.YtpfebfckolbnmaaDoorScM
namespace Go.Proofs.YtpfebfckolbnmaaDoor.Sc
open Go.RowKit Go.Lib Go.Proofs.YtpfebfckolbnmaaDoor.Sta Go.Proofs.YtpfebfckolbnmaaDoor.Rd Go.Proofs.YtpfebfckolbnmaaDoor.Cls Go.Proofs.YtpfebfckolbnmaaDoor.Far Go.Proofs.YtpfebfckolbnmaaDoor.Er
open Go.Proofs.YtpfebfckolbnmaaDoor.PScriptChecks Go.Proofs.YtpfebfckolbnmaaDoorW.PrintWords
open Go.Proofs.YtpfebfckolbnmaaDoor.Ck (RowIn sV)

theorem step_b {W v v' : World} (h : Below W.heap.size W v) (hb : Below v.heap.size v v') : Below W.heap.size W v' := h.trans (hb.mono h.size)

theorem fault_drew {w w' : World} {r : Int × Int} {v : Value} (h : FaultAt w r v) (hb : Below w.drew.heap.size w.drew w') : FaultAt w' r v := by
  have h' : FaultAt w.drew r v := h
  exact h'.below hb
theorem step_c {W v v' : World} {B : Nat} (h : Below W.heap.size W v) (hb : Below B v v') (e : B = v.heap.size) : Below W.heap.size W v' := by subst e; exact step_b h hb

set_option maxRecDepth 100000 in
set_option maxHeartbeats 6400000 in
theorem checks_walk (G F C S : Int) (sp : List ByteArray) (pl : List Int) (l : List S40) (A1 A2 A3 : Option Addr) (c1 c2 c3 : Nat) (w : World)
    (h1 : Kd.C Kd.string w A1 sp.length sp) (k1 : sp.length ≤ c1) (h2 : Kd.C (Kd.int .i64) w A2 pl.length pl) (k2 : pl.length ≤ c2) (h3 : Kd.C k40 w A3 l.length l) (k3 : l.length ≤ c3)
    (b1 : sp.length * 16 ≤ 140737488351232) (b2 : pl.length * 8 ≤ 140737488351232) (b3 : l.length * 80 ≤ 140737488351232) (hF : FormsAt w) (hE : ErrT w) :
    Calls Tryd.prog 3 #[scrV G F C S (.slice A1 sp.length c1) (.slice A2 pl.length c2) (.slice A3 l.length c3)] w fun e w' => e = .returned (.bool true) ∧ Below w.heap.size w w' := by
  obtain ⟨W1, hW1⟩ : ∃ W1, W1 = w.alloc (.cells #[.int .i64 G, .int .i64 F, .int .i64 C, .slice A1 sp.length c1, .slice A2 pl.length c2, .int .i64 S, .slice A3 l.length c3] 28) := ⟨_, rfl⟩
  have B1 : Hid (Below w.heap.size w W1) := Lib.hid (by rw [hW1]; exact (Below.refl _ _).alloc (Nat.le_refl _) _)
  have Z1 : Hid (W1.heap.size = w.heap.size + 1) := Lib.hid (by rw [hW1]; simp)
  have CC : Hid (W1.cell? ⟨w.heap.size, 0, none⟩ = some (.int .i64 G) ∧ W1.cell? ⟨w.heap.size, 1, none⟩ = some (.int .i64 F) ∧ W1.cell? ⟨w.heap.size, 2, none⟩ = some (.int .i64 C) ∧ W1.cell? ⟨w.heap.size, 3, none⟩ = some (.slice A1 sp.length c1) ∧ W1.cell? ⟨w.heap.size, 4, none⟩ = some (.slice A2 pl.length c2) ∧ W1.cell? ⟨w.heap.size, 5, none⟩ = some (.int .i64 S) ∧ W1.cell? ⟨w.heap.size, 6, none⟩ = some (.slice A3 l.length c3)) :=
    Lib.hid (by rw [hW1]; exact ⟨by simp [go_sem], by simp [go_sem], by simp [go_sem], by simp [go_sem], by simp [go_sem], by simp [go_sem], by simp [go_sem]⟩)
  have HW1 := Lib.hid hW1
  obtain ⟨kl, rl, hlight⟩ := light_any G F C S sp pl l (by omega)
  obtain ⟨ks, hsame⟩ := same_any G F C S sp pl l (by omega) (by omega) (by omega)
  have LI := Lib.hid (fun v (hb : Below w.heap.size w v) => bursarlaw26_light.calls kl G F C A1 c1 sp A2 c2 pl S A3 c3 l rl v (Kd.C_below h1 hb) k1 (Kd.C_below h2 hb) k2 (Kd.C_below h3 hb) k3 hlight)
  have CP := Lib.hid (fun v (hb : Below w.heap.size w v) => bursarref26_Copy.calls G F C A1 c1 sp A2 c2 pl S A3 c3 l G F C sp pl S l v (Kd.C_below h1 hb) k1 (Kd.C_below h2 hb) k2 (Kd.C_below h3 hb) k3 (copy_any G F C S sp pl l (by omega) (by omega) (by omega)))
  have RC := Lib.hid (fun v (hb : Below w.heap.size w v) => refcheck_any G F C S sp pl (l.map toS) A1 A2 A3 c1 c2 c3 v (row_of (Kd.C_below h1 hb)) (ints_of (Kd.C_below h2 hb)) (steps_of (Kd.C_below h3 hb)) (by rw [List.length_map]; unfold maxLen; omega))
  simp only [List.length_map] at RC
  have SA := Lib.hid (fun (A1' A2' A3' : Option Addr) (c1' c2' c3' : Nat) v (hb : Below w.heap.size w v) g1 (j1 : sp.length ≤ c1') g2 (j2 : pl.length ≤ c2') g3 (j3 : l.length ≤ c3') => bursarref26_Same.calls ks G F C A1' c1' sp A2' c2' pl S A3' c3' l G F C A1 c1 sp A2 c2 pl S A3 c3 l true v g1 j1 g2 j2 g3 j3 (Kd.C_below h1 hb) k1 (Kd.C_below h2 hb) k2 (Kd.C_below h3 hb) k3 hsame)
  have HF : Hid (∀ v, Below w.heap.size w v → FormsAt v) := Lib.hid (fun v hb => hF.below hb)
  have HE : Hid (∀ v, Below w.heap.size w v → ErrT v) := Lib.hid (fun v hb => hE.below hb)
  have hml : l.length ≤ maxLen := by unfold maxLen; omega
  have HM := Lib.hid hml
  obtain ⟨r, hr⟩ : ∃ r, r = faultF (Ck.chk G F C S sp pl) (l.map toS) := ⟨_, rfl⟩
  rw [← hr] at RC
  have HR := Lib.hid hr
  clear h1 h2 h3 k1 k2 k3 b1 b2 b3 hF hE hlight hsame hW1 hml hr
  unfold scrV
  go_enter Tryd.func3, Tryd.ntmps3
  go_wp2_with fail
  rw [← HW1.out]
  refine (LI.out _ B1.out).mono ?_
  rintro e w1 ⟨rfl, hb1⟩
  have B2 : Hid (Below w.heap.size w w1) := Lib.hid (step_b B1.out hb1)
  have hsz : w.heap.size < W1.heap.size := by rw [Z1.out]; exact Nat.lt_succ_self _
  obtain ⟨q0, q1, q2, q3, q4, q5, q6⟩ := CC.out
  have d0 := (hb1.cell (p := ⟨w.heap.size, 0, none⟩) hsz).trans q0
  have d1 := (hb1.cell (p := ⟨w.heap.size, 1, none⟩) hsz).trans q1
  have d2 := (hb1.cell (p := ⟨w.heap.size, 2, none⟩) hsz).trans q2
  have d3 := (hb1.cell (p := ⟨w.heap.size, 3, none⟩) hsz).trans q3
  have d4 := (hb1.cell (p := ⟨w.heap.size, 4, none⟩) hsz).trans q4
  have d5 := (hb1.cell (p := ⟨w.heap.size, 5, none⟩) hsz).trans q5
  have d6 := (hb1.cell (p := ⟨w.heap.size, 6, none⟩) hsz).trans q6
  have hz1 : w.heap.size < w1.heap.size := Nat.lt_of_lt_of_le hsz hb1.size
  have HZ1 := Lib.hid hz1
  clear q0 q1 q2 q3 q4 q5 q6 hb1 CC HW1 B1 Z1 hsz hz1 LI
  cases rl with
  | false =>
    clear d0 d1 d2 d3 d4 d5 d6
    go_wp2_with fail
    go_ret
    exact ⟨rfl, B2.out⟩
  | true =>
    go_wp2_with fail
    refine (CP.out _ B2.out).mono ?_
    rintro e w2 ⟨v3, v4, v6, rfl, g3, g4, g6, hb2⟩
    obtain ⟨A3', c3', rfl, j3, g3⟩ := Kd.R_reads g3
    obtain ⟨A4', c4', rfl, j4, g4⟩ := Kd.R_reads g4
    obtain ⟨A6', c6', rfl, j6, g6⟩ := Kd.R_reads g6
    obtain ⟨W3, hW3⟩ : ∃ W3, W3 = w2.alloc (.cells #[.int .i64 G, .int .i64 F, .int .i64 C, .slice A3' sp.length c3', .slice A4' pl.length c4', .int .i64 S, .slice A6' l.length c6'] 28) := ⟨_, rfl⟩
    have hb3 : Below w2.heap.size w2 W3 := by rw [hW3]; exact (Below.refl _ _).alloc (Nat.le_refl _) _
    have B3 : Hid (Below w.heap.size w W3) := Lib.hid (step_b (step_b B2.out hb2) hb3)
    have e0 := ((hb2.trans (hb3.mono hb2.size)).cell (p := ⟨w.heap.size, 0, none⟩) HZ1.out).trans d0
    have e1 := ((hb2.trans (hb3.mono hb2.size)).cell (p := ⟨w.heap.size, 1, none⟩) HZ1.out).trans d1
    have e2 := ((hb2.trans (hb3.mono hb2.size)).cell (p := ⟨w.heap.size, 2, none⟩) HZ1.out).trans d2
    have e3 := ((hb2.trans (hb3.mono hb2.size)).cell (p := ⟨w.heap.size, 3, none⟩) HZ1.out).trans d3
    have e4 := ((hb2.trans (hb3.mono hb2.size)).cell (p := ⟨w.heap.size, 4, none⟩) HZ1.out).trans d4
    have e5 := ((hb2.trans (hb3.mono hb2.size)).cell (p := ⟨w.heap.size, 5, none⟩) HZ1.out).trans d5
    have e6 := ((hb2.trans (hb3.mono hb2.size)).cell (p := ⟨w.heap.size, 6, none⟩) HZ1.out).trans d6
    have o0 : W3.cell? ⟨w2.heap.size, 0, none⟩ = some (.int .i64 G) := by rw [hW3]; simp [go_sem]
    have o1 : W3.cell? ⟨w2.heap.size, 1, none⟩ = some (.int .i64 F) := by rw [hW3]; simp [go_sem]
    have o2 : W3.cell? ⟨w2.heap.size, 2, none⟩ = some (.int .i64 C) := by rw [hW3]; simp [go_sem]
    have o3 : W3.cell? ⟨w2.heap.size, 3, none⟩ = some (.slice A3' sp.length c3') := by rw [hW3]; simp [go_sem]
    have o4 : W3.cell? ⟨w2.heap.size, 4, none⟩ = some (.slice A4' pl.length c4') := by rw [hW3]; simp [go_sem]
    have o5 : W3.cell? ⟨w2.heap.size, 5, none⟩ = some (.int .i64 S) := by rw [hW3]; simp [go_sem]
    have o6 : W3.cell? ⟨w2.heap.size, 6, none⟩ = some (.slice A6' l.length c6') := by rw [hW3]; simp [go_sem]
    have z3 : w2.heap.size < W3.heap.size := by rw [hW3]; simp
    have z1 : w.heap.size < W3.heap.size := Nat.lt_trans (Nat.lt_of_lt_of_le HZ1.out hb2.size) z3
    have CH : Hid (∀ v, Below W3.heap.size W3 v → Calls Tryd.prog 7 #[.agg #[.int .i64 G, .int .i64 F, .int .i64 C, .slice A3' sp.length c3', .slice A4' pl.length c4', .int .i64 S, .slice A6' l.length c6']] v (CheckP v r)) := Lib.hid (fun v hb => by
      have hb' := hb3.trans (hb.mono hb3.size)
      have h := check_any G F C S sp pl (l.map toS) A3' A4' A6' c3' c4' c6' v (row_of (Kd.C_below g3 hb')) (ints_of (Kd.C_below g4 hb')) (steps_of (Kd.C_below g6 hb')) (by rw [List.length_map]; exact HM.out) (HF.out v (step_b B3.out hb))
      rw [List.length_map] at h
      rw [HR.out]
      exact h)
    have SM : Hid (∀ v, Below W3.heap.size W3 v → Calls Tryd.prog 9 #[.agg #[.int .i64 G, .int .i64 F, .int .i64 C, .slice A3' sp.length c3', .slice A4' pl.length c4', .int .i64 S, .slice A6' l.length c6'], .agg #[.int .i64 G, .int .i64 F, .int .i64 C, .slice A1 sp.length c1, .slice A2 pl.length c2, .int .i64 S, .slice A3 l.length c3]] v fun e w' => e = .returned (.bool true) ∧ Below v.heap.size v w') := Lib.hid (fun v hb => SA.out A3' A4' A6' c3' c4' c6' v (step_b B3.out hb) (Kd.C_below g3 (hb3.trans (hb.mono hb3.size))) j3 (Kd.C_below g4 (hb3.trans (hb.mono hb3.size))) j4 (Kd.C_below g6 (hb3.trans (hb.mono hb3.size))) j6)
    have RF : Hid (∀ v, Below W3.heap.size W3 v → Calls Tryd.prog 8 #[.agg #[.int .i64 G, .int .i64 F, .int .i64 C, .slice A1 sp.length c1, .slice A2 pl.length c2, .int .i64 S, .slice A3 l.length c3]] v fun e w' => e = .returned (.agg #[.int .i64 r.1, .int .i64 r.2]) ∧ Below v.heap.size v w') := Lib.hid (fun v hb => RC.out v (step_b B3.out hb))
    have IS : Hid (∀ v ve, Below W3.heap.size W3 v → FaultAt v r ve → Calls Tryd.prog 6 #[ve, .agg #[.int .i64 r.1, .int .i64 r.2]] v fun e w' => e = .returned (.bool true) ∧ Below v.heap.size v w') := Lib.hid (fun v ve hb hf => is_any r ve v (HE.out v (step_b B3.out hb)) hf)
    obtain ⟨H2, hH2⟩ : ∃ H2, H2 = w2.heap.size := ⟨_, rfl⟩
    rw [← hH2] at o0 o1 o2 o3 o4 o5 o6 z3
    have SF : Hid (∀ v, Below W3.heap.size W3 v → v.cell? ⟨H2, 0, none⟩ = some (.int .i64 G) ∧ v.cell? ⟨H2, 1, none⟩ = some (.int .i64 F) ∧ v.cell? ⟨H2, 2, none⟩ = some (.int .i64 C) ∧ v.cell? ⟨H2, 3, none⟩ = some (.slice A3' sp.length c3') ∧ v.cell? ⟨H2, 4, none⟩ = some (.slice A4' pl.length c4') ∧ v.cell? ⟨H2, 5, none⟩ = some (.int .i64 S) ∧ v.cell? ⟨H2, 6, none⟩ = some (.slice A6' l.length c6') ∧ v.cell? ⟨w.heap.size, 0, none⟩ = some (.int .i64 G) ∧ v.cell? ⟨w.heap.size, 1, none⟩ = some (.int .i64 F) ∧ v.cell? ⟨w.heap.size, 2, none⟩ = some (.int .i64 C) ∧ v.cell? ⟨w.heap.size, 3, none⟩ = some (.slice A1 sp.length c1) ∧ v.cell? ⟨w.heap.size, 4, none⟩ = some (.slice A2 pl.length c2) ∧ v.cell? ⟨w.heap.size, 5, none⟩ = some (.int .i64 S) ∧ v.cell? ⟨w.heap.size, 6, none⟩ = some (.slice A3 l.length c3) ∧ Below W3.heap.size W3 v) := Lib.hid (fun v hb => ⟨(hb.cell (p := ⟨H2, 0, none⟩) z3).trans o0, (hb.cell (p := ⟨H2, 1, none⟩) z3).trans o1, (hb.cell (p := ⟨H2, 2, none⟩) z3).trans o2, (hb.cell (p := ⟨H2, 3, none⟩) z3).trans o3, (hb.cell (p := ⟨H2, 4, none⟩) z3).trans o4, (hb.cell (p := ⟨H2, 5, none⟩) z3).trans o5, (hb.cell (p := ⟨H2, 6, none⟩) z3).trans o6,
      (hb.cell (p := ⟨w.heap.size, 0, none⟩) z1).trans e0, (hb.cell (p := ⟨w.heap.size, 1, none⟩) z1).trans e1, (hb.cell (p := ⟨w.heap.size, 2, none⟩) z1).trans e2, (hb.cell (p := ⟨w.heap.size, 3, none⟩) z1).trans e3, (hb.cell (p := ⟨w.heap.size, 4, none⟩) z1).trans e4, (hb.cell (p := ⟨w.heap.size, 5, none⟩) z1).trans e5, (hb.cell (p := ⟨w.heap.size, 6, none⟩) z1).trans e6, hb⟩)
    have LS : Hid (∀ v, (v.cell? ⟨H2, 0, none⟩ = some (.int .i64 G) ∧ v.cell? ⟨H2, 1, none⟩ = some (.int .i64 F) ∧ v.cell? ⟨H2, 2, none⟩ = some (.int .i64 C) ∧ v.cell? ⟨H2, 3, none⟩ = some (.slice A3' sp.length c3') ∧ v.cell? ⟨H2, 4, none⟩ = some (.slice A4' pl.length c4') ∧ v.cell? ⟨H2, 5, none⟩ = some (.int .i64 S) ∧ v.cell? ⟨H2, 6, none⟩ = some (.slice A6' l.length c6') ∧ v.cell? ⟨w.heap.size, 0, none⟩ = some (.int .i64 G) ∧ v.cell? ⟨w.heap.size, 1, none⟩ = some (.int .i64 F) ∧ v.cell? ⟨w.heap.size, 2, none⟩ = some (.int .i64 C) ∧ v.cell? ⟨w.heap.size, 3, none⟩ = some (.slice A1 sp.length c1) ∧ v.cell? ⟨w.heap.size, 4, none⟩ = some (.slice A2 pl.length c2) ∧ v.cell? ⟨w.heap.size, 5, none⟩ = some (.int .i64 S) ∧ v.cell? ⟨w.heap.size, 6, none⟩ = some (.slice A3 l.length c3) ∧ Below W3.heap.size W3 v) → Below W3.heap.size W3 v) := Lib.hid (fun v h => h.2.2.2.2.2.2.2.2.2.2.2.2.2.2)
    have HW3 := Lib.hid hW3
    have HH2 := Lib.hid hH2
    clear hb2 hb3 g3 g4 g6 j3 j4 j6 o0 o1 o2 o3 o4 o5 o6 e0 e1 e2 e3 e4 e5 e6 d0 d1 d2 d3 d4 d5 d6 z1 z3 hW3 hH2 CP RC SA HF HE
    go_wp2_with fail
    rw [← HW3.out, ← HH2.out]
    clear HW3 HH2
    have b00 : Below W3.heap.size W3 W3 := Below.refl _ _
    have b01 : Below W3.heap.size W3 W3.drew := (Below.refl _ _).drew
    go_region_held3 (fun v => v.cell? ⟨H2, 0, none⟩ = some (.int .i64 G) ∧ v.cell? ⟨H2, 1, none⟩ = some (.int .i64 F) ∧ v.cell? ⟨H2, 2, none⟩ = some (.int .i64 C) ∧ v.cell? ⟨H2, 3, none⟩ = some (.slice A3' sp.length c3') ∧ v.cell? ⟨H2, 4, none⟩ = some (.slice A4' pl.length c4') ∧ v.cell? ⟨H2, 5, none⟩ = some (.int .i64 S) ∧ v.cell? ⟨H2, 6, none⟩ = some (.slice A6' l.length c6') ∧ v.cell? ⟨w.heap.size, 0, none⟩ = some (.int .i64 G) ∧ v.cell? ⟨w.heap.size, 1, none⟩ = some (.int .i64 F) ∧ v.cell? ⟨w.heap.size, 2, none⟩ = some (.int .i64 C) ∧ v.cell? ⟨w.heap.size, 3, none⟩ = some (.slice A1 sp.length c1) ∧ v.cell? ⟨w.heap.size, 4, none⟩ = some (.slice A2 pl.length c2) ∧ v.cell? ⟨w.heap.size, 5, none⟩ = some (.int .i64 S) ∧ v.cell? ⟨w.heap.size, 6, none⟩ = some (.slice A3 l.length c3) ∧ Below W3.heap.size W3 v)
      (first | (exact SF.out _ (Below.refl _ _)) | (exact SF.out _ ((Below.refl _ _).drew)) | (refine SF.out _ (@step_c W3 ?_ _ ?_ ?_ ?_ ?_); rotate_left 3; assumption; rfl; (first | assumption | (refine LS.out _ ?_; assumption))))
      (first
        | (go_at_call 7; refine (CH.out _ ?_).mono ?_; (first | assumption | exact (Below.refl _ _).drew | (refine LS.out _ ?_; assumption)); rintro e w4 ⟨hb4, ve, rfl, hf4⟩)
        | (go_at_call 8; refine (RF.out _ ?_).mono ?_; (first | assumption | exact (Below.refl _ _).drew | (refine LS.out _ ?_; assumption)); rintro e w5 ⟨rfl, hb5⟩)
        | (go_at_call 6; refine (IS.out _ _ ?_ ?_).mono ?_; (first | assumption | exact (Below.refl _ _).drew | (refine LS.out _ ?_; assumption)); (first | assumption | (focus (refine @FaultAt.below ?_ _ _ _ ?_ ?_; rotate_left 2; assumption; assumption)) | (focus (refine @fault_drew ?_ _ _ _ ?_ ?_; rotate_left 2; assumption; assumption))); rintro e w6 ⟨rfl, hb6⟩)
        | (go_at_call 9; refine (SM.out _ ?_).mono ?_; (first | assumption | exact (Below.refl _ _).drew | (refine LS.out _ ?_; assumption)); rintro e w7 ⟨rfl, hb7⟩))
    all_goals
      have HB : Hid (Below w.heap.size w w7) := Lib.hid (step_b B3.out (step_c (step_c (step_c (step_c b01 hb4 rfl) hb5 rfl) hb6 rfl) hb7 rfl))
      clear hf4 hb4 hb5 hb6 hb7 LS SF
      go_wp2_with fail
      go_ret
      exact ⟨rfl, HB.out⟩
end Go.Proofs.YtpfebfckolbnmaaDoor.Sc
