/- The law ClientChecks, walked. -/
import Derived.Test.YtpaihfdmjkfegaaCkH






namespace Go.Proofs.Ytpaihfdmjkfegaa.Ck
open Go.RowKit Go.Lib Go.Proofs.Ytpaihfdmjkfegaa.Sta Go.Proofs.Ytpaihfdmjkfegaa.Rd Go.Proofs.Ytpaihfdmjkfegaa.Far Go.Proofs.Ytpaihfdmjkfegaa.Cls

/-- What the law holds: the copy at H5, what came in at H. -/
structure LawC (w : World) (G F C S : Int) (sp : List ByteArray) (pl : List Int) (A1 A2 A3 A4 : Option Addr) (c1 c2 c3 c4 H H5 : Nat) (v : World) : Prop where
  below : Below w.heap.size w v
  own : CfgAt v H5 G F C (.slice A3 sp.length c3) (.slice A4 pl.length c4) S
  cin : CfgAt v H G F C (.slice A1 sp.length c1) (.slice A2 pl.length c2) S
  r1 : RowIn v v.heap.size A1 (sp.map sV)
  i2 : IntsIn v v.heap.size A2 pl
  r3 : RowIn v v.heap.size A3 (sp.map sV)
  i4 : IntsIn v v.heap.size A4 pl
theorem LawC.step {w : World} {G F C S : Int} {sp : List ByteArray} {pl : List Int} {A1 A2 A3 A4 : Option Addr} {c1 c2 c3 c4 H H5 : Nat} {v v' : World} (h : LawC w G F C S sp pl A1 A2 A3 A4 c1 c2 c3 c4 H H5 v) (hb : Below v.heap.size v v') : LawC w G F C S sp pl A1 A2 A3 A4 c1 c2 c3 c4 H H5 v' :=
  ⟨h.below.trans (hb.mono h.below.size), h.own.below hb, h.cin.below hb, (h.r1.below hb).more hb.size, (h.i2.below hb).more hb.size, (h.r3.below hb).more hb.size, (h.i4.below hb).more hb.size⟩

set_option maxRecDepth 100000 in
set_option maxHeartbeats 6400000 in
theorem checks_walk (number G F C S : Int) (sp : List ByteArray) (pl : List Int) (A1 A2 : Option Addr) (c1 c2 : Nat) (w : World) (h1 : RowIn w w.heap.size A1 (sp.map sV)) (h2 : IntsIn w w.heap.size A2 pl) (hc2 : pl.length ≤ c2) (hs : sp.length ≤ maxLen ∧ sp.length * 16 ≤ 140737488355328) (hp : pl.length ≤ maxLen ∧ pl.length * 8 ≤ 140737488355328) :
    Calls Try.prog 3 #[cfgV G F C (.slice A1 sp.length c1) (.slice A2 pl.length c2) S, .int .i64 number] w fun e w' => e = .returned (.bool true) ∧ Below w.heap.size w w' := by
  have B0 : Hid (Below w.heap.size w (w.alloc (.cells #[.int .i64 G, .int .i64 F, .int .i64 C, .slice A1 sp.length c1, .slice A2 pl.length c2, .int .i64 S] 25))) := Lib.hid ((Below.refl _ _).alloc (Nat.le_refl _) _)
  have K0 : Hid (CfgAt (w.alloc (.cells #[.int .i64 G, .int .i64 F, .int .i64 C, .slice A1 sp.length c1, .slice A2 pl.length c2, .int .i64 S] 25)) w.heap.size G F C (.slice A1 sp.length c1) (.slice A2 pl.length c2) S) := Lib.hid ⟨by simp, by simp [go_sem], by simp [go_sem], by simp [go_sem], by simp [go_sem], by simp [go_sem], by simp [go_sem]⟩
  have CP := Lib.hid (fun v (hb : Below w.heap.size w v) => copied_any G F C S sp pl A1 A2 c1 c2 v ((h1.below hb).more hb.size) ((h2.below hb).more hb.size) hs hp)
  have R1 := Lib.hid h1
  have I2 := Lib.hid h2
  unfold cfgV at CP ⊢
  clear h1 h2 hs hp
  go_enter Try.func3, Try.ntmps3
  go_upto_region 1 with (fail)
  obtain ⟨W, hW⟩ : ∃ W, W = w.alloc (.cells #[.int .i64 G, .int .i64 F, .int .i64 C, .slice A1 sp.length c1, .slice A2 pl.length c2, .int .i64 S] 25) := ⟨_, rfl⟩
  obtain ⟨H, hH⟩ : ∃ H, H = w.heap.size := ⟨_, rfl⟩
  rw [← hW] at B0 K0
  rw [← hH] at K0
  try rw [← hW]
  try rw [← hH]
  clear hW hH
  have k0 := K0.out.c0
  have k1 := K0.out.c1
  have k2 := K0.out.c2
  have k3 := K0.out.c3
  have k4 := K0.out.c4
  have k5 := K0.out.c5
  go_wp2_with fail
  refine (CP.out _ B0.out).mono ?_
  rintro e w1 ⟨A3, c3, A4, c4, rfl, hr3, hi4, hc4, hb⟩
  have L1 : Hid (LawC w G F C S sp pl A1 A2 A3 A4 c1 c2 c3 c4 H w1.heap.size (w1.alloc (.cells #[.int .i64 G, .int .i64 F, .int .i64 C, .slice A3 sp.length c3, .slice A4 pl.length c4, .int .i64 S] 25))) := Lib.hid (by
    have b1 : Below w.heap.size w w1 := B0.out.trans (hb.mono B0.out.size)
    have ba : Below w1.heap.size w1 (w1.alloc (.cells #[.int .i64 G, .int .i64 F, .int .i64 C, .slice A3 sp.length c3, .slice A4 pl.length c4, .int .i64 S] 25)) := (Below.refl _ _).alloc (Nat.le_refl _) _
    have b2 : Below w.heap.size w (w1.alloc (.cells #[.int .i64 G, .int .i64 F, .int .i64 C, .slice A3 sp.length c3, .slice A4 pl.length c4, .int .i64 S] 25)) := b1.trans (ba.mono b1.size)
    exact ⟨b2, ⟨by simp, by simp [go_sem], by simp [go_sem], by simp [go_sem], by simp [go_sem], by simp [go_sem], by simp [go_sem]⟩, (K0.out.below hb).below ba, (R1.out.below b2).more b2.size, (I2.out.below b2).more b2.size, (hr3.below ba).more ba.size, (hi4.below ba).more ba.size⟩)
  have HC4 := Lib.hid hc4
  clear hr3 hi4 hc4 hb CP K0 k0 k1 k2 k3 k4 k5 B0 R1 I2
  go_upto_region 2 with (fail)
  obtain ⟨H5, hH5⟩ : ∃ H, H = w1.heap.size := ⟨_, rfl⟩
  generalize w1.alloc (.cells #[.int .i64 G, .int .i64 F, .int .i64 C, .slice A3 sp.length c3, .slice A4 pl.length c4, .int .i64 S] 25) = W1 at L1 ⊢
  rw [← hH5] at L1 ⊢
  clear hH5
  have k0 := L1.out.own.c0
  have k1 := L1.out.own.c1
  have k2 := L1.out.own.c2
  have k3 := L1.out.own.c3
  have k4 := L1.out.own.c4
  have k5 := L1.out.own.c5
  go_wp2_with fail
  refine (show Calls Try.prog 8 #[.int .i64 number, .agg #[.int .i64 G, .int .i64 F, .int .i64 C, .slice A3 sp.length c3, .slice A4 pl.length c4, .int .i64 S]] W1 _ from clientNew_any number G F C S sp pl A3 A4 c3 c4 W1 L1.out.r3 L1.out.i4 HC4.out).mono ?_
  rintro e w2 ⟨P, rfl, hP1, hP2, hb⟩
  have L2 := Lib.hid (L1.out.step hb)
  obtain ⟨er, her⟩ : ∃ er, er = newErr number C (chk G F C S sp pl) := ⟨_, rfl⟩
  rw [← her] at hP1 hP2 ⊢
  have HER := Lib.hid her
  have HP : Hid ((er = 0 ∧ ∃ p, P = some ⟨p, 0, none⟩) ∨ (er ≠ 0 ∧ P = none)) := Lib.hid (by
    by_cases h : er = 0
    · exact .inl ⟨h, hP2 h⟩
    · exact .inr ⟨h, hP1 h⟩)
  clear hP1 hP2 hb her k0 k1 k2 k3 k4 k5 L1
  have k0 := L2.out.cin.c0
  have k1 := L2.out.cin.c1
  have k2 := L2.out.cin.c2
  have k3 := L2.out.cin.c3
  have k4 := L2.out.cin.c4
  have k5 := L2.out.cin.c5
  go_wp2_with fail
  refine (show Calls Try.prog 9 #[.int .i64 number, .agg #[.int .i64 G, .int .i64 F, .int .i64 C, .slice A1 sp.length c1, .slice A2 pl.length c2, .int .i64 S]] w2 _ from refClientNew_any number G F C S sp pl A1 A2 c1 c2 w2 L2.out.r1 L2.out.i2 hc2).mono ?_
  rintro e w3 ⟨Q, rfl, hP1, hP2, hb⟩
  have L3 := Lib.hid (L2.out.step hb)
  rw [← HER.out] at hP1 hP2 ⊢
  have HQ : Hid ((er = 0 ∧ ∃ p, Q = some ⟨p, 0, none⟩) ∨ (er ≠ 0 ∧ Q = none)) := Lib.hid (by
    by_cases h : er = 0
    · exact .inl ⟨h, hP2 h⟩
    · exact .inr ⟨h, hP1 h⟩)
  clear hP1 hP2 hb k0 k1 k2 k3 k4 k5 L2
  obtain ⟨K, hK⟩ : ∃ C0 : World → Prop, C0 = LawC w G F C S sp pl A1 A2 A3 A4 c1 c2 c3 c4 H H5 := ⟨_, rfl⟩
  have TK : Hid (∀ v, K v → LawC w G F C S sp pl A1 A2 A3 A4 c1 c2 c3 c4 H H5 v) := by rw [hK]; exact fun _ h => h
  have KC : Hid (∀ w w', K w → Below w.heap.size w w' → K w') := by rw [hK]; exact fun _ _ h hb => LawC.step h hb
  have KS : Hid (K w3) := by rw [hK]; exact L3.out
  clear hK L3
  have a0 : ∀ p : InCls K, p.w.cell? ⟨H5, 0, none⟩ = some (.int .i64 G) := fun p => (TK.out _ p.h).own.c0
  have a1 : ∀ p : InCls K, p.w.cell? ⟨H5, 1, none⟩ = some (.int .i64 F) := fun p => (TK.out _ p.h).own.c1
  have a2 : ∀ p : InCls K, p.w.cell? ⟨H5, 2, none⟩ = some (.int .i64 C) := fun p => (TK.out _ p.h).own.c2
  have a3 : ∀ p : InCls K, p.w.cell? ⟨H5, 3, none⟩ = some (.slice A3 sp.length c3) := fun p => (TK.out _ p.h).own.c3
  have a4 : ∀ p : InCls K, p.w.cell? ⟨H5, 4, none⟩ = some (.slice A4 pl.length c4) := fun p => (TK.out _ p.h).own.c4
  have a5 : ∀ p : InCls K, p.w.cell? ⟨H5, 5, none⟩ = some (.int .i64 S) := fun p => (TK.out _ p.h).own.c5
  have b0 : ∀ p : InCls K, p.w.cell? ⟨H, 0, none⟩ = some (.int .i64 G) := fun p => (TK.out _ p.h).cin.c0
  have b1 : ∀ p : InCls K, p.w.cell? ⟨H, 1, none⟩ = some (.int .i64 F) := fun p => (TK.out _ p.h).cin.c1
  have b2 : ∀ p : InCls K, p.w.cell? ⟨H, 2, none⟩ = some (.int .i64 C) := fun p => (TK.out _ p.h).cin.c2
  have b3 : ∀ p : InCls K, p.w.cell? ⟨H, 3, none⟩ = some (.slice A1 sp.length c1) := fun p => (TK.out _ p.h).cin.c3
  have b4 : ∀ p : InCls K, p.w.cell? ⟨H, 4, none⟩ = some (.slice A2 pl.length c2) := fun p => (TK.out _ p.h).cin.c4
  have b5 : ∀ p : InCls K, p.w.cell? ⟨H, 5, none⟩ = some (.int .i64 S) := fun p => (TK.out _ p.h).cin.c5
  have NE : Nonempty (InCls K) := ⟨⟨w3, KS.out⟩⟩
  obtain ⟨ck, hck⟩ : ∃ ck, ck = chk G F C S sp pl := ⟨_, rfl⟩
  have C1 : Hid (∀ p : InCls K, Calls Try.prog 10 #[.agg #[.int .i64 G, .int .i64 F, .int .i64 C, .slice A3 sp.length c3, .slice A4 pl.length c4, .int .i64 S]] p.w fun e w' => e = .returned (.int .i64 ck) ∧ Below p.w.heap.size p.w w') := Lib.hid (fun p => by rw [hck]; exact check_any G F C S sp pl A3 A4 c3 c4 p.w (TK.out _ p.h).r3 (TK.out _ p.h).i4)
  have C2 : Hid (∀ p : InCls K, Calls Try.prog 11 #[.agg #[.int .i64 G, .int .i64 F, .int .i64 C, .slice A1 sp.length c1, .slice A2 pl.length c2, .int .i64 S]] p.w fun e w' => e = .returned (.int .i64 ck) ∧ Below p.w.heap.size p.w w') := Lib.hid (fun p => by rw [hck]; exact refCheck_any G F C S sp pl A1 A2 c1 c2 p.w (TK.out _ p.h).r1 (TK.out _ p.h).i2)
  clear hck
  go_upto_region 4 with (fail)
  rcases HP.out with ⟨e1, p1, rfl⟩ | ⟨e1, rfl⟩ <;> rcases HQ.out with ⟨e2, q1, rfl⟩ | ⟨e2, rfl⟩
  · clear e1 e2 HP HQ HER
    refine wp_region_cls K (by kernel_rfl) (by kernel_rfl) (KC.out _ _ KS.out (Below.refl _ _).drew) ?_
    repeat (go_big_quiet_step (first | (go_at_call 10; exact cls_of KC.out (C1.out _)) | (go_at_call 11; exact cls_of KC.out (C2.out _))))
    refine wpQuiet_nil ?_
    intro _ hw'
    obtain ⟨p, hw''⟩ := hw'
    subst hw''
    have HB := Lib.hid (TK.out _ p.h).below
    clear a0 a1 a2 a3 a4 a5 b0 b1 b2 b3 b4 b5
    go_wp2_with fail
    go_ret
    exact ⟨rfl, HB.out⟩
  · exact absurd e1 e2
  · exact absurd e2 e1
  · clear e1 e2 HP HQ HER
    refine wp_region_cls K (by kernel_rfl) (by kernel_rfl) (KC.out _ _ KS.out (Below.refl _ _).drew) ?_
    repeat (go_big_quiet_step (first | (go_at_call 10; exact cls_of KC.out (C1.out _)) | (go_at_call 11; exact cls_of KC.out (C2.out _))))
    refine wpQuiet_nil ?_
    intro _ hw'
    obtain ⟨p, hw''⟩ := hw'
    subst hw''
    have HB := Lib.hid (TK.out _ p.h).below
    clear a0 a1 a2 a3 a4 a5 b0 b1 b2 b3 b4 b5
    go_wp2_with fail
    go_ret
    exact ⟨rfl, HB.out⟩

end Go.Proofs.Ytpaihfdmjkfegaa.Ck
