/- What is wrong with a step: script.wrong, walked. -/
import Derived.Test.YtpfebfckolbnmaaDoorScD
import Derived.Laws.StructEq
/- What is wrong with a step: script.wrong, walked. -/
namespace Go.Proofs.YtpfebfckolbnmaaDoor.Sc
open Go.RowKit Go.Lib Go.Proofs.YtpfebfckolbnmaaDoor.Sta Go.Proofs.YtpfebfckolbnmaaDoor.Rd Go.Proofs.YtpfebfckolbnmaaDoor.Cls

def eqS (s d : Stp) : Bool := s.kind == d.kind && (s.client == d.client && (s.group == d.group && (s.node == d.node && (s.key == d.key && (s.val == d.val && (s.n == d.n && s.cut == d.cut))))))
theorem neS (s d : Stp) (w : World) : (binOp .neq 40 (.agg #[.int .i64 s.kind, .int .i64 s.client, .int .i64 s.group, .int .i64 s.node, .string s.key, .string s.val, .int .i64 s.n, .int .i64 s.cut]) (.agg #[.int .i64 d.kind, .int .i64 d.client, .int .i64 d.group, .int .i64 d.node, .string d.key, .string d.val, .int .i64 d.n, .int .i64 d.cut])).run Tryd.prog w = .ok (.bool (!eqS s d)) w := by
  unfold eqS
  rw [run_neq_struct]
  simp only [beq_toListBytes]
  simp [go_sem, Tryd.underlying40]
  repeat' split
  all_goals simp_all

theorem known_form {k : Int} (h1 : 1 ≤ k) (h2 : k ≤ 18) : known (formF k) ∧ (formF k).size ≤ 3 := by
  unfold known
  rcases kinds h1 h2 with rfl | rfl | rfl | rfl | rfl | rfl | rfl | rfl | rfl | rfl | rfl | rfl | rfl | rfl | rfl | rfl | rfl | rfl <;> decide

/-- Is a step well formed? -/
def stepOk (s : Stp) : Bool := eqS s (onlyS s (formF s.kind)) && (within s.client 0 15 && (within s.group 0 7 && (within s.node 0 4 && (within s.n 0 255 && (within s.cut (-1) 16384 && (decide ((s.key.size : Int) ≤ 255) && decide ((s.val.size : Int) ≤ 255)))))))
def wrongE (s : Stp) : Int := if s.kind < 1 ∨ 18 < s.kind then 5 else if stepOk s = true then 0 else 6

/-- A form's cells at a block. -/
structure FrmAt (v : World) (H : Nat) (nm f : ByteArray) : Prop where
  lt : H < v.heap.size
  c0 : v.cell? ⟨H, 0, none⟩ = some (.string nm)
  c1 : v.cell? ⟨H, 1, none⟩ = some (.string f)
theorem FrmAt.below {v v' : World} {H : Nat} {nm f : ByteArray} (h : FrmAt v H nm f) (hb : Below v.heap.size v v') : FrmAt v' H nm f :=
  ⟨Nat.lt_of_lt_of_le h.lt hb.size, (hb.cell (p := ⟨H, 0, none⟩) h.lt).trans h.c0, (hb.cell (p := ⟨H, 1, none⟩) h.lt).trans h.c1⟩
/-- What script.wrong holds. -/
structure WrC (w : World) (s : Stp) (nm f : ByteArray) (H2 : Nat) (v : World) : Prop where
  below : Below w.heap.size w v
  st : StpAt v w.heap.size s
  fr : FrmAt v H2 nm f
theorem WrC.step {w : World} {s : Stp} {nm f : ByteArray} {H2 : Nat} {v v' : World} (h : WrC w s nm f H2 v) (hb : Below v.heap.size v v') : WrC w s nm f H2 v' :=
  ⟨h.below.trans (hb.mono h.below.size), h.st.below hb, h.fr.below hb⟩

set_option maxRecDepth 100000 in
set_option maxHeartbeats 25600000 in
theorem wrong_no (s : Stp) (hk : s.kind < 1 ∨ 18 < s.kind) (w : World) (hF : FormsAt w) : Calls Tryd.prog 20 #[s.v] w fun e w' => e = .returned (.int .i64 (wrongE s)) ∧ Below w.heap.size w w' := by
  have B0 : Hid (Below w.heap.size w (w.alloc (.cells #[.int .i64 s.kind, .int .i64 s.client, .int .i64 s.group, .int .i64 s.node, .string s.key, .string s.val, .int .i64 s.n, .int .i64 s.cut] 40))) := Lib.hid ((Below.refl _ _).alloc (Nat.le_refl _) _)
  have S0 : Hid (StpAt (w.alloc (.cells #[.int .i64 s.kind, .int .i64 s.client, .int .i64 s.group, .int .i64 s.node, .string s.key, .string s.val, .int .i64 s.n, .int .i64 s.cut] 40)) w.heap.size s) := Lib.hid ⟨by simp, by simp [go_sem], by simp [go_sem], by simp [go_sem], by simp [go_sem], by simp [go_sem], by simp [go_sem], by simp [go_sem], by simp [go_sem]⟩
  have HF := Lib.hid hF
  clear hF
  unfold Stp.v
  have er : wrongE s = 5 := by unfold wrongE; rw [if_pos hk]
  have OF := Lib.hid (fun v => of_no s.kind hk v)
  clear hk
  go_enter Tryd.func20, Tryd.ntmps20
  go_wp2_with fail
  refine (OF.out _).mono ?_
  rintro e w1 ⟨rfl, hb⟩
  have B1 : Hid (Below w.heap.size w (w1.alloc (.cells #[.string ⟨#[]⟩, .string ⟨#[]⟩] 91))) := Lib.hid ((B0.out.trans (hb.mono B0.out.size)).alloc (Nat.le_trans B0.out.size hb.size) _)
  clear hb
  go_wp2_with fail
  go_ret
  exact ⟨by rw [er]; rfl, B1.out⟩
end Go.Proofs.YtpfebfckolbnmaaDoor.Sc

/- script.wrong, one way. -/
namespace Go.Proofs.YtpfebfckolbnmaaDoor.Sc
open Go.RowKit Go.Lib Go.Proofs.YtpfebfckolbnmaaDoor.Sta Go.Proofs.YtpfebfckolbnmaaDoor.Rd Go.Proofs.YtpfebfckolbnmaaDoor.Cls

set_option maxRecDepth 100000 in
set_option maxHeartbeats 3200000 in
theorem wrong_w0 (s : Stp) (h1 : 1 ≤ s.kind) (h2 : s.kind ≤ 18) (qb : eqS s (onlyS s (formF s.kind)) = false) (w : World) (hF : FormsAt w) : Calls Tryd.prog 20 #[s.v] w fun e w' => e = .returned (.int .i64 (wrongE s)) ∧ Below w.heap.size w w' := by
  have B0 : Hid (Below w.heap.size w (w.alloc (.cells #[.int .i64 s.kind, .int .i64 s.client, .int .i64 s.group, .int .i64 s.node, .string s.key, .string s.val, .int .i64 s.n, .int .i64 s.cut] 40))) := Lib.hid ((Below.refl _ _).alloc (Nat.le_refl _) _)
  have S0 : Hid (StpAt (w.alloc (.cells #[.int .i64 s.kind, .int .i64 s.client, .int .i64 s.group, .int .i64 s.node, .string s.key, .string s.val, .int .i64 s.n, .int .i64 s.cut] 40)) w.heap.size s) := Lib.hid ⟨by simp, by simp [go_sem], by simp [go_sem], by simp [go_sem], by simp [go_sem], by simp [go_sem], by simp [go_sem], by simp [go_sem], by simp [go_sem]⟩
  have HF := Lib.hid hF
  clear hF
  unfold Stp.v
  have er : wrongE s = 6 := by
    unfold wrongE stepOk
    rw [if_neg (by omega)]
    simp [qb]
  have Qb := Lib.hid qb
  clear qb
  have OF := Lib.hid (fun v hv => of_any s.kind h1 h2 v hv)
  have KF := Lib.hid (known_form h1 h2)
  have ER := Lib.hid er
  clear h1 h2 er
  obtain ⟨f, hf⟩ : ∃ f, f = formF s.kind := ⟨_, rfl⟩
  rw [← hf] at OF KF
  have HFF := Lib.hid hf
  clear hf
  go_enter Tryd.func20, Tryd.ntmps20
  go_wp2_with fail
  refine (OF.out _ (HF.out.below B0.out)).mono ?_
  rintro e w1 ⟨⟨nm, rfl⟩, hb⟩
  have L1 : Hid (WrC w s nm f w1.heap.size (w1.alloc (.cells #[.string nm, .string f] 91))) := Lib.hid (by
    have ba : Below w1.heap.size w1 (w1.alloc (.cells #[.string nm, .string f] 91)) := (Below.refl _ _).alloc (Nat.le_refl _) _
    have b1 : Below w.heap.size w w1 := B0.out.trans (hb.mono B0.out.size)
    exact ⟨b1.trans (ba.mono b1.size), (S0.out.below hb).below ba, ⟨by simp, by simp [go_sem], by simp [go_sem]⟩⟩)
  clear hb B0 S0
  go_upto_region 4 with (fail)
  obtain ⟨H2, hH2⟩ : ∃ H2, H2 = w1.heap.size := ⟨_, rfl⟩
  generalize w1.alloc (.cells #[.string nm, .string f] 91) = W1 at L1 ⊢
  rw [← hH2] at L1 ⊢
  obtain ⟨H, hH⟩ : ∃ H, H = w.heap.size := ⟨_, rfl⟩
  obtain ⟨K, hK⟩ : ∃ C0 : World → Prop, C0 = WrC w s nm f H2 := ⟨_, rfl⟩
  have TK : Hid (∀ v, K v → WrC w s nm f H2 v) := by rw [hK]; exact fun _ h => h
  have TS : Hid (∀ v, K v → StpAt v H s) := by rw [hK, hH]; exact fun _ h => h.st
  have KC : Hid (∀ w w', K w → Below w.heap.size w w' → K w') := by rw [hK]; exact fun _ _ h hb => WrC.step h hb
  have KS : Hid (K W1) := by rw [hK]; exact L1.out
  try rw [← hH]
  clear hK L1 hH2 hH
  obtain ⟨d, hd⟩ : ∃ d, d = onlyS s f := ⟨_, rfl⟩
  have CO : Hid (∀ p : InCls K, Calls Tryd.prog 36 #[.agg #[.int .i64 s.kind, .int .i64 s.client, .int .i64 s.group, .int .i64 s.node, .string s.key, .string s.val, .int .i64 s.n, .int .i64 s.cut], .agg #[.string nm, .string f]] p.w fun e w' => e = .returned (.agg #[.int .i64 d.kind, .int .i64 d.client, .int .i64 d.group, .int .i64 d.node, .string d.key, .string d.val, .int .i64 d.n, .int .i64 d.cut]) ∧ Below p.w.heap.size p.w w') := Lib.hid (fun p => by rw [hd]; exact only_any s nm f KF.out.1 KF.out.2 p.w)
  have hne := neS s d
  have qd : eqS s d = false := by rw [hd, HFF.out]; exact Qb.out
  rw [qd] at hne
  clear qd
  clear hd HFF KF OF
  have CW : Hid (∀ (n lo hi : Int) (p : InCls K), Calls Tryd.prog 37 #[.int .i64 n, .int .i64 lo, .int .i64 hi] p.w fun e w' => e = .returned (.bool (within n lo hi)) ∧ Below p.w.heap.size p.w w') := Lib.hid (fun n lo hi p => (within_any n lo hi p.w).mono fun e w' ⟨h1, h2⟩ => ⟨h1, by rw [h2]; exact Below.refl _ _⟩)
  have a0 : ∀ p : InCls K, p.w.cell? ⟨H, 0, none⟩ = some (.int .i64 s.kind) := fun p => (TS.out _ p.h).c0
  have a1 : ∀ p : InCls K, p.w.cell? ⟨H, 1, none⟩ = some (.int .i64 s.client) := fun p => (TS.out _ p.h).c1
  have a2 : ∀ p : InCls K, p.w.cell? ⟨H, 2, none⟩ = some (.int .i64 s.group) := fun p => (TS.out _ p.h).c2
  have a3 : ∀ p : InCls K, p.w.cell? ⟨H, 3, none⟩ = some (.int .i64 s.node) := fun p => (TS.out _ p.h).c3
  have a4 : ∀ p : InCls K, p.w.cell? ⟨H, 4, none⟩ = some (.string s.key) := fun p => (TS.out _ p.h).c4
  have a5 : ∀ p : InCls K, p.w.cell? ⟨H, 5, none⟩ = some (.string s.val) := fun p => (TS.out _ p.h).c5
  have a6 : ∀ p : InCls K, p.w.cell? ⟨H, 6, none⟩ = some (.int .i64 s.n) := fun p => (TS.out _ p.h).c6
  have a7 : ∀ p : InCls K, p.w.cell? ⟨H, 7, none⟩ = some (.int .i64 s.cut) := fun p => (TS.out _ p.h).c7
  have f0 : ∀ p : InCls K, p.w.cell? ⟨H2, 0, none⟩ = some (.string nm) := fun p => (TK.out _ p.h).fr.c0
  have f1 : ∀ p : InCls K, p.w.cell? ⟨H2, 1, none⟩ = some (.string f) := fun p => (TK.out _ p.h).fr.c1
  have NE : Nonempty (InCls K) := ⟨⟨W1, KS.out⟩⟩
  refine wp_region_cls K (by kernel_rfl) (by kernel_rfl) (KC.out _ _ KS.out (Below.refl _ _).drew) ?_
  repeat (go_big_quiet_step (first | (go_at_call 36; exact cls_of KC.out (CO.out _)) | (go_at_call 37; exact cls_of KC.out (CW.out _ _ _ _))))
  refine wpQuiet_nil ?_
  intro _ hw'
  obtain ⟨p, hw''⟩ := hw'
  subst hw''
  have HB := Lib.hid (TK.out _ p.h).below
  clear a0 a1 a2 a3 a4 a5 a6 a7 f0 f1 hne
  go_wp2_with fail
  go_ret
  exact ⟨by rw [ER.out]; rfl, HB.out⟩
end Go.Proofs.YtpfebfckolbnmaaDoor.Sc

/- script.wrong, one way. -/
namespace Go.Proofs.YtpfebfckolbnmaaDoor.Sc
open Go.RowKit Go.Lib Go.Proofs.YtpfebfckolbnmaaDoor.Sta Go.Proofs.YtpfebfckolbnmaaDoor.Rd Go.Proofs.YtpfebfckolbnmaaDoor.Cls

set_option maxRecDepth 100000 in
set_option maxHeartbeats 3200000 in
theorem wrong_w1 (s : Stp) (h1 : 1 ≤ s.kind) (h2 : s.kind ≤ 18) (qb : eqS s (onlyS s (formF s.kind)) = true) (qb1 : within s.client 0 15 = false) (w : World) (hF : FormsAt w) : Calls Tryd.prog 20 #[s.v] w fun e w' => e = .returned (.int .i64 (wrongE s)) ∧ Below w.heap.size w w' := by
  have B0 : Hid (Below w.heap.size w (w.alloc (.cells #[.int .i64 s.kind, .int .i64 s.client, .int .i64 s.group, .int .i64 s.node, .string s.key, .string s.val, .int .i64 s.n, .int .i64 s.cut] 40))) := Lib.hid ((Below.refl _ _).alloc (Nat.le_refl _) _)
  have S0 : Hid (StpAt (w.alloc (.cells #[.int .i64 s.kind, .int .i64 s.client, .int .i64 s.group, .int .i64 s.node, .string s.key, .string s.val, .int .i64 s.n, .int .i64 s.cut] 40)) w.heap.size s) := Lib.hid ⟨by simp, by simp [go_sem], by simp [go_sem], by simp [go_sem], by simp [go_sem], by simp [go_sem], by simp [go_sem], by simp [go_sem], by simp [go_sem]⟩
  have HF := Lib.hid hF
  clear hF
  unfold Stp.v
  have er : wrongE s = 6 := by
    unfold wrongE stepOk
    rw [if_neg (by omega)]
    simp [qb, qb1]
  have Qb := Lib.hid qb
  clear qb
  have Qb1 := Lib.hid qb1
  clear qb1
  have OF := Lib.hid (fun v hv => of_any s.kind h1 h2 v hv)
  have KF := Lib.hid (known_form h1 h2)
  have ER := Lib.hid er
  clear h1 h2 er
  obtain ⟨f, hf⟩ : ∃ f, f = formF s.kind := ⟨_, rfl⟩
  rw [← hf] at OF KF
  have HFF := Lib.hid hf
  clear hf
  go_enter Tryd.func20, Tryd.ntmps20
  go_wp2_with fail
  refine (OF.out _ (HF.out.below B0.out)).mono ?_
  rintro e w1 ⟨⟨nm, rfl⟩, hb⟩
  have L1 : Hid (WrC w s nm f w1.heap.size (w1.alloc (.cells #[.string nm, .string f] 91))) := Lib.hid (by
    have ba : Below w1.heap.size w1 (w1.alloc (.cells #[.string nm, .string f] 91)) := (Below.refl _ _).alloc (Nat.le_refl _) _
    have b1 : Below w.heap.size w w1 := B0.out.trans (hb.mono B0.out.size)
    exact ⟨b1.trans (ba.mono b1.size), (S0.out.below hb).below ba, ⟨by simp, by simp [go_sem], by simp [go_sem]⟩⟩)
  clear hb B0 S0
  go_upto_region 4 with (fail)
  obtain ⟨H2, hH2⟩ : ∃ H2, H2 = w1.heap.size := ⟨_, rfl⟩
  generalize w1.alloc (.cells #[.string nm, .string f] 91) = W1 at L1 ⊢
  rw [← hH2] at L1 ⊢
  obtain ⟨H, hH⟩ : ∃ H, H = w.heap.size := ⟨_, rfl⟩
  obtain ⟨K, hK⟩ : ∃ C0 : World → Prop, C0 = WrC w s nm f H2 := ⟨_, rfl⟩
  have TK : Hid (∀ v, K v → WrC w s nm f H2 v) := by rw [hK]; exact fun _ h => h
  have TS : Hid (∀ v, K v → StpAt v H s) := by rw [hK, hH]; exact fun _ h => h.st
  have KC : Hid (∀ w w', K w → Below w.heap.size w w' → K w') := by rw [hK]; exact fun _ _ h hb => WrC.step h hb
  have KS : Hid (K W1) := by rw [hK]; exact L1.out
  try rw [← hH]
  clear hK L1 hH2 hH
  obtain ⟨d, hd⟩ : ∃ d, d = onlyS s f := ⟨_, rfl⟩
  have CO : Hid (∀ p : InCls K, Calls Tryd.prog 36 #[.agg #[.int .i64 s.kind, .int .i64 s.client, .int .i64 s.group, .int .i64 s.node, .string s.key, .string s.val, .int .i64 s.n, .int .i64 s.cut], .agg #[.string nm, .string f]] p.w fun e w' => e = .returned (.agg #[.int .i64 d.kind, .int .i64 d.client, .int .i64 d.group, .int .i64 d.node, .string d.key, .string d.val, .int .i64 d.n, .int .i64 d.cut]) ∧ Below p.w.heap.size p.w w') := Lib.hid (fun p => by rw [hd]; exact only_any s nm f KF.out.1 KF.out.2 p.w)
  have hne := neS s d
  have qd : eqS s d = true := by rw [hd, HFF.out]; exact Qb.out
  rw [qd] at hne
  clear qd
  clear hd HFF KF OF
  have CW : Hid (∀ (n lo hi : Int) (p : InCls K), Calls Tryd.prog 37 #[.int .i64 n, .int .i64 lo, .int .i64 hi] p.w fun e w' => e = .returned (.bool (within n lo hi)) ∧ Below p.w.heap.size p.w w') := Lib.hid (fun n lo hi p => (within_any n lo hi p.w).mono fun e w' ⟨h1, h2⟩ => ⟨h1, by rw [h2]; exact Below.refl _ _⟩)
  have a0 : ∀ p : InCls K, p.w.cell? ⟨H, 0, none⟩ = some (.int .i64 s.kind) := fun p => (TS.out _ p.h).c0
  have a1 : ∀ p : InCls K, p.w.cell? ⟨H, 1, none⟩ = some (.int .i64 s.client) := fun p => (TS.out _ p.h).c1
  have a2 : ∀ p : InCls K, p.w.cell? ⟨H, 2, none⟩ = some (.int .i64 s.group) := fun p => (TS.out _ p.h).c2
  have a3 : ∀ p : InCls K, p.w.cell? ⟨H, 3, none⟩ = some (.int .i64 s.node) := fun p => (TS.out _ p.h).c3
  have a4 : ∀ p : InCls K, p.w.cell? ⟨H, 4, none⟩ = some (.string s.key) := fun p => (TS.out _ p.h).c4
  have a5 : ∀ p : InCls K, p.w.cell? ⟨H, 5, none⟩ = some (.string s.val) := fun p => (TS.out _ p.h).c5
  have a6 : ∀ p : InCls K, p.w.cell? ⟨H, 6, none⟩ = some (.int .i64 s.n) := fun p => (TS.out _ p.h).c6
  have a7 : ∀ p : InCls K, p.w.cell? ⟨H, 7, none⟩ = some (.int .i64 s.cut) := fun p => (TS.out _ p.h).c7
  have f0 : ∀ p : InCls K, p.w.cell? ⟨H2, 0, none⟩ = some (.string nm) := fun p => (TK.out _ p.h).fr.c0
  have f1 : ∀ p : InCls K, p.w.cell? ⟨H2, 1, none⟩ = some (.string f) := fun p => (TK.out _ p.h).fr.c1
  have NE : Nonempty (InCls K) := ⟨⟨W1, KS.out⟩⟩
  have qb1 := Qb1.out
  clear Qb1
  refine wp_region_cls K (by kernel_rfl) (by kernel_rfl) (KC.out _ _ KS.out (Below.refl _ _).drew) ?_
  repeat (go_big_quiet_step (first | (go_at_call 36; exact cls_of KC.out (CO.out _)) | (go_at_call 37; exact cls_of KC.out (CW.out _ _ _ _))))
  refine wpQuiet_nil ?_
  intro _ hw'
  obtain ⟨p, hw''⟩ := hw'
  subst hw''
  have HB := Lib.hid (TK.out _ p.h).below
  clear a0 a1 a2 a3 a4 a5 a6 a7 f0 f1 hne
  go_wp2_with fail
  go_ret
  exact ⟨by rw [ER.out]; rfl, HB.out⟩
end Go.Proofs.YtpfebfckolbnmaaDoor.Sc

/- script.wrong, one way. -/
namespace Go.Proofs.YtpfebfckolbnmaaDoor.Sc
open Go.RowKit Go.Lib Go.Proofs.YtpfebfckolbnmaaDoor.Sta Go.Proofs.YtpfebfckolbnmaaDoor.Rd Go.Proofs.YtpfebfckolbnmaaDoor.Cls

set_option maxRecDepth 100000 in
set_option maxHeartbeats 3200000 in
theorem wrong_w2 (s : Stp) (h1 : 1 ≤ s.kind) (h2 : s.kind ≤ 18) (qb : eqS s (onlyS s (formF s.kind)) = true) (qb1 : within s.client 0 15 = true) (qb2 : within s.group 0 7 = false) (w : World) (hF : FormsAt w) : Calls Tryd.prog 20 #[s.v] w fun e w' => e = .returned (.int .i64 (wrongE s)) ∧ Below w.heap.size w w' := by
  have B0 : Hid (Below w.heap.size w (w.alloc (.cells #[.int .i64 s.kind, .int .i64 s.client, .int .i64 s.group, .int .i64 s.node, .string s.key, .string s.val, .int .i64 s.n, .int .i64 s.cut] 40))) := Lib.hid ((Below.refl _ _).alloc (Nat.le_refl _) _)
  have S0 : Hid (StpAt (w.alloc (.cells #[.int .i64 s.kind, .int .i64 s.client, .int .i64 s.group, .int .i64 s.node, .string s.key, .string s.val, .int .i64 s.n, .int .i64 s.cut] 40)) w.heap.size s) := Lib.hid ⟨by simp, by simp [go_sem], by simp [go_sem], by simp [go_sem], by simp [go_sem], by simp [go_sem], by simp [go_sem], by simp [go_sem], by simp [go_sem]⟩
  have HF := Lib.hid hF
  clear hF
  unfold Stp.v
  have er : wrongE s = 6 := by
    unfold wrongE stepOk
    rw [if_neg (by omega)]
    simp [qb, qb1, qb2]
  have Qb := Lib.hid qb
  clear qb
  have Qb1 := Lib.hid qb1
  clear qb1
  have Qb2 := Lib.hid qb2
  clear qb2
  have OF := Lib.hid (fun v hv => of_any s.kind h1 h2 v hv)
  have KF := Lib.hid (known_form h1 h2)
  have ER := Lib.hid er
  clear h1 h2 er
  obtain ⟨f, hf⟩ : ∃ f, f = formF s.kind := ⟨_, rfl⟩
  rw [← hf] at OF KF
  have HFF := Lib.hid hf
  clear hf
  go_enter Tryd.func20, Tryd.ntmps20
  go_wp2_with fail
  refine (OF.out _ (HF.out.below B0.out)).mono ?_
  rintro e w1 ⟨⟨nm, rfl⟩, hb⟩
  have L1 : Hid (WrC w s nm f w1.heap.size (w1.alloc (.cells #[.string nm, .string f] 91))) := Lib.hid (by
    have ba : Below w1.heap.size w1 (w1.alloc (.cells #[.string nm, .string f] 91)) := (Below.refl _ _).alloc (Nat.le_refl _) _
    have b1 : Below w.heap.size w w1 := B0.out.trans (hb.mono B0.out.size)
    exact ⟨b1.trans (ba.mono b1.size), (S0.out.below hb).below ba, ⟨by simp, by simp [go_sem], by simp [go_sem]⟩⟩)
  clear hb B0 S0
  go_upto_region 4 with (fail)
  obtain ⟨H2, hH2⟩ : ∃ H2, H2 = w1.heap.size := ⟨_, rfl⟩
  generalize w1.alloc (.cells #[.string nm, .string f] 91) = W1 at L1 ⊢
  rw [← hH2] at L1 ⊢
  obtain ⟨H, hH⟩ : ∃ H, H = w.heap.size := ⟨_, rfl⟩
  obtain ⟨K, hK⟩ : ∃ C0 : World → Prop, C0 = WrC w s nm f H2 := ⟨_, rfl⟩
  have TK : Hid (∀ v, K v → WrC w s nm f H2 v) := by rw [hK]; exact fun _ h => h
  have TS : Hid (∀ v, K v → StpAt v H s) := by rw [hK, hH]; exact fun _ h => h.st
  have KC : Hid (∀ w w', K w → Below w.heap.size w w' → K w') := by rw [hK]; exact fun _ _ h hb => WrC.step h hb
  have KS : Hid (K W1) := by rw [hK]; exact L1.out
  try rw [← hH]
  clear hK L1 hH2 hH
  obtain ⟨d, hd⟩ : ∃ d, d = onlyS s f := ⟨_, rfl⟩
  have CO : Hid (∀ p : InCls K, Calls Tryd.prog 36 #[.agg #[.int .i64 s.kind, .int .i64 s.client, .int .i64 s.group, .int .i64 s.node, .string s.key, .string s.val, .int .i64 s.n, .int .i64 s.cut], .agg #[.string nm, .string f]] p.w fun e w' => e = .returned (.agg #[.int .i64 d.kind, .int .i64 d.client, .int .i64 d.group, .int .i64 d.node, .string d.key, .string d.val, .int .i64 d.n, .int .i64 d.cut]) ∧ Below p.w.heap.size p.w w') := Lib.hid (fun p => by rw [hd]; exact only_any s nm f KF.out.1 KF.out.2 p.w)
  have hne := neS s d
  have qd : eqS s d = true := by rw [hd, HFF.out]; exact Qb.out
  rw [qd] at hne
  clear qd
  clear hd HFF KF OF
  have CW : Hid (∀ (n lo hi : Int) (p : InCls K), Calls Tryd.prog 37 #[.int .i64 n, .int .i64 lo, .int .i64 hi] p.w fun e w' => e = .returned (.bool (within n lo hi)) ∧ Below p.w.heap.size p.w w') := Lib.hid (fun n lo hi p => (within_any n lo hi p.w).mono fun e w' ⟨h1, h2⟩ => ⟨h1, by rw [h2]; exact Below.refl _ _⟩)
  have a0 : ∀ p : InCls K, p.w.cell? ⟨H, 0, none⟩ = some (.int .i64 s.kind) := fun p => (TS.out _ p.h).c0
  have a1 : ∀ p : InCls K, p.w.cell? ⟨H, 1, none⟩ = some (.int .i64 s.client) := fun p => (TS.out _ p.h).c1
  have a2 : ∀ p : InCls K, p.w.cell? ⟨H, 2, none⟩ = some (.int .i64 s.group) := fun p => (TS.out _ p.h).c2
  have a3 : ∀ p : InCls K, p.w.cell? ⟨H, 3, none⟩ = some (.int .i64 s.node) := fun p => (TS.out _ p.h).c3
  have a4 : ∀ p : InCls K, p.w.cell? ⟨H, 4, none⟩ = some (.string s.key) := fun p => (TS.out _ p.h).c4
  have a5 : ∀ p : InCls K, p.w.cell? ⟨H, 5, none⟩ = some (.string s.val) := fun p => (TS.out _ p.h).c5
  have a6 : ∀ p : InCls K, p.w.cell? ⟨H, 6, none⟩ = some (.int .i64 s.n) := fun p => (TS.out _ p.h).c6
  have a7 : ∀ p : InCls K, p.w.cell? ⟨H, 7, none⟩ = some (.int .i64 s.cut) := fun p => (TS.out _ p.h).c7
  have f0 : ∀ p : InCls K, p.w.cell? ⟨H2, 0, none⟩ = some (.string nm) := fun p => (TK.out _ p.h).fr.c0
  have f1 : ∀ p : InCls K, p.w.cell? ⟨H2, 1, none⟩ = some (.string f) := fun p => (TK.out _ p.h).fr.c1
  have NE : Nonempty (InCls K) := ⟨⟨W1, KS.out⟩⟩
  have qb1 := Qb1.out
  clear Qb1
  have qb2 := Qb2.out
  clear Qb2
  refine wp_region_cls K (by kernel_rfl) (by kernel_rfl) (KC.out _ _ KS.out (Below.refl _ _).drew) ?_
  repeat (go_big_quiet_step (first | (go_at_call 36; exact cls_of KC.out (CO.out _)) | (go_at_call 37; exact cls_of KC.out (CW.out _ _ _ _))))
  refine wpQuiet_nil ?_
  intro _ hw'
  obtain ⟨p, hw''⟩ := hw'
  subst hw''
  have HB := Lib.hid (TK.out _ p.h).below
  clear a0 a1 a2 a3 a4 a5 a6 a7 f0 f1 hne
  go_wp2_with fail
  go_ret
  exact ⟨by rw [ER.out]; rfl, HB.out⟩
end Go.Proofs.YtpfebfckolbnmaaDoor.Sc

/- script.wrong, one way. -/
namespace Go.Proofs.YtpfebfckolbnmaaDoor.Sc
open Go.RowKit Go.Lib Go.Proofs.YtpfebfckolbnmaaDoor.Sta Go.Proofs.YtpfebfckolbnmaaDoor.Rd Go.Proofs.YtpfebfckolbnmaaDoor.Cls

set_option maxRecDepth 100000 in
set_option maxHeartbeats 3200000 in
theorem wrong_w3 (s : Stp) (h1 : 1 ≤ s.kind) (h2 : s.kind ≤ 18) (qb : eqS s (onlyS s (formF s.kind)) = true) (qb1 : within s.client 0 15 = true) (qb2 : within s.group 0 7 = true) (qb3 : within s.node 0 4 = false) (w : World) (hF : FormsAt w) : Calls Tryd.prog 20 #[s.v] w fun e w' => e = .returned (.int .i64 (wrongE s)) ∧ Below w.heap.size w w' := by
  have B0 : Hid (Below w.heap.size w (w.alloc (.cells #[.int .i64 s.kind, .int .i64 s.client, .int .i64 s.group, .int .i64 s.node, .string s.key, .string s.val, .int .i64 s.n, .int .i64 s.cut] 40))) := Lib.hid ((Below.refl _ _).alloc (Nat.le_refl _) _)
  have S0 : Hid (StpAt (w.alloc (.cells #[.int .i64 s.kind, .int .i64 s.client, .int .i64 s.group, .int .i64 s.node, .string s.key, .string s.val, .int .i64 s.n, .int .i64 s.cut] 40)) w.heap.size s) := Lib.hid ⟨by simp, by simp [go_sem], by simp [go_sem], by simp [go_sem], by simp [go_sem], by simp [go_sem], by simp [go_sem], by simp [go_sem], by simp [go_sem]⟩
  have HF := Lib.hid hF
  clear hF
  unfold Stp.v
  have er : wrongE s = 6 := by
    unfold wrongE stepOk
    rw [if_neg (by omega)]
    simp [qb, qb1, qb2, qb3]
  have Qb := Lib.hid qb
  clear qb
  have Qb1 := Lib.hid qb1
  clear qb1
  have Qb2 := Lib.hid qb2
  clear qb2
  have Qb3 := Lib.hid qb3
  clear qb3
  have OF := Lib.hid (fun v hv => of_any s.kind h1 h2 v hv)
  have KF := Lib.hid (known_form h1 h2)
  have ER := Lib.hid er
  clear h1 h2 er
  obtain ⟨f, hf⟩ : ∃ f, f = formF s.kind := ⟨_, rfl⟩
  rw [← hf] at OF KF
  have HFF := Lib.hid hf
  clear hf
  go_enter Tryd.func20, Tryd.ntmps20
  go_wp2_with fail
  refine (OF.out _ (HF.out.below B0.out)).mono ?_
  rintro e w1 ⟨⟨nm, rfl⟩, hb⟩
  have L1 : Hid (WrC w s nm f w1.heap.size (w1.alloc (.cells #[.string nm, .string f] 91))) := Lib.hid (by
    have ba : Below w1.heap.size w1 (w1.alloc (.cells #[.string nm, .string f] 91)) := (Below.refl _ _).alloc (Nat.le_refl _) _
    have b1 : Below w.heap.size w w1 := B0.out.trans (hb.mono B0.out.size)
    exact ⟨b1.trans (ba.mono b1.size), (S0.out.below hb).below ba, ⟨by simp, by simp [go_sem], by simp [go_sem]⟩⟩)
  clear hb B0 S0
  go_upto_region 4 with (fail)
  obtain ⟨H2, hH2⟩ : ∃ H2, H2 = w1.heap.size := ⟨_, rfl⟩
  generalize w1.alloc (.cells #[.string nm, .string f] 91) = W1 at L1 ⊢
  rw [← hH2] at L1 ⊢
  obtain ⟨H, hH⟩ : ∃ H, H = w.heap.size := ⟨_, rfl⟩
  obtain ⟨K, hK⟩ : ∃ C0 : World → Prop, C0 = WrC w s nm f H2 := ⟨_, rfl⟩
  have TK : Hid (∀ v, K v → WrC w s nm f H2 v) := by rw [hK]; exact fun _ h => h
  have TS : Hid (∀ v, K v → StpAt v H s) := by rw [hK, hH]; exact fun _ h => h.st
  have KC : Hid (∀ w w', K w → Below w.heap.size w w' → K w') := by rw [hK]; exact fun _ _ h hb => WrC.step h hb
  have KS : Hid (K W1) := by rw [hK]; exact L1.out
  try rw [← hH]
  clear hK L1 hH2 hH
  obtain ⟨d, hd⟩ : ∃ d, d = onlyS s f := ⟨_, rfl⟩
  have CO : Hid (∀ p : InCls K, Calls Tryd.prog 36 #[.agg #[.int .i64 s.kind, .int .i64 s.client, .int .i64 s.group, .int .i64 s.node, .string s.key, .string s.val, .int .i64 s.n, .int .i64 s.cut], .agg #[.string nm, .string f]] p.w fun e w' => e = .returned (.agg #[.int .i64 d.kind, .int .i64 d.client, .int .i64 d.group, .int .i64 d.node, .string d.key, .string d.val, .int .i64 d.n, .int .i64 d.cut]) ∧ Below p.w.heap.size p.w w') := Lib.hid (fun p => by rw [hd]; exact only_any s nm f KF.out.1 KF.out.2 p.w)
  have hne := neS s d
  have qd : eqS s d = true := by rw [hd, HFF.out]; exact Qb.out
  rw [qd] at hne
  clear qd
  clear hd HFF KF OF
  have CW : Hid (∀ (n lo hi : Int) (p : InCls K), Calls Tryd.prog 37 #[.int .i64 n, .int .i64 lo, .int .i64 hi] p.w fun e w' => e = .returned (.bool (within n lo hi)) ∧ Below p.w.heap.size p.w w') := Lib.hid (fun n lo hi p => (within_any n lo hi p.w).mono fun e w' ⟨h1, h2⟩ => ⟨h1, by rw [h2]; exact Below.refl _ _⟩)
  have a0 : ∀ p : InCls K, p.w.cell? ⟨H, 0, none⟩ = some (.int .i64 s.kind) := fun p => (TS.out _ p.h).c0
  have a1 : ∀ p : InCls K, p.w.cell? ⟨H, 1, none⟩ = some (.int .i64 s.client) := fun p => (TS.out _ p.h).c1
  have a2 : ∀ p : InCls K, p.w.cell? ⟨H, 2, none⟩ = some (.int .i64 s.group) := fun p => (TS.out _ p.h).c2
  have a3 : ∀ p : InCls K, p.w.cell? ⟨H, 3, none⟩ = some (.int .i64 s.node) := fun p => (TS.out _ p.h).c3
  have a4 : ∀ p : InCls K, p.w.cell? ⟨H, 4, none⟩ = some (.string s.key) := fun p => (TS.out _ p.h).c4
  have a5 : ∀ p : InCls K, p.w.cell? ⟨H, 5, none⟩ = some (.string s.val) := fun p => (TS.out _ p.h).c5
  have a6 : ∀ p : InCls K, p.w.cell? ⟨H, 6, none⟩ = some (.int .i64 s.n) := fun p => (TS.out _ p.h).c6
  have a7 : ∀ p : InCls K, p.w.cell? ⟨H, 7, none⟩ = some (.int .i64 s.cut) := fun p => (TS.out _ p.h).c7
  have f0 : ∀ p : InCls K, p.w.cell? ⟨H2, 0, none⟩ = some (.string nm) := fun p => (TK.out _ p.h).fr.c0
  have f1 : ∀ p : InCls K, p.w.cell? ⟨H2, 1, none⟩ = some (.string f) := fun p => (TK.out _ p.h).fr.c1
  have NE : Nonempty (InCls K) := ⟨⟨W1, KS.out⟩⟩
  have qb1 := Qb1.out
  clear Qb1
  have qb2 := Qb2.out
  clear Qb2
  have qb3 := Qb3.out
  clear Qb3
  refine wp_region_cls K (by kernel_rfl) (by kernel_rfl) (KC.out _ _ KS.out (Below.refl _ _).drew) ?_
  repeat (go_big_quiet_step (first | (go_at_call 36; exact cls_of KC.out (CO.out _)) | (go_at_call 37; exact cls_of KC.out (CW.out _ _ _ _))))
  refine wpQuiet_nil ?_
  intro _ hw'
  obtain ⟨p, hw''⟩ := hw'
  subst hw''
  have HB := Lib.hid (TK.out _ p.h).below
  clear a0 a1 a2 a3 a4 a5 a6 a7 f0 f1 hne
  go_wp2_with fail
  go_ret
  exact ⟨by rw [ER.out]; rfl, HB.out⟩
end Go.Proofs.YtpfebfckolbnmaaDoor.Sc

/- script.wrong, one way. -/
namespace Go.Proofs.YtpfebfckolbnmaaDoor.Sc
open Go.RowKit Go.Lib Go.Proofs.YtpfebfckolbnmaaDoor.Sta Go.Proofs.YtpfebfckolbnmaaDoor.Rd Go.Proofs.YtpfebfckolbnmaaDoor.Cls

set_option maxRecDepth 100000 in
set_option maxHeartbeats 3200000 in
theorem wrong_w4 (s : Stp) (h1 : 1 ≤ s.kind) (h2 : s.kind ≤ 18) (qb : eqS s (onlyS s (formF s.kind)) = true) (qb1 : within s.client 0 15 = true) (qb2 : within s.group 0 7 = true) (qb3 : within s.node 0 4 = true) (qb4 : within s.n 0 255 = false) (w : World) (hF : FormsAt w) : Calls Tryd.prog 20 #[s.v] w fun e w' => e = .returned (.int .i64 (wrongE s)) ∧ Below w.heap.size w w' := by
  have B0 : Hid (Below w.heap.size w (w.alloc (.cells #[.int .i64 s.kind, .int .i64 s.client, .int .i64 s.group, .int .i64 s.node, .string s.key, .string s.val, .int .i64 s.n, .int .i64 s.cut] 40))) := Lib.hid ((Below.refl _ _).alloc (Nat.le_refl _) _)
  have S0 : Hid (StpAt (w.alloc (.cells #[.int .i64 s.kind, .int .i64 s.client, .int .i64 s.group, .int .i64 s.node, .string s.key, .string s.val, .int .i64 s.n, .int .i64 s.cut] 40)) w.heap.size s) := Lib.hid ⟨by simp, by simp [go_sem], by simp [go_sem], by simp [go_sem], by simp [go_sem], by simp [go_sem], by simp [go_sem], by simp [go_sem], by simp [go_sem]⟩
  have HF := Lib.hid hF
  clear hF
  unfold Stp.v
  have er : wrongE s = 6 := by
    unfold wrongE stepOk
    rw [if_neg (by omega)]
    simp [qb, qb1, qb2, qb3, qb4]
  have Qb := Lib.hid qb
  clear qb
  have Qb1 := Lib.hid qb1
  clear qb1
  have Qb2 := Lib.hid qb2
  clear qb2
  have Qb3 := Lib.hid qb3
  clear qb3
  have Qb4 := Lib.hid qb4
  clear qb4
  have OF := Lib.hid (fun v hv => of_any s.kind h1 h2 v hv)
  have KF := Lib.hid (known_form h1 h2)
  have ER := Lib.hid er
  clear h1 h2 er
  obtain ⟨f, hf⟩ : ∃ f, f = formF s.kind := ⟨_, rfl⟩
  rw [← hf] at OF KF
  have HFF := Lib.hid hf
  clear hf
  go_enter Tryd.func20, Tryd.ntmps20
  go_wp2_with fail
  refine (OF.out _ (HF.out.below B0.out)).mono ?_
  rintro e w1 ⟨⟨nm, rfl⟩, hb⟩
  have L1 : Hid (WrC w s nm f w1.heap.size (w1.alloc (.cells #[.string nm, .string f] 91))) := Lib.hid (by
    have ba : Below w1.heap.size w1 (w1.alloc (.cells #[.string nm, .string f] 91)) := (Below.refl _ _).alloc (Nat.le_refl _) _
    have b1 : Below w.heap.size w w1 := B0.out.trans (hb.mono B0.out.size)
    exact ⟨b1.trans (ba.mono b1.size), (S0.out.below hb).below ba, ⟨by simp, by simp [go_sem], by simp [go_sem]⟩⟩)
  clear hb B0 S0
  go_upto_region 4 with (fail)
  obtain ⟨H2, hH2⟩ : ∃ H2, H2 = w1.heap.size := ⟨_, rfl⟩
  generalize w1.alloc (.cells #[.string nm, .string f] 91) = W1 at L1 ⊢
  rw [← hH2] at L1 ⊢
  obtain ⟨H, hH⟩ : ∃ H, H = w.heap.size := ⟨_, rfl⟩
  obtain ⟨K, hK⟩ : ∃ C0 : World → Prop, C0 = WrC w s nm f H2 := ⟨_, rfl⟩
  have TK : Hid (∀ v, K v → WrC w s nm f H2 v) := by rw [hK]; exact fun _ h => h
  have TS : Hid (∀ v, K v → StpAt v H s) := by rw [hK, hH]; exact fun _ h => h.st
  have KC : Hid (∀ w w', K w → Below w.heap.size w w' → K w') := by rw [hK]; exact fun _ _ h hb => WrC.step h hb
  have KS : Hid (K W1) := by rw [hK]; exact L1.out
  try rw [← hH]
  clear hK L1 hH2 hH
  obtain ⟨d, hd⟩ : ∃ d, d = onlyS s f := ⟨_, rfl⟩
  have CO : Hid (∀ p : InCls K, Calls Tryd.prog 36 #[.agg #[.int .i64 s.kind, .int .i64 s.client, .int .i64 s.group, .int .i64 s.node, .string s.key, .string s.val, .int .i64 s.n, .int .i64 s.cut], .agg #[.string nm, .string f]] p.w fun e w' => e = .returned (.agg #[.int .i64 d.kind, .int .i64 d.client, .int .i64 d.group, .int .i64 d.node, .string d.key, .string d.val, .int .i64 d.n, .int .i64 d.cut]) ∧ Below p.w.heap.size p.w w') := Lib.hid (fun p => by rw [hd]; exact only_any s nm f KF.out.1 KF.out.2 p.w)
  have hne := neS s d
  have qd : eqS s d = true := by rw [hd, HFF.out]; exact Qb.out
  rw [qd] at hne
  clear qd
  clear hd HFF KF OF
  have CW : Hid (∀ (n lo hi : Int) (p : InCls K), Calls Tryd.prog 37 #[.int .i64 n, .int .i64 lo, .int .i64 hi] p.w fun e w' => e = .returned (.bool (within n lo hi)) ∧ Below p.w.heap.size p.w w') := Lib.hid (fun n lo hi p => (within_any n lo hi p.w).mono fun e w' ⟨h1, h2⟩ => ⟨h1, by rw [h2]; exact Below.refl _ _⟩)
  have a0 : ∀ p : InCls K, p.w.cell? ⟨H, 0, none⟩ = some (.int .i64 s.kind) := fun p => (TS.out _ p.h).c0
  have a1 : ∀ p : InCls K, p.w.cell? ⟨H, 1, none⟩ = some (.int .i64 s.client) := fun p => (TS.out _ p.h).c1
  have a2 : ∀ p : InCls K, p.w.cell? ⟨H, 2, none⟩ = some (.int .i64 s.group) := fun p => (TS.out _ p.h).c2
  have a3 : ∀ p : InCls K, p.w.cell? ⟨H, 3, none⟩ = some (.int .i64 s.node) := fun p => (TS.out _ p.h).c3
  have a4 : ∀ p : InCls K, p.w.cell? ⟨H, 4, none⟩ = some (.string s.key) := fun p => (TS.out _ p.h).c4
  have a5 : ∀ p : InCls K, p.w.cell? ⟨H, 5, none⟩ = some (.string s.val) := fun p => (TS.out _ p.h).c5
  have a6 : ∀ p : InCls K, p.w.cell? ⟨H, 6, none⟩ = some (.int .i64 s.n) := fun p => (TS.out _ p.h).c6
  have a7 : ∀ p : InCls K, p.w.cell? ⟨H, 7, none⟩ = some (.int .i64 s.cut) := fun p => (TS.out _ p.h).c7
  have f0 : ∀ p : InCls K, p.w.cell? ⟨H2, 0, none⟩ = some (.string nm) := fun p => (TK.out _ p.h).fr.c0
  have f1 : ∀ p : InCls K, p.w.cell? ⟨H2, 1, none⟩ = some (.string f) := fun p => (TK.out _ p.h).fr.c1
  have NE : Nonempty (InCls K) := ⟨⟨W1, KS.out⟩⟩
  have qb1 := Qb1.out
  clear Qb1
  have qb2 := Qb2.out
  clear Qb2
  have qb3 := Qb3.out
  clear Qb3
  have qb4 := Qb4.out
  clear Qb4
  refine wp_region_cls K (by kernel_rfl) (by kernel_rfl) (KC.out _ _ KS.out (Below.refl _ _).drew) ?_
  repeat (go_big_quiet_step (first | (go_at_call 36; exact cls_of KC.out (CO.out _)) | (go_at_call 37; exact cls_of KC.out (CW.out _ _ _ _))))
  refine wpQuiet_nil ?_
  intro _ hw'
  obtain ⟨p, hw''⟩ := hw'
  subst hw''
  have HB := Lib.hid (TK.out _ p.h).below
  clear a0 a1 a2 a3 a4 a5 a6 a7 f0 f1 hne
  go_wp2_with fail
  go_ret
  exact ⟨by rw [ER.out]; rfl, HB.out⟩
end Go.Proofs.YtpfebfckolbnmaaDoor.Sc

/- script.wrong, one way. -/
namespace Go.Proofs.YtpfebfckolbnmaaDoor.Sc
open Go.RowKit Go.Lib Go.Proofs.YtpfebfckolbnmaaDoor.Sta Go.Proofs.YtpfebfckolbnmaaDoor.Rd Go.Proofs.YtpfebfckolbnmaaDoor.Cls

set_option maxRecDepth 100000 in
set_option maxHeartbeats 3200000 in
theorem wrong_w5 (s : Stp) (h1 : 1 ≤ s.kind) (h2 : s.kind ≤ 18) (qb : eqS s (onlyS s (formF s.kind)) = true) (qb1 : within s.client 0 15 = true) (qb2 : within s.group 0 7 = true) (qb3 : within s.node 0 4 = true) (qb4 : within s.n 0 255 = true) (qb5 : within s.cut (-1) 16384 = false) (w : World) (hF : FormsAt w) : Calls Tryd.prog 20 #[s.v] w fun e w' => e = .returned (.int .i64 (wrongE s)) ∧ Below w.heap.size w w' := by
  have B0 : Hid (Below w.heap.size w (w.alloc (.cells #[.int .i64 s.kind, .int .i64 s.client, .int .i64 s.group, .int .i64 s.node, .string s.key, .string s.val, .int .i64 s.n, .int .i64 s.cut] 40))) := Lib.hid ((Below.refl _ _).alloc (Nat.le_refl _) _)
  have S0 : Hid (StpAt (w.alloc (.cells #[.int .i64 s.kind, .int .i64 s.client, .int .i64 s.group, .int .i64 s.node, .string s.key, .string s.val, .int .i64 s.n, .int .i64 s.cut] 40)) w.heap.size s) := Lib.hid ⟨by simp, by simp [go_sem], by simp [go_sem], by simp [go_sem], by simp [go_sem], by simp [go_sem], by simp [go_sem], by simp [go_sem], by simp [go_sem]⟩
  have HF := Lib.hid hF
  clear hF
  unfold Stp.v
  have er : wrongE s = 6 := by
    unfold wrongE stepOk
    rw [if_neg (by omega)]
    simp [qb, qb1, qb2, qb3, qb4, qb5]
  have Qb := Lib.hid qb
  clear qb
  have Qb1 := Lib.hid qb1
  clear qb1
  have Qb2 := Lib.hid qb2
  clear qb2
  have Qb3 := Lib.hid qb3
  clear qb3
  have Qb4 := Lib.hid qb4
  clear qb4
  have Qb5 := Lib.hid qb5
  clear qb5
  have OF := Lib.hid (fun v hv => of_any s.kind h1 h2 v hv)
  have KF := Lib.hid (known_form h1 h2)
  have ER := Lib.hid er
  clear h1 h2 er
  obtain ⟨f, hf⟩ : ∃ f, f = formF s.kind := ⟨_, rfl⟩
  rw [← hf] at OF KF
  have HFF := Lib.hid hf
  clear hf
  go_enter Tryd.func20, Tryd.ntmps20
  go_wp2_with fail
  refine (OF.out _ (HF.out.below B0.out)).mono ?_
  rintro e w1 ⟨⟨nm, rfl⟩, hb⟩
  have L1 : Hid (WrC w s nm f w1.heap.size (w1.alloc (.cells #[.string nm, .string f] 91))) := Lib.hid (by
    have ba : Below w1.heap.size w1 (w1.alloc (.cells #[.string nm, .string f] 91)) := (Below.refl _ _).alloc (Nat.le_refl _) _
    have b1 : Below w.heap.size w w1 := B0.out.trans (hb.mono B0.out.size)
    exact ⟨b1.trans (ba.mono b1.size), (S0.out.below hb).below ba, ⟨by simp, by simp [go_sem], by simp [go_sem]⟩⟩)
  clear hb B0 S0
  go_upto_region 4 with (fail)
  obtain ⟨H2, hH2⟩ : ∃ H2, H2 = w1.heap.size := ⟨_, rfl⟩
  generalize w1.alloc (.cells #[.string nm, .string f] 91) = W1 at L1 ⊢
  rw [← hH2] at L1 ⊢
  obtain ⟨H, hH⟩ : ∃ H, H = w.heap.size := ⟨_, rfl⟩
  obtain ⟨K, hK⟩ : ∃ C0 : World → Prop, C0 = WrC w s nm f H2 := ⟨_, rfl⟩
  have TK : Hid (∀ v, K v → WrC w s nm f H2 v) := by rw [hK]; exact fun _ h => h
  have TS : Hid (∀ v, K v → StpAt v H s) := by rw [hK, hH]; exact fun _ h => h.st
  have KC : Hid (∀ w w', K w → Below w.heap.size w w' → K w') := by rw [hK]; exact fun _ _ h hb => WrC.step h hb
  have KS : Hid (K W1) := by rw [hK]; exact L1.out
  try rw [← hH]
  clear hK L1 hH2 hH
  obtain ⟨d, hd⟩ : ∃ d, d = onlyS s f := ⟨_, rfl⟩
  have CO : Hid (∀ p : InCls K, Calls Tryd.prog 36 #[.agg #[.int .i64 s.kind, .int .i64 s.client, .int .i64 s.group, .int .i64 s.node, .string s.key, .string s.val, .int .i64 s.n, .int .i64 s.cut], .agg #[.string nm, .string f]] p.w fun e w' => e = .returned (.agg #[.int .i64 d.kind, .int .i64 d.client, .int .i64 d.group, .int .i64 d.node, .string d.key, .string d.val, .int .i64 d.n, .int .i64 d.cut]) ∧ Below p.w.heap.size p.w w') := Lib.hid (fun p => by rw [hd]; exact only_any s nm f KF.out.1 KF.out.2 p.w)
  have hne := neS s d
  have qd : eqS s d = true := by rw [hd, HFF.out]; exact Qb.out
  rw [qd] at hne
  clear qd
  clear hd HFF KF OF
  have CW : Hid (∀ (n lo hi : Int) (p : InCls K), Calls Tryd.prog 37 #[.int .i64 n, .int .i64 lo, .int .i64 hi] p.w fun e w' => e = .returned (.bool (within n lo hi)) ∧ Below p.w.heap.size p.w w') := Lib.hid (fun n lo hi p => (within_any n lo hi p.w).mono fun e w' ⟨h1, h2⟩ => ⟨h1, by rw [h2]; exact Below.refl _ _⟩)
  have a0 : ∀ p : InCls K, p.w.cell? ⟨H, 0, none⟩ = some (.int .i64 s.kind) := fun p => (TS.out _ p.h).c0
  have a1 : ∀ p : InCls K, p.w.cell? ⟨H, 1, none⟩ = some (.int .i64 s.client) := fun p => (TS.out _ p.h).c1
  have a2 : ∀ p : InCls K, p.w.cell? ⟨H, 2, none⟩ = some (.int .i64 s.group) := fun p => (TS.out _ p.h).c2
  have a3 : ∀ p : InCls K, p.w.cell? ⟨H, 3, none⟩ = some (.int .i64 s.node) := fun p => (TS.out _ p.h).c3
  have a4 : ∀ p : InCls K, p.w.cell? ⟨H, 4, none⟩ = some (.string s.key) := fun p => (TS.out _ p.h).c4
  have a5 : ∀ p : InCls K, p.w.cell? ⟨H, 5, none⟩ = some (.string s.val) := fun p => (TS.out _ p.h).c5
  have a6 : ∀ p : InCls K, p.w.cell? ⟨H, 6, none⟩ = some (.int .i64 s.n) := fun p => (TS.out _ p.h).c6
  have a7 : ∀ p : InCls K, p.w.cell? ⟨H, 7, none⟩ = some (.int .i64 s.cut) := fun p => (TS.out _ p.h).c7
  have f0 : ∀ p : InCls K, p.w.cell? ⟨H2, 0, none⟩ = some (.string nm) := fun p => (TK.out _ p.h).fr.c0
  have f1 : ∀ p : InCls K, p.w.cell? ⟨H2, 1, none⟩ = some (.string f) := fun p => (TK.out _ p.h).fr.c1
  have NE : Nonempty (InCls K) := ⟨⟨W1, KS.out⟩⟩
  have qb1 := Qb1.out
  clear Qb1
  have qb2 := Qb2.out
  clear Qb2
  have qb3 := Qb3.out
  clear Qb3
  have qb4 := Qb4.out
  clear Qb4
  have qb5 := Qb5.out
  clear Qb5
  refine wp_region_cls K (by kernel_rfl) (by kernel_rfl) (KC.out _ _ KS.out (Below.refl _ _).drew) ?_
  repeat (go_big_quiet_step (first | (go_at_call 36; exact cls_of KC.out (CO.out _)) | (go_at_call 37; exact cls_of KC.out (CW.out _ _ _ _))))
  refine wpQuiet_nil ?_
  intro _ hw'
  obtain ⟨p, hw''⟩ := hw'
  subst hw''
  have HB := Lib.hid (TK.out _ p.h).below
  clear a0 a1 a2 a3 a4 a5 a6 a7 f0 f1 hne
  go_wp2_with fail
  go_ret
  exact ⟨by rw [ER.out]; rfl, HB.out⟩
end Go.Proofs.YtpfebfckolbnmaaDoor.Sc

/- script.wrong, one way. -/
namespace Go.Proofs.YtpfebfckolbnmaaDoor.Sc
open Go.RowKit Go.Lib Go.Proofs.YtpfebfckolbnmaaDoor.Sta Go.Proofs.YtpfebfckolbnmaaDoor.Rd Go.Proofs.YtpfebfckolbnmaaDoor.Cls

set_option maxRecDepth 100000 in
set_option maxHeartbeats 3200000 in
theorem wrong_w6 (s : Stp) (h1 : 1 ≤ s.kind) (h2 : s.kind ≤ 18) (qb : eqS s (onlyS s (formF s.kind)) = true) (qb1 : within s.client 0 15 = true) (qb2 : within s.group 0 7 = true) (qb3 : within s.node 0 4 = true) (qb4 : within s.n 0 255 = true) (qb5 : within s.cut (-1) 16384 = true) (hk : ¬ (s.key.size : Int) ≤ 255) (w : World) (hF : FormsAt w) : Calls Tryd.prog 20 #[s.v] w fun e w' => e = .returned (.int .i64 (wrongE s)) ∧ Below w.heap.size w w' := by
  have B0 : Hid (Below w.heap.size w (w.alloc (.cells #[.int .i64 s.kind, .int .i64 s.client, .int .i64 s.group, .int .i64 s.node, .string s.key, .string s.val, .int .i64 s.n, .int .i64 s.cut] 40))) := Lib.hid ((Below.refl _ _).alloc (Nat.le_refl _) _)
  have S0 : Hid (StpAt (w.alloc (.cells #[.int .i64 s.kind, .int .i64 s.client, .int .i64 s.group, .int .i64 s.node, .string s.key, .string s.val, .int .i64 s.n, .int .i64 s.cut] 40)) w.heap.size s) := Lib.hid ⟨by simp, by simp [go_sem], by simp [go_sem], by simp [go_sem], by simp [go_sem], by simp [go_sem], by simp [go_sem], by simp [go_sem], by simp [go_sem]⟩
  have HF := Lib.hid hF
  clear hF
  unfold Stp.v
  have er : wrongE s = 6 := by
    unfold wrongE stepOk
    rw [if_neg (by omega)]
    simp [qb, qb1, qb2, qb3, qb4, qb5, hk]
  have Qb := Lib.hid qb
  clear qb
  have Qb1 := Lib.hid qb1
  clear qb1
  have Qb2 := Lib.hid qb2
  clear qb2
  have Qb3 := Lib.hid qb3
  clear qb3
  have Qb4 := Lib.hid qb4
  clear qb4
  have Qb5 := Lib.hid qb5
  clear qb5
  have Hhk := Lib.hid hk
  clear hk
  have OF := Lib.hid (fun v hv => of_any s.kind h1 h2 v hv)
  have KF := Lib.hid (known_form h1 h2)
  have ER := Lib.hid er
  clear h1 h2 er
  obtain ⟨f, hf⟩ : ∃ f, f = formF s.kind := ⟨_, rfl⟩
  rw [← hf] at OF KF
  have HFF := Lib.hid hf
  clear hf
  go_enter Tryd.func20, Tryd.ntmps20
  go_wp2_with fail
  refine (OF.out _ (HF.out.below B0.out)).mono ?_
  rintro e w1 ⟨⟨nm, rfl⟩, hb⟩
  have L1 : Hid (WrC w s nm f w1.heap.size (w1.alloc (.cells #[.string nm, .string f] 91))) := Lib.hid (by
    have ba : Below w1.heap.size w1 (w1.alloc (.cells #[.string nm, .string f] 91)) := (Below.refl _ _).alloc (Nat.le_refl _) _
    have b1 : Below w.heap.size w w1 := B0.out.trans (hb.mono B0.out.size)
    exact ⟨b1.trans (ba.mono b1.size), (S0.out.below hb).below ba, ⟨by simp, by simp [go_sem], by simp [go_sem]⟩⟩)
  clear hb B0 S0
  go_upto_region 4 with (fail)
  obtain ⟨H2, hH2⟩ : ∃ H2, H2 = w1.heap.size := ⟨_, rfl⟩
  generalize w1.alloc (.cells #[.string nm, .string f] 91) = W1 at L1 ⊢
  rw [← hH2] at L1 ⊢
  obtain ⟨H, hH⟩ : ∃ H, H = w.heap.size := ⟨_, rfl⟩
  obtain ⟨K, hK⟩ : ∃ C0 : World → Prop, C0 = WrC w s nm f H2 := ⟨_, rfl⟩
  have TK : Hid (∀ v, K v → WrC w s nm f H2 v) := by rw [hK]; exact fun _ h => h
  have TS : Hid (∀ v, K v → StpAt v H s) := by rw [hK, hH]; exact fun _ h => h.st
  have KC : Hid (∀ w w', K w → Below w.heap.size w w' → K w') := by rw [hK]; exact fun _ _ h hb => WrC.step h hb
  have KS : Hid (K W1) := by rw [hK]; exact L1.out
  try rw [← hH]
  clear hK L1 hH2 hH
  obtain ⟨d, hd⟩ : ∃ d, d = onlyS s f := ⟨_, rfl⟩
  have CO : Hid (∀ p : InCls K, Calls Tryd.prog 36 #[.agg #[.int .i64 s.kind, .int .i64 s.client, .int .i64 s.group, .int .i64 s.node, .string s.key, .string s.val, .int .i64 s.n, .int .i64 s.cut], .agg #[.string nm, .string f]] p.w fun e w' => e = .returned (.agg #[.int .i64 d.kind, .int .i64 d.client, .int .i64 d.group, .int .i64 d.node, .string d.key, .string d.val, .int .i64 d.n, .int .i64 d.cut]) ∧ Below p.w.heap.size p.w w') := Lib.hid (fun p => by rw [hd]; exact only_any s nm f KF.out.1 KF.out.2 p.w)
  have hne := neS s d
  have qd : eqS s d = true := by rw [hd, HFF.out]; exact Qb.out
  rw [qd] at hne
  clear qd
  clear hd HFF KF OF
  have CW : Hid (∀ (n lo hi : Int) (p : InCls K), Calls Tryd.prog 37 #[.int .i64 n, .int .i64 lo, .int .i64 hi] p.w fun e w' => e = .returned (.bool (within n lo hi)) ∧ Below p.w.heap.size p.w w') := Lib.hid (fun n lo hi p => (within_any n lo hi p.w).mono fun e w' ⟨h1, h2⟩ => ⟨h1, by rw [h2]; exact Below.refl _ _⟩)
  have a0 : ∀ p : InCls K, p.w.cell? ⟨H, 0, none⟩ = some (.int .i64 s.kind) := fun p => (TS.out _ p.h).c0
  have a1 : ∀ p : InCls K, p.w.cell? ⟨H, 1, none⟩ = some (.int .i64 s.client) := fun p => (TS.out _ p.h).c1
  have a2 : ∀ p : InCls K, p.w.cell? ⟨H, 2, none⟩ = some (.int .i64 s.group) := fun p => (TS.out _ p.h).c2
  have a3 : ∀ p : InCls K, p.w.cell? ⟨H, 3, none⟩ = some (.int .i64 s.node) := fun p => (TS.out _ p.h).c3
  have a4 : ∀ p : InCls K, p.w.cell? ⟨H, 4, none⟩ = some (.string s.key) := fun p => (TS.out _ p.h).c4
  have a5 : ∀ p : InCls K, p.w.cell? ⟨H, 5, none⟩ = some (.string s.val) := fun p => (TS.out _ p.h).c5
  have a6 : ∀ p : InCls K, p.w.cell? ⟨H, 6, none⟩ = some (.int .i64 s.n) := fun p => (TS.out _ p.h).c6
  have a7 : ∀ p : InCls K, p.w.cell? ⟨H, 7, none⟩ = some (.int .i64 s.cut) := fun p => (TS.out _ p.h).c7
  have f0 : ∀ p : InCls K, p.w.cell? ⟨H2, 0, none⟩ = some (.string nm) := fun p => (TK.out _ p.h).fr.c0
  have f1 : ∀ p : InCls K, p.w.cell? ⟨H2, 1, none⟩ = some (.string f) := fun p => (TK.out _ p.h).fr.c1
  have NE : Nonempty (InCls K) := ⟨⟨W1, KS.out⟩⟩
  have qb1 := Qb1.out
  clear Qb1
  have qb2 := Qb2.out
  clear Qb2
  have qb3 := Qb3.out
  clear Qb3
  have qb4 := Qb4.out
  clear Qb4
  have qb5 := Qb5.out
  clear Qb5
  have hk : (255 : Int) < (s.key.size : Int) := by have := Hhk.out; omega
  clear Hhk
  refine wp_region_cls K (by kernel_rfl) (by kernel_rfl) (KC.out _ _ KS.out (Below.refl _ _).drew) ?_
  repeat (go_big_quiet_step (first | (go_at_call 36; exact cls_of KC.out (CO.out _)) | (go_at_call 37; exact cls_of KC.out (CW.out _ _ _ _))))
  refine wpQuiet_nil ?_
  intro _ hw'
  obtain ⟨p, hw''⟩ := hw'
  subst hw''
  have HB := Lib.hid (TK.out _ p.h).below
  clear a0 a1 a2 a3 a4 a5 a6 a7 f0 f1 hne
  go_wp2_with fail
  go_ret
  exact ⟨by rw [ER.out]; rfl, HB.out⟩
end Go.Proofs.YtpfebfckolbnmaaDoor.Sc

/- script.wrong, one way. -/
namespace Go.Proofs.YtpfebfckolbnmaaDoor.Sc
open Go.RowKit Go.Lib Go.Proofs.YtpfebfckolbnmaaDoor.Sta Go.Proofs.YtpfebfckolbnmaaDoor.Rd Go.Proofs.YtpfebfckolbnmaaDoor.Cls

set_option maxRecDepth 100000 in
set_option maxHeartbeats 3200000 in
theorem wrong_w7 (s : Stp) (h1 : 1 ≤ s.kind) (h2 : s.kind ≤ 18) (qb : eqS s (onlyS s (formF s.kind)) = true) (qb1 : within s.client 0 15 = true) (qb2 : within s.group 0 7 = true) (qb3 : within s.node 0 4 = true) (qb4 : within s.n 0 255 = true) (qb5 : within s.cut (-1) 16384 = true) (hk : (s.key.size : Int) ≤ 255) (hv : ¬ (s.val.size : Int) ≤ 255) (w : World) (hF : FormsAt w) : Calls Tryd.prog 20 #[s.v] w fun e w' => e = .returned (.int .i64 (wrongE s)) ∧ Below w.heap.size w w' := by
  have B0 : Hid (Below w.heap.size w (w.alloc (.cells #[.int .i64 s.kind, .int .i64 s.client, .int .i64 s.group, .int .i64 s.node, .string s.key, .string s.val, .int .i64 s.n, .int .i64 s.cut] 40))) := Lib.hid ((Below.refl _ _).alloc (Nat.le_refl _) _)
  have S0 : Hid (StpAt (w.alloc (.cells #[.int .i64 s.kind, .int .i64 s.client, .int .i64 s.group, .int .i64 s.node, .string s.key, .string s.val, .int .i64 s.n, .int .i64 s.cut] 40)) w.heap.size s) := Lib.hid ⟨by simp, by simp [go_sem], by simp [go_sem], by simp [go_sem], by simp [go_sem], by simp [go_sem], by simp [go_sem], by simp [go_sem], by simp [go_sem]⟩
  have HF := Lib.hid hF
  clear hF
  unfold Stp.v
  have er : wrongE s = 6 := by
    unfold wrongE stepOk
    rw [if_neg (by omega)]
    simp [qb, qb1, qb2, qb3, qb4, qb5, hk, hv]
  have Qb := Lib.hid qb
  clear qb
  have Qb1 := Lib.hid qb1
  clear qb1
  have Qb2 := Lib.hid qb2
  clear qb2
  have Qb3 := Lib.hid qb3
  clear qb3
  have Qb4 := Lib.hid qb4
  clear qb4
  have Qb5 := Lib.hid qb5
  clear qb5
  have Hhk := Lib.hid hk
  clear hk
  have Hhv := Lib.hid hv
  clear hv
  have OF := Lib.hid (fun v hv => of_any s.kind h1 h2 v hv)
  have KF := Lib.hid (known_form h1 h2)
  have ER := Lib.hid er
  clear h1 h2 er
  obtain ⟨f, hf⟩ : ∃ f, f = formF s.kind := ⟨_, rfl⟩
  rw [← hf] at OF KF
  have HFF := Lib.hid hf
  clear hf
  go_enter Tryd.func20, Tryd.ntmps20
  go_wp2_with fail
  refine (OF.out _ (HF.out.below B0.out)).mono ?_
  rintro e w1 ⟨⟨nm, rfl⟩, hb⟩
  have L1 : Hid (WrC w s nm f w1.heap.size (w1.alloc (.cells #[.string nm, .string f] 91))) := Lib.hid (by
    have ba : Below w1.heap.size w1 (w1.alloc (.cells #[.string nm, .string f] 91)) := (Below.refl _ _).alloc (Nat.le_refl _) _
    have b1 : Below w.heap.size w w1 := B0.out.trans (hb.mono B0.out.size)
    exact ⟨b1.trans (ba.mono b1.size), (S0.out.below hb).below ba, ⟨by simp, by simp [go_sem], by simp [go_sem]⟩⟩)
  clear hb B0 S0
  go_upto_region 4 with (fail)
  obtain ⟨H2, hH2⟩ : ∃ H2, H2 = w1.heap.size := ⟨_, rfl⟩
  generalize w1.alloc (.cells #[.string nm, .string f] 91) = W1 at L1 ⊢
  rw [← hH2] at L1 ⊢
  obtain ⟨H, hH⟩ : ∃ H, H = w.heap.size := ⟨_, rfl⟩
  obtain ⟨K, hK⟩ : ∃ C0 : World → Prop, C0 = WrC w s nm f H2 := ⟨_, rfl⟩
  have TK : Hid (∀ v, K v → WrC w s nm f H2 v) := by rw [hK]; exact fun _ h => h
  have TS : Hid (∀ v, K v → StpAt v H s) := by rw [hK, hH]; exact fun _ h => h.st
  have KC : Hid (∀ w w', K w → Below w.heap.size w w' → K w') := by rw [hK]; exact fun _ _ h hb => WrC.step h hb
  have KS : Hid (K W1) := by rw [hK]; exact L1.out
  try rw [← hH]
  clear hK L1 hH2 hH
  obtain ⟨d, hd⟩ : ∃ d, d = onlyS s f := ⟨_, rfl⟩
  have CO : Hid (∀ p : InCls K, Calls Tryd.prog 36 #[.agg #[.int .i64 s.kind, .int .i64 s.client, .int .i64 s.group, .int .i64 s.node, .string s.key, .string s.val, .int .i64 s.n, .int .i64 s.cut], .agg #[.string nm, .string f]] p.w fun e w' => e = .returned (.agg #[.int .i64 d.kind, .int .i64 d.client, .int .i64 d.group, .int .i64 d.node, .string d.key, .string d.val, .int .i64 d.n, .int .i64 d.cut]) ∧ Below p.w.heap.size p.w w') := Lib.hid (fun p => by rw [hd]; exact only_any s nm f KF.out.1 KF.out.2 p.w)
  have hne := neS s d
  have qd : eqS s d = true := by rw [hd, HFF.out]; exact Qb.out
  rw [qd] at hne
  clear qd
  clear hd HFF KF OF
  have CW : Hid (∀ (n lo hi : Int) (p : InCls K), Calls Tryd.prog 37 #[.int .i64 n, .int .i64 lo, .int .i64 hi] p.w fun e w' => e = .returned (.bool (within n lo hi)) ∧ Below p.w.heap.size p.w w') := Lib.hid (fun n lo hi p => (within_any n lo hi p.w).mono fun e w' ⟨h1, h2⟩ => ⟨h1, by rw [h2]; exact Below.refl _ _⟩)
  have a0 : ∀ p : InCls K, p.w.cell? ⟨H, 0, none⟩ = some (.int .i64 s.kind) := fun p => (TS.out _ p.h).c0
  have a1 : ∀ p : InCls K, p.w.cell? ⟨H, 1, none⟩ = some (.int .i64 s.client) := fun p => (TS.out _ p.h).c1
  have a2 : ∀ p : InCls K, p.w.cell? ⟨H, 2, none⟩ = some (.int .i64 s.group) := fun p => (TS.out _ p.h).c2
  have a3 : ∀ p : InCls K, p.w.cell? ⟨H, 3, none⟩ = some (.int .i64 s.node) := fun p => (TS.out _ p.h).c3
  have a4 : ∀ p : InCls K, p.w.cell? ⟨H, 4, none⟩ = some (.string s.key) := fun p => (TS.out _ p.h).c4
  have a5 : ∀ p : InCls K, p.w.cell? ⟨H, 5, none⟩ = some (.string s.val) := fun p => (TS.out _ p.h).c5
  have a6 : ∀ p : InCls K, p.w.cell? ⟨H, 6, none⟩ = some (.int .i64 s.n) := fun p => (TS.out _ p.h).c6
  have a7 : ∀ p : InCls K, p.w.cell? ⟨H, 7, none⟩ = some (.int .i64 s.cut) := fun p => (TS.out _ p.h).c7
  have f0 : ∀ p : InCls K, p.w.cell? ⟨H2, 0, none⟩ = some (.string nm) := fun p => (TK.out _ p.h).fr.c0
  have f1 : ∀ p : InCls K, p.w.cell? ⟨H2, 1, none⟩ = some (.string f) := fun p => (TK.out _ p.h).fr.c1
  have NE : Nonempty (InCls K) := ⟨⟨W1, KS.out⟩⟩
  have qb1 := Qb1.out
  clear Qb1
  have qb2 := Qb2.out
  clear Qb2
  have qb3 := Qb3.out
  clear Qb3
  have qb4 := Qb4.out
  clear Qb4
  have qb5 := Qb5.out
  clear Qb5
  have hk : ¬ (255 : Int) < (s.key.size : Int) := by have := Hhk.out; omega
  clear Hhk
  have hv : (255 : Int) < (s.val.size : Int) := by have := Hhv.out; omega
  clear Hhv
  refine wp_region_cls K (by kernel_rfl) (by kernel_rfl) (KC.out _ _ KS.out (Below.refl _ _).drew) ?_
  repeat (go_big_quiet_step (first | (go_at_call 36; exact cls_of KC.out (CO.out _)) | (go_at_call 37; exact cls_of KC.out (CW.out _ _ _ _))))
  refine wpQuiet_nil ?_
  intro _ hw'
  obtain ⟨p, hw''⟩ := hw'
  subst hw''
  have HB := Lib.hid (TK.out _ p.h).below
  clear a0 a1 a2 a3 a4 a5 a6 a7 f0 f1 hne
  go_wp2_with fail
  go_ret
  exact ⟨by rw [ER.out]; rfl, HB.out⟩
end Go.Proofs.YtpfebfckolbnmaaDoor.Sc

/- script.wrong, one way. -/
namespace Go.Proofs.YtpfebfckolbnmaaDoor.Sc
open Go.RowKit Go.Lib Go.Proofs.YtpfebfckolbnmaaDoor.Sta Go.Proofs.YtpfebfckolbnmaaDoor.Rd Go.Proofs.YtpfebfckolbnmaaDoor.Cls

set_option maxRecDepth 100000 in
set_option maxHeartbeats 3200000 in
theorem wrong_w8 (s : Stp) (h1 : 1 ≤ s.kind) (h2 : s.kind ≤ 18) (qb : eqS s (onlyS s (formF s.kind)) = true) (qb1 : within s.client 0 15 = true) (qb2 : within s.group 0 7 = true) (qb3 : within s.node 0 4 = true) (qb4 : within s.n 0 255 = true) (qb5 : within s.cut (-1) 16384 = true) (hk : (s.key.size : Int) ≤ 255) (hv : (s.val.size : Int) ≤ 255) (w : World) (hF : FormsAt w) : Calls Tryd.prog 20 #[s.v] w fun e w' => e = .returned (.int .i64 (wrongE s)) ∧ Below w.heap.size w w' := by
  have B0 : Hid (Below w.heap.size w (w.alloc (.cells #[.int .i64 s.kind, .int .i64 s.client, .int .i64 s.group, .int .i64 s.node, .string s.key, .string s.val, .int .i64 s.n, .int .i64 s.cut] 40))) := Lib.hid ((Below.refl _ _).alloc (Nat.le_refl _) _)
  have S0 : Hid (StpAt (w.alloc (.cells #[.int .i64 s.kind, .int .i64 s.client, .int .i64 s.group, .int .i64 s.node, .string s.key, .string s.val, .int .i64 s.n, .int .i64 s.cut] 40)) w.heap.size s) := Lib.hid ⟨by simp, by simp [go_sem], by simp [go_sem], by simp [go_sem], by simp [go_sem], by simp [go_sem], by simp [go_sem], by simp [go_sem], by simp [go_sem]⟩
  have HF := Lib.hid hF
  clear hF
  unfold Stp.v
  have er : wrongE s = 0 := by
    unfold wrongE stepOk
    rw [if_neg (by omega)]
    simp [qb, qb1, qb2, qb3, qb4, qb5, hk, hv]
  have Qb := Lib.hid qb
  clear qb
  have Qb1 := Lib.hid qb1
  clear qb1
  have Qb2 := Lib.hid qb2
  clear qb2
  have Qb3 := Lib.hid qb3
  clear qb3
  have Qb4 := Lib.hid qb4
  clear qb4
  have Qb5 := Lib.hid qb5
  clear qb5
  have Hhk := Lib.hid hk
  clear hk
  have Hhv := Lib.hid hv
  clear hv
  have OF := Lib.hid (fun v hv => of_any s.kind h1 h2 v hv)
  have KF := Lib.hid (known_form h1 h2)
  have ER := Lib.hid er
  clear h1 h2 er
  obtain ⟨f, hf⟩ : ∃ f, f = formF s.kind := ⟨_, rfl⟩
  rw [← hf] at OF KF
  have HFF := Lib.hid hf
  clear hf
  go_enter Tryd.func20, Tryd.ntmps20
  go_wp2_with fail
  refine (OF.out _ (HF.out.below B0.out)).mono ?_
  rintro e w1 ⟨⟨nm, rfl⟩, hb⟩
  have L1 : Hid (WrC w s nm f w1.heap.size (w1.alloc (.cells #[.string nm, .string f] 91))) := Lib.hid (by
    have ba : Below w1.heap.size w1 (w1.alloc (.cells #[.string nm, .string f] 91)) := (Below.refl _ _).alloc (Nat.le_refl _) _
    have b1 : Below w.heap.size w w1 := B0.out.trans (hb.mono B0.out.size)
    exact ⟨b1.trans (ba.mono b1.size), (S0.out.below hb).below ba, ⟨by simp, by simp [go_sem], by simp [go_sem]⟩⟩)
  clear hb B0 S0
  go_upto_region 4 with (fail)
  obtain ⟨H2, hH2⟩ : ∃ H2, H2 = w1.heap.size := ⟨_, rfl⟩
  generalize w1.alloc (.cells #[.string nm, .string f] 91) = W1 at L1 ⊢
  rw [← hH2] at L1 ⊢
  obtain ⟨H, hH⟩ : ∃ H, H = w.heap.size := ⟨_, rfl⟩
  obtain ⟨K, hK⟩ : ∃ C0 : World → Prop, C0 = WrC w s nm f H2 := ⟨_, rfl⟩
  have TK : Hid (∀ v, K v → WrC w s nm f H2 v) := by rw [hK]; exact fun _ h => h
  have TS : Hid (∀ v, K v → StpAt v H s) := by rw [hK, hH]; exact fun _ h => h.st
  have KC : Hid (∀ w w', K w → Below w.heap.size w w' → K w') := by rw [hK]; exact fun _ _ h hb => WrC.step h hb
  have KS : Hid (K W1) := by rw [hK]; exact L1.out
  try rw [← hH]
  clear hK L1 hH2 hH
  obtain ⟨d, hd⟩ : ∃ d, d = onlyS s f := ⟨_, rfl⟩
  have CO : Hid (∀ p : InCls K, Calls Tryd.prog 36 #[.agg #[.int .i64 s.kind, .int .i64 s.client, .int .i64 s.group, .int .i64 s.node, .string s.key, .string s.val, .int .i64 s.n, .int .i64 s.cut], .agg #[.string nm, .string f]] p.w fun e w' => e = .returned (.agg #[.int .i64 d.kind, .int .i64 d.client, .int .i64 d.group, .int .i64 d.node, .string d.key, .string d.val, .int .i64 d.n, .int .i64 d.cut]) ∧ Below p.w.heap.size p.w w') := Lib.hid (fun p => by rw [hd]; exact only_any s nm f KF.out.1 KF.out.2 p.w)
  have hne := neS s d
  have qd : eqS s d = true := by rw [hd, HFF.out]; exact Qb.out
  rw [qd] at hne
  clear qd
  clear hd HFF KF OF
  have CW : Hid (∀ (n lo hi : Int) (p : InCls K), Calls Tryd.prog 37 #[.int .i64 n, .int .i64 lo, .int .i64 hi] p.w fun e w' => e = .returned (.bool (within n lo hi)) ∧ Below p.w.heap.size p.w w') := Lib.hid (fun n lo hi p => (within_any n lo hi p.w).mono fun e w' ⟨h1, h2⟩ => ⟨h1, by rw [h2]; exact Below.refl _ _⟩)
  have a0 : ∀ p : InCls K, p.w.cell? ⟨H, 0, none⟩ = some (.int .i64 s.kind) := fun p => (TS.out _ p.h).c0
  have a1 : ∀ p : InCls K, p.w.cell? ⟨H, 1, none⟩ = some (.int .i64 s.client) := fun p => (TS.out _ p.h).c1
  have a2 : ∀ p : InCls K, p.w.cell? ⟨H, 2, none⟩ = some (.int .i64 s.group) := fun p => (TS.out _ p.h).c2
  have a3 : ∀ p : InCls K, p.w.cell? ⟨H, 3, none⟩ = some (.int .i64 s.node) := fun p => (TS.out _ p.h).c3
  have a4 : ∀ p : InCls K, p.w.cell? ⟨H, 4, none⟩ = some (.string s.key) := fun p => (TS.out _ p.h).c4
  have a5 : ∀ p : InCls K, p.w.cell? ⟨H, 5, none⟩ = some (.string s.val) := fun p => (TS.out _ p.h).c5
  have a6 : ∀ p : InCls K, p.w.cell? ⟨H, 6, none⟩ = some (.int .i64 s.n) := fun p => (TS.out _ p.h).c6
  have a7 : ∀ p : InCls K, p.w.cell? ⟨H, 7, none⟩ = some (.int .i64 s.cut) := fun p => (TS.out _ p.h).c7
  have f0 : ∀ p : InCls K, p.w.cell? ⟨H2, 0, none⟩ = some (.string nm) := fun p => (TK.out _ p.h).fr.c0
  have f1 : ∀ p : InCls K, p.w.cell? ⟨H2, 1, none⟩ = some (.string f) := fun p => (TK.out _ p.h).fr.c1
  have NE : Nonempty (InCls K) := ⟨⟨W1, KS.out⟩⟩
  have qb1 := Qb1.out
  clear Qb1
  have qb2 := Qb2.out
  clear Qb2
  have qb3 := Qb3.out
  clear Qb3
  have qb4 := Qb4.out
  clear Qb4
  have qb5 := Qb5.out
  clear Qb5
  have hk : ¬ (255 : Int) < (s.key.size : Int) := by have := Hhk.out; omega
  clear Hhk
  have hv : ¬ (255 : Int) < (s.val.size : Int) := by have := Hhv.out; omega
  clear Hhv
  refine wp_region_cls K (by kernel_rfl) (by kernel_rfl) (KC.out _ _ KS.out (Below.refl _ _).drew) ?_
  repeat (go_big_quiet_step (first | (go_at_call 36; exact cls_of KC.out (CO.out _)) | (go_at_call 37; exact cls_of KC.out (CW.out _ _ _ _))))
  refine wpQuiet_nil ?_
  intro _ hw'
  obtain ⟨p, hw''⟩ := hw'
  subst hw''
  have HB := Lib.hid (TK.out _ p.h).below
  clear a0 a1 a2 a3 a4 a5 a6 a7 f0 f1 hne
  go_wp2_with fail
  go_ret
  exact ⟨by rw [ER.out]; rfl, HB.out⟩
end Go.Proofs.YtpfebfckolbnmaaDoor.Sc

/- What is wrong with a step: script.wrong. -/
namespace Go.Proofs.YtpfebfckolbnmaaDoor.Sc
open Go.RowKit Go.Lib Go.Proofs.YtpfebfckolbnmaaDoor.Sta Go.Proofs.YtpfebfckolbnmaaDoor.Rd Go.Proofs.YtpfebfckolbnmaaDoor.Cls

theorem wrong_any (s : Stp) (w : World) (hF : FormsAt w) : Calls Tryd.prog 20 #[s.v] w fun e w' => e = .returned (.int .i64 (wrongE s)) ∧ Below w.heap.size w w' := by
  by_cases hk : s.kind < 1 ∨ 18 < s.kind
  · exact wrong_no s hk w hF
  have h1 : 1 ≤ s.kind := by omega
  have h2 : s.kind ≤ 18 := by omega
  cases qb : eqS s (onlyS s (formF s.kind)) with
  | false => exact wrong_w0 s h1 h2 qb w hF
  | true =>
    cases qb1 : within s.client 0 15 with
    | false => exact wrong_w1 s h1 h2 qb qb1 w hF
    | true =>
      cases qb2 : within s.group 0 7 with
      | false => exact wrong_w2 s h1 h2 qb qb1 qb2 w hF
      | true =>
        cases qb3 : within s.node 0 4 with
        | false => exact wrong_w3 s h1 h2 qb qb1 qb2 qb3 w hF
        | true =>
          cases qb4 : within s.n 0 255 with
          | false => exact wrong_w4 s h1 h2 qb qb1 qb2 qb3 qb4 w hF
          | true =>
            cases qb5 : within s.cut (-1) 16384 with
            | false => exact wrong_w5 s h1 h2 qb qb1 qb2 qb3 qb4 qb5 w hF
            | true =>
              by_cases hk2 : (s.key.size : Int) ≤ 255
              · by_cases hv : (s.val.size : Int) ≤ 255
                · exact wrong_w8 s h1 h2 qb qb1 qb2 qb3 qb4 qb5 hk2 hv w hF
                · exact wrong_w7 s h1 h2 qb qb1 qb2 qb3 qb4 qb5 hk2 hv w hF
              · exact wrong_w6 s h1 h2 qb qb1 qb2 qb3 qb4 qb5 hk2 w hF
end Go.Proofs.YtpfebfckolbnmaaDoor.Sc
