/- slices.MinFunc and slices.MaxFunc at identities, by age.Compare, walked. -/
import Derived.Test.YtmmaolhmhdjldaaDoorAgeCmp
import Derived.Test.YtmmaolhmhdjldaaDoorCls
import Derived.Deep.LoopGhost
namespace Go.Proofs.YtmmaolhmhdjldaaDoor.AgeS
open Go.RowKit Go.Proofs.YtmmaolhmhdjldaaDoor.Cls

/-- A row of identities. -/
def IdsAt (w : World) (b o n : Nat) (X : Nat → Int × Int) : Prop :=
  ∀ i, i < n → w.cell? ⟨b, o + i * 2, none⟩ = some (.int .i64 (X i).1) ∧ w.cell? ⟨b, o + i * 2 + 1, none⟩ = some (.int .i64 (X i).2)

theorem IdsAt.below {w w' : World} {b o n B : Nat} {X : Nat → Int × Int} (h : IdsAt w b o n X) (hb : b < B) (hB : Below B w w') : IdsAt w' b o n X :=
  fun i hi => ⟨(hB.cell (p := ⟨b, o + i * 2, none⟩) hb).trans (h i hi).1, (hB.cell (p := ⟨b, o + i * 2 + 1, none⟩) hb).trans (h i hi).2⟩

/-- The least of the first k + 1. -/
def minR (X : Nat → Int × Int) : Nat → Int × Int
  | 0 => X 0
  | k + 1 => if ageCmp (X (k + 1)).1 (X (k + 1)).2 (minR X k).1 (minR X k).2 < 0 then X (k + 1) else minR X k
/-- The greatest of the first k + 1. -/
def maxR (X : Nat → Int × Int) : Nat → Int × Int
  | 0 => X 0
  | k + 1 => if 0 < ageCmp (X (k + 1)).1 (X (k + 1)).2 (maxR X k).1 (maxR X k).2 then X (k + 1) else maxR X k

/-- What the loop holds: the best so far in block M, the result's place in block R. -/
structure TM (w0 : World) (R M : Nat) (m : Int × Int) (v : World) : Prop where
  c0 : v.cell? ⟨M, 0, none⟩ = some (.int .i64 m.1)
  c1 : v.cell? ⟨M, 1, none⟩ = some (.int .i64 m.2)
  f0 : v.frozen? ⟨M, 0, none⟩ = false
  f1 : v.frozen? ⟨M, 1, none⟩ = false
  r0 : ∃ u, v.cell? ⟨R, 0, none⟩ = some u
  r1 : ∃ u, v.cell? ⟨R, 1, none⟩ = some u
  g0 : v.frozen? ⟨R, 0, none⟩ = false
  g1 : v.frozen? ⟨R, 1, none⟩ = false
  ro : w0.heap.size ≤ R
  rm : R < M
  lt : M < v.heap.size
  bel : Below w0.heap.size w0 v

theorem TM.step {w0 : World} {R M : Nat} {m : Int × Int} (w w' : World) (h : TM w0 R M m w) (hb : Below w.heap.size w w') : TM w0 R M m w' := by
  obtain ⟨c0, c1, f0, f1, r0, r1, g0, g1, ro, rm, lt, bel⟩ := h
  have e : ∀ b j, b ≤ M → w'.cell? ⟨b, j, none⟩ = w.cell? ⟨b, j, none⟩ := fun b j hb' => hb.cell (p := ⟨b, j, none⟩) (by show b < _; omega)
  have f : ∀ b j, b ≤ M → w'.frozen? ⟨b, j, none⟩ = w.frozen? ⟨b, j, none⟩ := fun b j hb' => hb.frozen (p := ⟨b, j, none⟩) (by show b < _; omega)
  have s := hb.size
  exact ⟨by rw [e _ _ (by omega)]; exact c0, by rw [e _ _ (by omega)]; exact c1, by rw [f _ _ (by omega)]; exact f0, by rw [f _ _ (by omega)]; exact f1, by rw [e _ _ (by omega)]; exact r0, by rw [e _ _ (by omega)]; exact r1, by rw [f _ _ (by omega)]; exact g0, by rw [f _ _ (by omega)]; exact g1, ro, rm, by omega, bel.trans (hb.mono bel.size)⟩

theorem TM.store {w0 : World} {R M : Nat} {m : Int × Int} {v : World} (h : TM w0 R M m v) (x : Int × Int) : TM w0 R M x ((v.setCell ⟨M, 0, none⟩ (.int .i64 x.1)).setCell ⟨M, 1, none⟩ (.int .i64 x.2)) := by
  obtain ⟨c0, c1, f0, f1, r0, r1, g0, g1, ro, rm, lt, bel⟩ := h
  refine ⟨?_, ?_, by simpa using f0, by simpa using f1, ?_, ?_, by simpa using g0, by simpa using g1, ro, rm, by simpa using lt, (bel.setCell (by show w0.heap.size ≤ M; omega) _).setCell (by show w0.heap.size ≤ M; omega) _⟩
  · rw [World.cell?_setCell_other _ _ _ _ (by intro e; cases e)]; exact World.cell?_setCell_same _ _ _ c0
  · refine World.cell?_setCell_same _ _ _ (u := .int .i64 m.2) ?_
    rw [World.cell?_setCell_other _ _ _ _ (by intro e; cases e)]; exact c1
  · rw [World.cell?_setCell_other _ _ _ _ (by intro e; cases e <;> omega), World.cell?_setCell_other _ _ _ _ (by intro e; cases e <;> omega)]; exact r0
  · rw [World.cell?_setCell_other _ _ _ _ (by intro e; cases e <;> omega), World.cell?_setCell_other _ _ _ _ (by intro e; cases e <;> omega)]; exact r1

theorem compare_below (a b c d : Int) (w : World) : Calls Tryd.prog 11 #[.agg #[.int .i64 a, .int .i64 b], .agg #[.int .i64 c, .int .i64 d]] w fun e w' => e = .returned (.int .i64 (ageCmp a b c d)) ∧ Below w.heap.size w w' :=
  (compare_any a b c d w).mono fun _ _ ⟨he, hg⟩ => ⟨he, hg.below⟩

/-- What the loop of MinFunc holds. -/
def RelMin (X : Nat → Int × Int) (n R M : Nat) (w0 : World) (g : Nat) (v6 : Value) (wr : World) : Prop :=
  ∃ k : Nat, k + 1 + g = n ∧ v6 = .int .i64 ((k + 1 : Nat) : Int) ∧ TM w0 R M (minR X k) wr

set_option maxHeartbeats 1600000 in
theorem min_any (X : Nat → Int × Int) (b o n cap : Nat) (hn : n ≤ cap) (hp : 0 < n) (hc : cap ≤ 9223372036854775807) (w : World) (hb : b < w.heap.size) (hA : IdsAt w b o n X):
    Calls Tryd.prog 33 #[.slice (some ⟨b, o, none⟩) n cap, .func (.func 11) #[] #[]] w fun e w' => e = .returned (.agg #[.int .i64 (minR X (n - 1)).1, .int .i64 (minR X (n - 1)).2]) ∧ Below w.heap.size w w' := by
  have HA := Lib.hid hA
  clear hA
  obtain ⟨c0, c1⟩ := HA.out 0 hp
  simp only [Nat.zero_mul, Nat.add_zero] at c0 c1
  have h1 : decide ((n : Int) < 1) = false := decide_eq_false (by omega)
  have T0 : Hid (TM w w.heap.size (w.heap.size + 1) (minR X 0) ((w.alloc (.cells #[.int .i64 0, .int .i64 0] 23)).alloc (.cells #[.int .i64 (X 0).1, .int .i64 (X 0).2] 23))) :=
    ⟨by simp [go_sem, minR], by simp [go_sem, minR], by simp [go_sem], by simp [go_sem], ⟨.int .i64 0, by simp [go_sem]⟩, ⟨.int .i64 0, by simp [go_sem]⟩, by simp [go_sem], by simp [go_sem], Nat.le_refl _, by omega, by simp, ((Below.refl _ _).alloc (Nat.le_refl _) _).alloc (by simp) _⟩
  generalize X 0 = x0 at c0 c1 T0
  obtain ⟨x00, x01⟩ := x0
  simp only at c0 c1 T0
  go_enter Tryd.func33, Tryd.ntmps33
  go_wp2_with fail
  generalize hW : ((w.alloc (.cells #[.int .i64 0, .int .i64 0] 23)).alloc (.cells #[.int .i64 x00, .int .i64 x01] 23)) = wa at *
  clear hW
  have hRM : w.heap.size < w.heap.size + 1 := by omega
  obtain ⟨M, hM⟩ : ∃ M, M = w.heap.size + 1 := ⟨_, rfl⟩
  rw [← hM] at T0 ⊢
  clear hM hRM
  go_loopg [6] (n - 1) (RelMin X n w.heap.size M w)
  case atStart => exact ⟨0, by omega, rfl, T0.out⟩
  case round =>
    clear T0 c0 c1 h1
    obtain ⟨gk1, hgk⟩ : ∃ g, g = gk := ⟨_, rfl⟩
    rw [← hgk] at hrel
    obtain ⟨k, hk, rfl, hT⟩ := hrel
    have HGK := Lib.hid hgk
    have HT := Lib.hid hT
    clear hgk hT
    by_cases hl : k + 1 < n
    · have MR : Hid (minR X (k + 1) = if ageCmp (X (k + 1)).1 (X (k + 1)).2 (minR X k).1 (minR X k).2 < 0 then X (k + 1) else minR X k) := rfl
      have hC := (HA.out.below hb HT.out.bel)
      have hY : ∀ v, TM w w.heap.size M (minR X k) v → v.cell? ⟨b, o + (k + 1) * 2, none⟩ = some (.int .i64 (X (k + 1)).1) ∧ v.cell? ⟨b, o + (k + 1) * 2 + 1, none⟩ = some (.int .i64 (X (k + 1)).2) := fun v hv => (HA.out.below hb hv.bel) (k + 1) hl
      clear hC
      generalize X (k + 1) = y at hY MR
      generalize hm : minR X k = m at hY MR HT
      clear hm
      obtain ⟨y0, y1⟩ := y
      obtain ⟨m0, m1⟩ := m
      simp only at hY MR
      obtain ⟨cp, hcp⟩ : ∃ cp, cp = ageCmp y0 y1 m0 m1 := ⟨_, rfl⟩
      rw [← hcp] at MR
      have RC : Hid (∀ w, Calls Tryd.prog 11 #[.agg #[.int .i64 y0, .int .i64 y1], .agg #[.int .i64 m0, .int .i64 m1]] w fun e w' => e = .returned (.int .i64 cp) ∧ Below w.heap.size w w') := by rw [hcp]; exact compare_below y0 y1 m0 m1
      clear hcp
      obtain ⟨C, hCd⟩ : ∃ C : World → Prop, C = TM w w.heap.size M (m0, m1) := ⟨_, rfl⟩
      have TC : Hid (∀ v, C v → TM w w.heap.size M (m0, m1) v) := by rw [hCd]; exact fun _ h => h
      have KC : Hid (∀ w w', C w → Below w.heap.size w w' → C w') := by rw [hCd]; exact TM.step
      have C0 : Hid (C wr) := by rw [hCd]; exact HT.out
      have HY := Lib.hid hY
      clear hCd hY HT
      have l0 : ∀ p : InCls C, p.w.cell? ⟨M, 0, none⟩ = some (.int .i64 m0) := fun p => (TC.out _ p.h).c0
      have l1 : ∀ p : InCls C, p.w.cell? ⟨M, 1, none⟩ = some (.int .i64 m1) := fun p => (TC.out _ p.h).c1
      have y0' : ∀ p : InCls C, p.w.cell? ⟨b, o + (k + 1) * 2, none⟩ = some (.int .i64 y0) := fun p => (HY.out _ (TC.out _ p.h)).1
      have y1' : ∀ p : InCls C, p.w.cell? ⟨b, o + (k + 1) * 2 + 1, none⟩ = some (.int .i64 y1) := fun p => (HY.out _ (TC.out _ p.h)).2
      have NE : Nonempty (InCls C) := ⟨⟨wr, C0.out⟩⟩
      have i1 : 0 ≤ (k : Int) + 1 := by omega
      have i2 : (k : Int) + 1 < (n : Int) := by omega
      go_wp2_with fail
      refine wp_region_cls C (by kernel_rfl) (by kernel_rfl) (KC.out _ _ C0.out (Below.refl _ _).drew) ?_
      repeat (go_big_quiet_step ((go_at_call 11; exact cls_of KC.out (RC.out _))))
      refine wpQuiet_nil ?_
      intro _ hw'
      obtain ⟨p, hw''⟩ := hw'
      subst hw''
      have k0 := l0 p
      have k1 := l1 p
      have z0 := y0' p
      have z1 := y1' p
      have f0 := (TC.out _ p.h).f0
      have f1 := (TC.out _ p.h).f1
      have HP := TC.out _ p.h
      have HPH := Lib.hid HP
      clear HP l0 l1 y0' y1' NE
      cases e1 : decide (cp < 0) with
      | true =>
        have ME : Hid (minR X (k + 1) = (y0, y1)) := by rw [MR.out, if_pos (of_decide_eq_true e1)]; rfl
        go_wp2_with fail
        go_roundg (gk1 - 1)
        case measure => have := HGK.out; omega
        case rel => exact ⟨k + 1, by omega, by go_num, by rw [ME.out]; exact HPH.out.store (y0, y1)⟩
      | false =>
        have ME : Hid (minR X (k + 1) = (m0, m1)) := by rw [MR.out, if_neg (of_decide_eq_false e1)]; rfl
        go_wp2_with fail
        go_roundg (gk1 - 1)
        case measure => have := HGK.out; omega
        case rel => exact ⟨k + 1, by omega, by go_num, by rw [ME.out]; exact HPH.out⟩
    · obtain rfl : k + 1 = n := by omega
      have r0 := HT.out.r0
      have r1 := HT.out.r1
      have g0 := HT.out.g0
      have g1 := HT.out.g1
      have c0 := HT.out.c0
      have c1 := HT.out.c1
      obtain ⟨u0, r0⟩ := r0
      obtain ⟨u1, r1⟩ := r1
      have HTB := Lib.hid HT.out.bel
      have hro := HT.out.ro
      have hrm := HT.out.rm
      have hlt := HT.out.lt
      have EQ : Hid (minR X (k + 1 - 1) = minR X k) := by rw [show k + 1 - 1 = k by omega]; rfl
      generalize minR X k = m at c0 c1 EQ
      clear HT
      obtain ⟨m0, m1⟩ := m
      simp only at c0 c1
      go_wp2_with fail
      refine bodyPost_ret (v := .agg #[.int .i64 m0, .int .i64 m1]) ?_ rfl ⟨by rw [EQ.out], (HTB.out.setCell (by simp) _).setCell (by simp) _⟩
      have q0 : ((wr.setCell ⟨w.heap.size, 0, none⟩ (.int .i64 m0)).setCell ⟨w.heap.size, 1, none⟩ (.int .i64 m1)).cell? ⟨w.heap.size, 0, none⟩ = some (.int .i64 m0) := by
        rw [World.cell?_setCell_other _ _ _ _ (by intro e; cases e)]; exact World.cell?_setCell_same _ _ _ r0
      have q1 : ((wr.setCell ⟨w.heap.size, 0, none⟩ (.int .i64 m0)).setCell ⟨w.heap.size, 1, none⟩ (.int .i64 m1)).cell? ⟨w.heap.size, 1, none⟩ = some (.int .i64 m1) := by
        refine World.cell?_setCell_same _ _ _ (u := u1) ?_
        rw [World.cell?_setCell_other _ _ _ _ (by intro e; cases e)]; exact r1
      simp [results, Tryd.results33, go_sem, q0, q1]

/-- What the loop of MaxFunc holds. -/
def RelMax (X : Nat → Int × Int) (n R M : Nat) (w0 : World) (g : Nat) (v6 : Value) (wr : World) : Prop :=
  ∃ k : Nat, k + 1 + g = n ∧ v6 = .int .i64 ((k + 1 : Nat) : Int) ∧ TM w0 R M (maxR X k) wr

set_option maxHeartbeats 1600000 in
theorem max_any (X : Nat → Int × Int) (b o n cap : Nat) (hn : n ≤ cap) (hp : 0 < n) (hc : cap ≤ 9223372036854775807) (w : World) (hb : b < w.heap.size) (hA : IdsAt w b o n X):
    Calls Tryd.prog 34 #[.slice (some ⟨b, o, none⟩) n cap, .func (.func 11) #[] #[]] w fun e w' => e = .returned (.agg #[.int .i64 (maxR X (n - 1)).1, .int .i64 (maxR X (n - 1)).2]) ∧ Below w.heap.size w w' := by
  have HA := Lib.hid hA
  clear hA
  obtain ⟨c0, c1⟩ := HA.out 0 hp
  simp only [Nat.zero_mul, Nat.add_zero] at c0 c1
  have h1 : decide ((n : Int) < 1) = false := decide_eq_false (by omega)
  have T0 : Hid (TM w w.heap.size (w.heap.size + 1) (maxR X 0) ((w.alloc (.cells #[.int .i64 0, .int .i64 0] 23)).alloc (.cells #[.int .i64 (X 0).1, .int .i64 (X 0).2] 23))) :=
    ⟨by simp [go_sem, maxR], by simp [go_sem, maxR], by simp [go_sem], by simp [go_sem], ⟨.int .i64 0, by simp [go_sem]⟩, ⟨.int .i64 0, by simp [go_sem]⟩, by simp [go_sem], by simp [go_sem], Nat.le_refl _, by omega, by simp, ((Below.refl _ _).alloc (Nat.le_refl _) _).alloc (by simp) _⟩
  generalize X 0 = x0 at c0 c1 T0
  obtain ⟨x00, x01⟩ := x0
  simp only at c0 c1 T0
  go_enter Tryd.func34, Tryd.ntmps34
  go_wp2_with fail
  generalize hW : ((w.alloc (.cells #[.int .i64 0, .int .i64 0] 23)).alloc (.cells #[.int .i64 x00, .int .i64 x01] 23)) = wa at *
  clear hW
  have hRM : w.heap.size < w.heap.size + 1 := by omega
  obtain ⟨M, hM⟩ : ∃ M, M = w.heap.size + 1 := ⟨_, rfl⟩
  rw [← hM] at T0 ⊢
  clear hM hRM
  go_loopg [6] (n - 1) (RelMax X n w.heap.size M w)
  case atStart => exact ⟨0, by omega, rfl, T0.out⟩
  case round =>
    clear T0 c0 c1 h1
    obtain ⟨gk1, hgk⟩ : ∃ g, g = gk := ⟨_, rfl⟩
    rw [← hgk] at hrel
    obtain ⟨k, hk, rfl, hT⟩ := hrel
    have HGK := Lib.hid hgk
    have HT := Lib.hid hT
    clear hgk hT
    by_cases hl : k + 1 < n
    · have MR : Hid (maxR X (k + 1) = if 0 < ageCmp (X (k + 1)).1 (X (k + 1)).2 (maxR X k).1 (maxR X k).2 then X (k + 1) else maxR X k) := rfl
      have hC := (HA.out.below hb HT.out.bel)
      have hY : ∀ v, TM w w.heap.size M (maxR X k) v → v.cell? ⟨b, o + (k + 1) * 2, none⟩ = some (.int .i64 (X (k + 1)).1) ∧ v.cell? ⟨b, o + (k + 1) * 2 + 1, none⟩ = some (.int .i64 (X (k + 1)).2) := fun v hv => (HA.out.below hb hv.bel) (k + 1) hl
      clear hC
      generalize X (k + 1) = y at hY MR
      generalize hm : maxR X k = m at hY MR HT
      clear hm
      obtain ⟨y0, y1⟩ := y
      obtain ⟨m0, m1⟩ := m
      simp only at hY MR
      obtain ⟨cp, hcp⟩ : ∃ cp, cp = ageCmp y0 y1 m0 m1 := ⟨_, rfl⟩
      rw [← hcp] at MR
      have RC : Hid (∀ w, Calls Tryd.prog 11 #[.agg #[.int .i64 y0, .int .i64 y1], .agg #[.int .i64 m0, .int .i64 m1]] w fun e w' => e = .returned (.int .i64 cp) ∧ Below w.heap.size w w') := by rw [hcp]; exact compare_below y0 y1 m0 m1
      clear hcp
      obtain ⟨C, hCd⟩ : ∃ C : World → Prop, C = TM w w.heap.size M (m0, m1) := ⟨_, rfl⟩
      have TC : Hid (∀ v, C v → TM w w.heap.size M (m0, m1) v) := by rw [hCd]; exact fun _ h => h
      have KC : Hid (∀ w w', C w → Below w.heap.size w w' → C w') := by rw [hCd]; exact TM.step
      have C0 : Hid (C wr) := by rw [hCd]; exact HT.out
      have HY := Lib.hid hY
      clear hCd hY HT
      have l0 : ∀ p : InCls C, p.w.cell? ⟨M, 0, none⟩ = some (.int .i64 m0) := fun p => (TC.out _ p.h).c0
      have l1 : ∀ p : InCls C, p.w.cell? ⟨M, 1, none⟩ = some (.int .i64 m1) := fun p => (TC.out _ p.h).c1
      have y0' : ∀ p : InCls C, p.w.cell? ⟨b, o + (k + 1) * 2, none⟩ = some (.int .i64 y0) := fun p => (HY.out _ (TC.out _ p.h)).1
      have y1' : ∀ p : InCls C, p.w.cell? ⟨b, o + (k + 1) * 2 + 1, none⟩ = some (.int .i64 y1) := fun p => (HY.out _ (TC.out _ p.h)).2
      have NE : Nonempty (InCls C) := ⟨⟨wr, C0.out⟩⟩
      have i1 : 0 ≤ (k : Int) + 1 := by omega
      have i2 : (k : Int) + 1 < (n : Int) := by omega
      go_wp2_with fail
      refine wp_region_cls C (by kernel_rfl) (by kernel_rfl) (KC.out _ _ C0.out (Below.refl _ _).drew) ?_
      repeat (go_big_quiet_step ((go_at_call 11; exact cls_of KC.out (RC.out _))))
      refine wpQuiet_nil ?_
      intro _ hw'
      obtain ⟨p, hw''⟩ := hw'
      subst hw''
      have k0 := l0 p
      have k1 := l1 p
      have z0 := y0' p
      have z1 := y1' p
      have f0 := (TC.out _ p.h).f0
      have f1 := (TC.out _ p.h).f1
      have HP := TC.out _ p.h
      have HPH := Lib.hid HP
      clear HP l0 l1 y0' y1' NE
      cases e1 : decide (0 < cp) with
      | true =>
        have ME : Hid (maxR X (k + 1) = (y0, y1)) := by rw [MR.out, if_pos (of_decide_eq_true e1)]; rfl
        go_wp2_with fail
        go_roundg (gk1 - 1)
        case measure => have := HGK.out; omega
        case rel => exact ⟨k + 1, by omega, by go_num, by rw [ME.out]; exact HPH.out.store (y0, y1)⟩
      | false =>
        have ME : Hid (maxR X (k + 1) = (m0, m1)) := by rw [MR.out, if_neg (of_decide_eq_false e1)]; rfl
        go_wp2_with fail
        go_roundg (gk1 - 1)
        case measure => have := HGK.out; omega
        case rel => exact ⟨k + 1, by omega, by go_num, by rw [ME.out]; exact HPH.out⟩
    · obtain rfl : k + 1 = n := by omega
      have r0 := HT.out.r0
      have r1 := HT.out.r1
      have g0 := HT.out.g0
      have g1 := HT.out.g1
      have c0 := HT.out.c0
      have c1 := HT.out.c1
      obtain ⟨u0, r0⟩ := r0
      obtain ⟨u1, r1⟩ := r1
      have HTB := Lib.hid HT.out.bel
      have hro := HT.out.ro
      have hrm := HT.out.rm
      have hlt := HT.out.lt
      have EQ : Hid (maxR X (k + 1 - 1) = maxR X k) := by rw [show k + 1 - 1 = k by omega]; rfl
      generalize maxR X k = m at c0 c1 EQ
      clear HT
      obtain ⟨m0, m1⟩ := m
      simp only at c0 c1
      go_wp2_with fail
      refine bodyPost_ret (v := .agg #[.int .i64 m0, .int .i64 m1]) ?_ rfl ⟨by rw [EQ.out], (HTB.out.setCell (by simp) _).setCell (by simp) _⟩
      have q0 : ((wr.setCell ⟨w.heap.size, 0, none⟩ (.int .i64 m0)).setCell ⟨w.heap.size, 1, none⟩ (.int .i64 m1)).cell? ⟨w.heap.size, 0, none⟩ = some (.int .i64 m0) := by
        rw [World.cell?_setCell_other _ _ _ _ (by intro e; cases e)]; exact World.cell?_setCell_same _ _ _ r0
      have q1 : ((wr.setCell ⟨w.heap.size, 0, none⟩ (.int .i64 m0)).setCell ⟨w.heap.size, 1, none⟩ (.int .i64 m1)).cell? ⟨w.heap.size, 1, none⟩ = some (.int .i64 m1) := by
        refine World.cell?_setCell_same _ _ _ (u := u1) ?_
        rw [World.cell?_setCell_other _ _ _ _ (by intro e; cases e)]; exact r1
      simp [results, Tryd.results34, go_sem, q0, q1]

end Go.Proofs.YtmmaolhmhdjldaaDoor.AgeS
