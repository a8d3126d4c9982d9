/- ClientChecks: a copy of what a cluster is made of, walked. -/
import Derived.Test.YtpaihfdmjkfegaaCkG
import Derived.Test.YtpaihfdmjkfegaaCls
namespace Go.Proofs.Ytpaihfdmjkfegaa.Ck
open Go.RowKit Go.Lib Go.Proofs.Ytpaihfdmjkfegaa.Sta Go.Proofs.Ytpaihfdmjkfegaa.Rd Go.Proofs.Ytpaihfdmjkfegaa.Far

theorem ints_reads {w : World} {B : Nat} {A : Option Addr} {l : List Int} (h : IntsIn w B A l) : Reads w B 1 A l.length (l.map iz) := by
  refine ⟨by simp, fun hl => ?_⟩
  obtain ⟨b, o, rfl, hb, hc⟩ := h hl
  refine ⟨_, rfl, hb, fun j u hu => ?_⟩
  rw [List.getElem?_map] at hu
  cases hx : l[j]? with
  | none => rw [hx] at hu; cases hu
  | some x =>
    rw [hx] at hu
    cases hu
    rw [Addr.add_lit]
    exact hc j x hx
theorem own_cap {w : World} {base n c : Nat} {A : Option Addr} {e : TypeId} {xs : List Value} (h : w.ownsRow base e 1 (.slice A n c) n xs) : n ≤ c := by
  rcases h.2 with ⟨h', rfl⟩ | ⟨g, c', cur, h', _, _, h3, _⟩
  · exact Nat.zero_le _
  · injection h' with _ _ h4
    omega

set_option maxRecDepth 100000 in
set_option maxHeartbeats 6400000 in
theorem copied_any (G F C S : Int) (sp : List ByteArray) (pl : List Int) (A1 A2 : Option Addr) (c1 c2 : Nat) (w : World) (h1 : RowIn w w.heap.size A1 (sp.map sV)) (h2 : IntsIn w w.heap.size A2 pl) (hs : sp.length ≤ maxLen ∧ sp.length * 16 ≤ 140737488355328) (hp : pl.length ≤ maxLen ∧ pl.length * 8 ≤ 140737488355328) :
    Calls Try.prog 7 #[cfgV G F C (.slice A1 sp.length c1) (.slice A2 pl.length c2) S] w fun e w' => ∃ A1' c1' A2' c2', e = .returned (cfgV G F C (.slice A1' sp.length c1') (.slice A2' pl.length c2') S) ∧ RowIn w' w'.heap.size A1' (sp.map sV) ∧ IntsIn w' w'.heap.size A2' pl ∧ pl.length ≤ c2' ∧ Below w.heap.size w w' := by
  have R1 := Lib.hid h1.reads
  have R2 := Lib.hid (ints_reads h2)
  obtain ⟨n, hn⟩ : ∃ n, n = pl.length := ⟨_, rfl⟩
  obtain ⟨m, hm⟩ : ∃ m, m = sp.length := ⟨_, rfl⟩
  rw [List.length_map] at R1
  rw [← hm] at R1 hs
  rw [← hn] at R2 hp
  rw [← hn, ← hm]
  have HN := Lib.hid hn
  have HM := Lib.hid hm
  obtain ⟨ts, hs0, hs1, hs2, hs3⟩ := info_parts infoStr
  obtain ⟨tj, hj0, hy0, hy1, hy2⟩ := info_parts info3
  have y1 : 0 + m ≤ maxLen := by omega
  have y2 : (0 + m) * 16 ≤ 140737488355328 := by omega
  have y3 : 0 + n ≤ maxLen := by omega
  have y4 : (0 + n) * 8 ≤ 140737488355328 := by omega
  have ODs := Lib.hid (sV_one sp)
  have ODi := Lib.hid (iz_one pl)
  clear h1 h2 hn hm hs hp
  unfold cfgV
  go_enter Try.func7, Try.ntmps7
  go_upto_region 1 with (fail)
  refine world_out (fun W hW => ?_)
  have B0 : Hid (Below w.heap.size w W) := Lib.hid (by rw [hW]; exact ((Below.refl _ _).alloc (Nat.le_refl _) _).alloc (by simp) _)
  have K0 : Hid (CfgAt W w.heap.size G F C (.slice A1 m c1) (.slice A2 n c2) S) := Lib.hid (by rw [hW]; exact ⟨by simp; omega, by simp [go_sem], by simp [go_sem], by simp [go_sem], by simp [go_sem], by simp [go_sem], by simp [go_sem]⟩)
  have g3 : W.frozen? ⟨w.heap.size, 3, none⟩ = false := by rw [hW]; simp [go_sem]
  have g4 : W.frozen? ⟨w.heap.size, 4, none⟩ = false := by rw [hW]; simp [go_sem]
  have z0 : W.cell? ⟨w.heap.size + 1, 0, none⟩ = some (.int .i64 0) := by rw [hW]; simp [go_sem]
  have q0 : W.frozen? ⟨w.heap.size + 1, 0, none⟩ = false := by rw [hW]; simp [go_sem]
  have z1 : W.cell? ⟨w.heap.size + 1, 1, none⟩ = some (.int .i64 0) := by rw [hW]; simp [go_sem]
  have q1 : W.frozen? ⟨w.heap.size + 1, 1, none⟩ = false := by rw [hW]; simp [go_sem]
  have z2 : W.cell? ⟨w.heap.size + 1, 2, none⟩ = some (.int .i64 0) := by rw [hW]; simp [go_sem]
  have q2 : W.frozen? ⟨w.heap.size + 1, 2, none⟩ = false := by rw [hW]; simp [go_sem]
  have z3 : W.cell? ⟨w.heap.size + 1, 3, none⟩ = some (.slice none 0 0) := by rw [hW]; simp [go_sem]
  have q3 : W.frozen? ⟨w.heap.size + 1, 3, none⟩ = false := by rw [hW]; simp [go_sem]
  have z4 : W.cell? ⟨w.heap.size + 1, 4, none⟩ = some (.slice none 0 0) := by rw [hW]; simp [go_sem]
  have q4 : W.frozen? ⟨w.heap.size + 1, 4, none⟩ = false := by rw [hW]; simp [go_sem]
  have z5 : W.cell? ⟨w.heap.size + 1, 5, none⟩ = some (.int .i64 0) := by rw [hW]; simp [go_sem]
  have q5 : W.frozen? ⟨w.heap.size + 1, 5, none⟩ = false := by rw [hW]; simp [go_sem]
  have hWs : W.heap.size = w.heap.size + 1 + 1 := by rw [hW]; simp
  have ZF : Hid (∀ i, i < 6 → (∃ u, W.cell? ⟨w.heap.size + 1, i, none⟩ = some u) ∧ W.frozen? ⟨w.heap.size + 1, i, none⟩ = false) := Lib.hid (fun i hi => by
    rcases (show i = 0 ∨ i = 1 ∨ i = 2 ∨ i = 3 ∨ i = 4 ∨ i = 5 by omega) with rfl | rfl | rfl | rfl | rfl | rfl
    · exact ⟨⟨_, z0⟩, q0⟩
    · exact ⟨⟨_, z1⟩, q1⟩
    · exact ⟨⟨_, z2⟩, q2⟩
    · exact ⟨⟨_, z3⟩, q3⟩
    · exact ⟨⟨_, z4⟩, q4⟩
    · exact ⟨⟨_, z5⟩, q5⟩)
  clear z0 z1 z2 z3 z4 z5 q0 q1 q2 q3 q4 q5 hW
  obtain ⟨H, hH⟩ : ∃ H, H = w.heap.size := ⟨_, rfl⟩
  obtain ⟨H2, hH2⟩ : ∃ H, H = w.heap.size + 1 := ⟨_, rfl⟩
  rw [← hH] at K0 g3 g4
  rw [← hH2] at ZF
  try rw [← hH2]
  have LH : Hid (H < W.heap.size ∧ H2 < W.heap.size ∧ H ≠ H2 ∧ w.heap.size ≤ H ∧ w.heap.size ≤ H2) := Lib.hid (by omega)
  try rw [← hH]
  clear hH hH2 hWs
  have B1 : Hid (Below W.heap.size W (W.alloc (.cells #[] 9))) := Lib.hid ((Below.refl _ _).alloc (Nat.le_refl _) _)
  have OWN0 : Hid ((W.alloc (.cells #[] 9)).ownsRow W.heap.size 9 1 (.slice (some ⟨W.heap.size, 0, none⟩) 0 0) 0 []) := Lib.hid (World.ownsRow_made W #[] 0 (Nat.le_refl _) (by unfold maxLen; omega) rfl)
  have RD1 : Hid (Reads (W.alloc (.cells #[] 9)) w.heap.size 1 A1 m (sp.map sV)) := Lib.hid ((R1.out.below B0.out).below (B1.out.mono B0.out.size))
  have yb1 : W.heap.size ≤ (W.alloc (.cells #[] 9)).heap.size := B1.out.size
  have k3a : (W.alloc (.cells #[] 9)).cell? ⟨H, 3, none⟩ = some (.slice A1 m c1) := (B1.out.cell (p := ⟨H, 3, none⟩) LH.out.1).trans K0.out.c3
  have k3 := K0.out.c3
  go_upto_region 2 with (first
    | (at_builtin
       refine wpList_append_any _ rfl (.tmp 3) (.tmp 5) 22 rfl W.heap.size 9 ts (.string ByteArray.empty) 1 16 Try.underlying22 hs0 hs1 hs2 hs3 rfl (by decide) _ 0 [] rfl OWN0.out w.heap.size A1 m c1 (sp.map sV) rfl RD1.out ODs.out y1 y2 yb1 ?_
       intro v6 W2 hown1 hg1 hat1
       rw [Nat.zero_add, List.nil_append] at hown1
       have B2 : Hid (Below W.heap.size W W2) := Lib.hid (B1.out.grown hg1 yb1 (fun j hj => by cases hj; exact Nat.le_refl _))
       obtain ⟨A3, c3, rfl⟩ := own_form hown1
       have O2 := Lib.hid hown1
       have k3b : W2.cell? ⟨H, 3, none⟩ = some (.slice A1 m c1) := (B2.out.cell (p := ⟨H, 3, none⟩) LH.out.1).trans k3
       have g3b : W2.frozen? ⟨H, 3, none⟩ = false := (B2.out.frozen (p := ⟨H, 3, none⟩) LH.out.1).trans g3
       clear hown1 hg1 hat1))
  have B3 : Hid (Below w.heap.size w (W2.setCell ⟨H, 3, none⟩ (.slice A3 m c3))) := Lib.hid ((B0.out.trans (B2.out.mono B0.out.size)).setCell (p := ⟨H, 3, none⟩) LH.out.2.2.2.1 _)
  have hsz3 : (W2.setCell ⟨H, 3, none⟩ (.slice A3 m c3)).heap.size = W2.heap.size := by simp
  have K3 : Hid (CfgAt (W2.setCell ⟨H, 3, none⟩ (.slice A3 m c3)) H G F C (.slice A3 m c3) (.slice A2 n c2) S) := Lib.hid (by
    have hk := K0.out.below B2.out
    have oth : ∀ j, j ≠ 3 → (W2.setCell ⟨H, 3, none⟩ (.slice A3 m c3)).cell? ⟨H, j, none⟩ = W2.cell? ⟨H, j, none⟩ := fun j hj => World.cell?_setCell_other _ _ _ _ (by intro e; simp only [Addr.mk.injEq] at e; exact hj e.2.1.symm)
    exact ⟨by rw [hsz3]; exact hk.lt, (oth 0 (by decide)).trans hk.c0, (oth 1 (by decide)).trans hk.c1, (oth 2 (by decide)).trans hk.c2, World.cell?_setCell_same _ _ _ k3b, (oth 4 (by decide)).trans hk.c4, (oth 5 (by decide)).trans hk.c5⟩)
  have g4b : (W2.setCell ⟨H, 3, none⟩ (.slice A3 m c3)).frozen? ⟨H, 4, none⟩ = false := by rw [World.frozen?_setCell]; exact (B2.out.frozen (p := ⟨H, 4, none⟩) LH.out.1).trans g4
  have Z3 : Hid (∀ i, i < 6 → (∃ u, (W2.setCell ⟨H, 3, none⟩ (.slice A3 m c3)).cell? ⟨H2, i, none⟩ = some u) ∧ (W2.setCell ⟨H, 3, none⟩ (.slice A3 m c3)).frozen? ⟨H2, i, none⟩ = false) := Lib.hid (fun i hi => by
    obtain ⟨⟨u, hu⟩, hf⟩ := ZF.out i hi
    refine ⟨⟨u, ?_⟩, ?_⟩
    · rw [World.cell?_setCell_other _ _ _ _ (by intro e; simp only [Addr.mk.injEq] at e; exact LH.out.2.2.1 e.1), B2.out.cell (p := ⟨H2, i, none⟩) LH.out.2.1]
      exact hu
    · rw [World.frozen?_setCell, B2.out.frozen (p := ⟨H2, i, none⟩) LH.out.2.1]
      exact hf)
  have O3 : Hid ((W2.setCell ⟨H, 3, none⟩ (.slice A3 m c3)).ownsRow W.heap.size 9 1 (.slice A3 m c3) m (sp.map sV)) := Lib.hid (row_off O2.out (fun b hb => Below.heap_setCell W2 ⟨H, 3, none⟩ _ b (by have := (World.ownsRow.lt O2.out b hb).1; have := LH.out.1; show b ≠ H; omega)))
  have LW : Hid (W.heap.size ≤ (W2.setCell ⟨H, 3, none⟩ (.slice A3 m c3)).heap.size) := Lib.hid (by rw [hsz3]; exact B2.out.size)
  generalize W2.setCell ⟨H, 3, none⟩ (.slice A3 m c3) = W3 at B3 K3 g4b Z3 O3 LW ⊢
  clear hsz3 k3b g3b O2 B2 k3a k3 yb1 RD1 OWN0 B1 g3 g4 K0 ZF R1 ODs
  have LH3 : Hid (H < W3.heap.size ∧ H2 < W3.heap.size) := Lib.hid (by have := LH.out; have := LW.out; omega)
  have B4 : Hid (Below W3.heap.size W3 (W3.alloc (.cells #[] 3))) := Lib.hid ((Below.refl _ _).alloc (Nat.le_refl _) _)
  have OWN1 : Hid ((W3.alloc (.cells #[] 3)).ownsRow W3.heap.size 3 1 (.slice (some ⟨W3.heap.size, 0, none⟩) 0 0) 0 []) := Lib.hid (World.ownsRow_made W3 #[] 0 (Nat.le_refl _) (by unfold maxLen; omega) rfl)
  have RD2 : Hid (Reads (W3.alloc (.cells #[] 3)) w.heap.size 1 A2 n (pl.map iz)) := Lib.hid ((R2.out.below B3.out).below (B4.out.mono B3.out.size))
  have yb3 : W3.heap.size ≤ (W3.alloc (.cells #[] 3)).heap.size := B4.out.size
  have k4a : (W3.alloc (.cells #[] 3)).cell? ⟨H, 4, none⟩ = some (.slice A2 n c2) := (B4.out.cell (p := ⟨H, 4, none⟩) LH3.out.1).trans K3.out.c4
  have k4 := K3.out.c4
  go_upto_region 3 with (first
    | (at_builtin
       refine wpList_append_any _ rfl (.tmp 8) (.tmp 10) 23 rfl W3.heap.size 3 tj (.int .i64 0) 1 8 Try.underlying23 hj0 hy0 hy1 hy2 rfl (by decide) _ 0 [] rfl OWN1.out w.heap.size A2 n c2 (pl.map iz) rfl RD2.out ODi.out y3 y4 yb3 ?_
       intro v11 W4 hown1 hg1 hat1
       rw [Nat.zero_add, List.nil_append] at hown1
       have B5 : Hid (Below W3.heap.size W3 W4) := Lib.hid (B4.out.grown hg1 yb3 (fun j hj => by cases hj; exact Nat.le_refl _))
       obtain ⟨A4, c4, rfl⟩ := own_form hown1
       have O4 := Lib.hid hown1
       have k4b : W4.cell? ⟨H, 4, none⟩ = some (.slice A2 n c2) := (B5.out.cell (p := ⟨H, 4, none⟩) LH3.out.1).trans k4
       have g4c : W4.frozen? ⟨H, 4, none⟩ = false := (B5.out.frozen (p := ⟨H, 4, none⟩) LH3.out.1).trans g4b
       clear hown1 hg1 hat1))
  have B6 : Hid (Below w.heap.size w (W4.setCell ⟨H, 4, none⟩ (.slice A4 n c4))) := Lib.hid ((B3.out.trans (B5.out.mono B3.out.size)).setCell (p := ⟨H, 4, none⟩) LH.out.2.2.2.1 _)
  have hsz4 : (W4.setCell ⟨H, 4, none⟩ (.slice A4 n c4)).heap.size = W4.heap.size := by simp
  have K5 : Hid (CfgAt (W4.setCell ⟨H, 4, none⟩ (.slice A4 n c4)) H G F C (.slice A3 m c3) (.slice A4 n c4) S) := Lib.hid (by
    have hk := K3.out.below B5.out
    have oth : ∀ j, j ≠ 4 → (W4.setCell ⟨H, 4, none⟩ (.slice A4 n c4)).cell? ⟨H, j, none⟩ = W4.cell? ⟨H, j, none⟩ := fun j hj => World.cell?_setCell_other _ _ _ _ (by intro e; simp only [Addr.mk.injEq] at e; exact hj e.2.1.symm)
    exact ⟨by rw [hsz4]; exact hk.lt, (oth 0 (by decide)).trans hk.c0, (oth 1 (by decide)).trans hk.c1, (oth 2 (by decide)).trans hk.c2, (oth 3 (by decide)).trans hk.c3, World.cell?_setCell_same _ _ _ k4b, (oth 5 (by decide)).trans hk.c5⟩)
  have Z5 : Hid (∀ i, i < 6 → (∃ u, (W4.setCell ⟨H, 4, none⟩ (.slice A4 n c4)).cell? ⟨H2, i, none⟩ = some u) ∧ (W4.setCell ⟨H, 4, none⟩ (.slice A4 n c4)).frozen? ⟨H2, i, none⟩ = false) := Lib.hid (fun i hi => by
    obtain ⟨⟨u, hu⟩, hf⟩ := Z3.out i hi
    refine ⟨⟨u, ?_⟩, ?_⟩
    · rw [World.cell?_setCell_other _ _ _ _ (by intro e; simp only [Addr.mk.injEq] at e; exact LH.out.2.2.1 e.1), B5.out.cell (p := ⟨H2, i, none⟩) LH3.out.2]
      exact hu
    · rw [World.frozen?_setCell, B5.out.frozen (p := ⟨H2, i, none⟩) LH3.out.2]
      exact hf)
  have O5 : Hid ((W4.setCell ⟨H, 4, none⟩ (.slice A4 n c4)).ownsRow W.heap.size 9 1 (.slice A3 m c3) m (sp.map sV)) := Lib.hid (row_off (own_below O3.out B5.out) (fun b hb => Below.heap_setCell W4 ⟨H, 4, none⟩ _ b (by have := (World.ownsRow.lt O3.out b hb).1; have := LH.out.1; show b ≠ H; omega)))
  have O6 : Hid ((W4.setCell ⟨H, 4, none⟩ (.slice A4 n c4)).ownsRow W3.heap.size 3 1 (.slice A4 n c4) n (pl.map iz)) := Lib.hid (row_off O4.out (fun b hb => Below.heap_setCell W4 ⟨H, 4, none⟩ _ b (by have := (World.ownsRow.lt O4.out b hb).1; have := LH3.out.1; show b ≠ H; omega)))
  generalize W4.setCell ⟨H, 4, none⟩ (.slice A4 n c4) = W5 at B6 K5 Z5 O5 O6 ⊢
  clear hsz4 k4b g4c O4 B5 k4a k4 yb3 RD2 OWN1 B4 g4b K3 Z3 R2 ODi O3
  have k0 := K5.out.c0
  have k1 := K5.out.c1
  have k2 := K5.out.c2
  have k3 := K5.out.c3
  have k4 := K5.out.c4
  have k5 := K5.out.c5
  obtain ⟨⟨u0, z0⟩, q0⟩ := Z5.out 0 (by decide)
  obtain ⟨⟨u1, z1⟩, q1⟩ := Z5.out 1 (by decide)
  obtain ⟨⟨u2, z2⟩, q2⟩ := Z5.out 2 (by decide)
  obtain ⟨⟨u3, z3⟩, q3⟩ := Z5.out 3 (by decide)
  obtain ⟨⟨u4, z4⟩, q4⟩ := Z5.out 4 (by decide)
  obtain ⟨⟨u5, z5⟩, q5⟩ := Z5.out 5 (by decide)
  go_wp2
  have hb : ∀ b, b ≠ H2 → ((((((W5.setCell ⟨H2, 0, none⟩ (.int .i64 G)).setCell ⟨H2, 1, none⟩ (.int .i64 F)).setCell ⟨H2, 2, none⟩ (.int .i64 C)).setCell ⟨H2, 3, none⟩ (.slice A3 m c3)).setCell ⟨H2, 4, none⟩ (.slice A4 n c4)).setCell ⟨H2, 5, none⟩ (.int .i64 S)).heap[b]? = W5.heap[b]? := fun b hb => by
    rw [Below.heap_setCell _ _ _ b hb, Below.heap_setCell _ _ _ b hb, Below.heap_setCell _ _ _ b hb, Below.heap_setCell _ _ _ b hb, Below.heap_setCell _ _ _ b hb, Below.heap_setCell _ _ _ b hb]
  have O7 := row_off O5.out (fun b h => hb b (by have := (World.ownsRow.lt O5.out b h).1; have := LH.out; omega))
  have O8 := row_off O6.out (fun b h => hb b (by have := (World.ownsRow.lt O6.out b h).1; have := LH3.out; omega))
  have hw2 : w.heap.size ≤ H2 := LH.out.2.2.2.2
  have BF : Below w.heap.size w ((((((W5.setCell ⟨H2, 0, none⟩ (.int .i64 G)).setCell ⟨H2, 1, none⟩ (.int .i64 F)).setCell ⟨H2, 2, none⟩ (.int .i64 C)).setCell ⟨H2, 3, none⟩ (.slice A3 m c3)).setCell ⟨H2, 4, none⟩ (.slice A4 n c4)).setCell ⟨H2, 5, none⟩ (.int .i64 S)) := (((((B6.out.setCell (p := ⟨H2, 0, none⟩) hw2 _).setCell (p := ⟨H2, 1, none⟩) hw2 _).setCell (p := ⟨H2, 2, none⟩) hw2 _).setCell (p := ⟨H2, 3, none⟩) hw2 _).setCell (p := ⟨H2, 4, none⟩) hw2 _).setCell (p := ⟨H2, 5, none⟩) hw2 _
  refine bodyPost_ret (v := .agg #[.int .i64 G, .int .i64 F, .int .i64 C, .slice A3 m c3, .slice A4 n c4, .int .i64 S]) (by simp [results, Try.results7, go_sem, z0, z1, z2, z3, z4, z5]) rfl ⟨A3, c3, A4, c4, rfl, ?_, ?_, own_cap O8, BF⟩
  · exact (RowFrom.of_own O7).in_
  · exact ints_own O8
end Go.Proofs.Ytpaihfdmjkfegaa.Ck
