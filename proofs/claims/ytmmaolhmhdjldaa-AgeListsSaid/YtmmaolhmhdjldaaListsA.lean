/- AgeLists, walked: the start, for a list that is not empty. -/
import Derived.Test.YtmmaolhmhdjldaaRefCalls
import Derived.Deep.AppendLies
import Derived.Deep.SlicePairs
namespace Go.Proofs.Ytmmaolhmhdjldaa.AgeS
open Go.RowKit Go.Proofs.Ytmmaolhmhdjldaa.Cls Go.Proofs.YtmmaolhmhdjldaaW.PrintWords Go.Proofs.Ytmmaolhmhdjldaa.PAgeLists

theorem cells_snoc (X : Nat → Int × Int) (n : Nat) (x : Int × Int) : idCells X n ++ idC x = idCells (put X n x) (n + 1) := by
  show _ = idCells (put X n x) n ++ idC (put X n x n)
  rw [put_same, idCells_congr (Y := put X n x) n (fun i hi => (put_other X x (show i ≠ n by omega)).symm)]

theorem cell_alloc2 (w : World) (u v : Value) : ∀ j x, [u, v][j]? = some x → (w.alloc (.cells #[u, v] 23)).cell? ((⟨w.heap.size, 0, none⟩ : Addr).add j) = some x := by
  intro j x h
  match j, h with
  | 0, h => cases h; simp [go_sem, Addr.add]
  | 1, h => cases h; simp [go_sem, Addr.add]
theorem idC_one (x : Int × Int) : ∀ u ∈ idC x, u.oneCell' = true := by
  intro u h
  simp [idC] at h
  rcases h with rfl | rfl <;> rfl

/-- A variable that is laid and set. -/
theorem laid (w : World) (a b : Int) {T : World} (hT : ((w.alloc (.cells #[.int .i64 0, .int .i64 0] 23)).setCell ⟨w.heap.size, 0, none⟩ (.int .i64 a)).setCell ⟨w.heap.size, 1, none⟩ (.int .i64 b) = T) :
    Below w.heap.size w T ∧ T.heap.size = w.heap.size + 1 ∧ T.cell? ⟨w.heap.size, 0, none⟩ = some (.int .i64 a) ∧ T.cell? ⟨w.heap.size, 1, none⟩ = some (.int .i64 b) := by
  subst hT
  refine ⟨(((Below.refl w.heap.size w).alloc (Nat.le_refl _) _).setCell (by simp) _).setCell (by simp) _, by simp, ?_, ?_⟩
  · rw [World.cell?_setCell_other _ _ _ _ (by intro e; cases e)]
    exact World.cell?_setCell_same _ _ _ (u := .int .i64 0) (by simp [go_sem])
  · refine World.cell?_setCell_same _ _ _ (u := .int .i64 0) ?_
    rw [World.cell?_setCell_other _ _ _ _ (by intro e; cases e)]
    simp [go_sem]

theorem same_n (L : List (Int × Int)) (n : Nat) (hn : L.length = n) (hL : n ≤ 4000) (A0 A1 : Option Addr) (c0 c1 : Nat) (hc0 : n ≤ c0) (hc1 : n ≤ c1) (w : World)
    (h0 : Kd.C k23 w A0 (L.map sS).length (L.map sS)) (h1 : Kd.C k23 w A1 (L.map sS).length (L.map sS)) :
    Calls Try.prog 59 #[.slice A0 n c0, .slice A1 n c1] w fun e w' => e = .returned (.bool true) ∧ ∃ q, w' = w.drewN q := by
  subst hn
  exact same_calls L hL A0 A1 c0 c1 hc0 hc1 w h0 h1

theorem ref_n (L : List (Int × Int)) (n : Nat) (hn : L.length = n) (hL : n ≤ 2000) (hp : 0 < n) (A0 : Option Addr) (c0 : Nat) (hc0 : n ≤ c0) (w : World) (h0 : Kd.C k23 w A0 (L.map sS).length (L.map sS)) :
    Calls Try.prog 58 #[.slice A0 n c0] w fun e w' => ∃ g cap r, e = .returned (.slice (some ⟨g, 0, none⟩) (List.length r) cap) ∧ Rises (at_ L) n r ∧ r.length ≤ n ∧ OwnIds w' w.heap.size g r.length cap (at_ r) ∧ Below w.heap.size w w' := by
  subst hn
  refine (ref_calls L hL A0 c0 hc0 w h0).mono ?_
  rintro e w' ⟨v, r, rfl, hr, hz, ho, hb⟩
  obtain ⟨g, cap, rfl, _, _⟩ := ho.form (hr.pos hp)
  exact ⟨g, cap, r, rfl, hr, hz, ho, hb⟩

theorem sort_n (L : List (Int × Int)) (b n cap : Nat) (hn : n ≤ 2000) (hp : 0 < n) (w : World) (hb : b < w.heap.size) (hA : IdsAt w b 0 n (at_ L)) (R : List (Int × Int)) (hR : Rises (at_ L) n R) :
    Calls Try.prog 57 #[.slice (some ⟨b, 0, none⟩) n cap] w fun e w' => ∃ g cap', e = .returned (.slice (some ⟨g, 0, none⟩) (List.length R) cap') ∧ OwnIds w' w.heap.size g (List.length R) cap' (at_ R) ∧ Below w.heap.size w w' := by
  refine (age_sort_some (at_ L) b 0 n cap (by omega) hp w hb hA).mono ?_
  rintro e w' ⟨g, cap', r, rfl, hr, ho, hB⟩
  obtain rfl := hr.same hR
  exact ⟨g, cap', rfl, ho, hB⟩

def RelZ (k base gx capx : Nat) (w0 : World) (g : Nat) (v12 : Value) (wr : World) : Prop :=
  ∃ (j : Nat) (Y : Nat → Int × Int), j + g = k + 1 ∧ v12 = .int .i64 j ∧ OwnIds wr base gx (k + 1) capx Y ∧ w0.grownBy wr (some gx)

theorem IdsAt.far {w w' : World} {b o n gx : Nat} {X : Nat → Int × Int} (h : IdsAt w b o n X) (hb : b < w.heap.size) (hne : b ≠ gx) (hg : w.grownBy w' (some gx)) : IdsAt w' b o n X :=
  fun i hi => ⟨(hg.cell_far ⟨b, o + i * 2, none⟩ hb (by intro e; cases e; exact hne rfl)).trans (h i hi).1, (hg.cell_far ⟨b, o + i * 2 + 1, none⟩ hb (by intro e; cases e; exact hne rfl)).trans (h i hi).2⟩
theorem cell_farN {w w' : World} {b o gx : Nat} {v : Value} (h : w.cell? ⟨b, o, none⟩ = some v) (hb : b < w.heap.size) (hne : b ≠ gx) (hg : w.grownBy w' (some gx)) : w'.cell? ⟨b, o, none⟩ = some v :=
  (hg.cell_far ⟨b, o, none⟩ hb (by intro e; cases e; exact hne rfl)).trans h
theorem grown_alloc (w : World) (o : Obj) (g : Option Nat) : w.grownBy (w.alloc o) g := ⟨rfl, rfl, rfl, by simp, fun k hk _ => heap_alloc_old w _ hk⟩

set_option maxRecDepth 100000 in
theorem lists_some (L : List (Int × Int)) (b o n cap : Nat) (hL : L.length = n) (hc : cap ≤ maxLen) (hnc : n ≤ cap) (hn : n ≤ 2000) (hp : 0 < n) (w : World) (hb : b < w.heap.size) (hA : IdsAt w b o n (at_ L)) :
    Calls Try.prog 14 #[.slice (some ⟨b, o, none⟩) n cap] w fun e w' => e = .returned (.bool true) ∧ Below w.heap.size w w' := by
  have HA := Lib.hid hA
  have HC := Lib.hid hc
  have HL := Lib.hid hL
  clear hA hc hL
  have big : decide ((2000 : Int) < (n : Int)) = false := decide_eq_false (by omega)
  obtain ⟨i0, hi, hz0, hz1, hz2⟩ := info_parts infoId
  obtain ⟨_, R, _, hR, hRz⟩ := ref_sort_f L (by have := HL.out; omega)
  rw [HL.out] at hR hRz
  have HR := Lib.hid hR
  obtain ⟨m, hm⟩ : ∃ m, R.length = m := ⟨_, rfl⟩
  have HM := Lib.hid hm
  have hm0 : 0 < m := by rw [← hm]; exact hR.pos hp
  have hmn : m ≤ n := by rw [← hm]; exact hRz
  clear hR hm hRz
  obtain ⟨k, rfl⟩ : ∃ k, m = k + 1 := ⟨m - 1, by omega⟩
  have OWN : Hid ((w.alloc (.cells #[] 23)).ownsRow w.heap.size 23 2 (.slice (some ⟨w.heap.size, 0, none⟩) 0 0) 0 []) := World.ownsRow_made w #[] 0 (Nat.le_refl _) (by unfold maxLen; omega) rfl
  have NEWS : Hid (∀ j u, (idCells (at_ L) n)[j]? = some u → (w.alloc (.cells #[] 23)).cell? ((⟨b, o, none⟩ : Addr).add j) = some u) := fun j u h => by
    obtain ⟨i, r, hi, hr, rfl, hu⟩ := idCells_get h
    rw [Addr.add_lit]
    have e := ((Below.refl w.heap.size w).alloc (Nat.le_refl _) (.cells #[] 23)).cell (p := ⟨b, o + (i * 2 + r), none⟩) hb
    rw [e]
    have h0 := HA.out i hi
    rcases (show r = 0 ∨ r = 1 by omega) with rfl | rfl
    · rw [show o + (i * 2 + 0) = o + i * 2 by omega, h0.1, ← hu]; rfl
    · rw [show o + (i * 2 + 1) = o + i * 2 + 1 by omega, h0.2, ← hu]; rfl
  go_enter Try.func14, Try.ntmps14
  go_wp2_with (first
    | (at_builtin; refine wpList_append_lies _ rfl _ _ 94 rfl w.heap.size 23 i0 (.agg #[.int .i64 0, .int .i64 0]) 2 16 Try.underlying94 hi hz0 hz1 hz2 rfl (by decide) _ 0 [] rfl OWN.out ⟨b, o, none⟩ n cap (idCells (at_ L) n) rfl (idCells_len _ n) NEWS.out (idCells_one _ n) hp (by unfold maxLen; omega) (by omega) (by simp) _ rfl ?_; intro g cap1 w1 hown hgrow hat hlt; rw [Nat.zero_add, List.nil_append] at hown; have HB1 := Lib.hid (((Below.refl w.heap.size w).alloc (Nat.le_refl _) _).grown hgrow (by simp) (fun j hj => by cases hj; exact Nat.le_refl _)); have HO : Hid (OwnIds w1 w.heap.size g n cap1 (at_ L)) := Lib.hid hown; clear hown hgrow hat hlt OWN NEWS)
    | (have OWN2 : Hid ((w1.alloc (.cells #[.int .i64 (-7), .int .i64 0] 23)).ownsRow w.heap.size 23 2 (.slice (some ⟨g, 0, none⟩) n cap1) n (idCells (at_ L) n)) := Lib.hid (World.ownsRow.alloc HO.out _); at_builtin; refine wpList_append_lies _ rfl _ _ 94 rfl w.heap.size 23 i0 (.agg #[.int .i64 0, .int .i64 0]) 2 16 Try.underlying94 hi hz0 hz1 hz2 rfl (by decide) _ n (idCells (at_ L) n) rfl OWN2.out ⟨w1.heap.size, 0, none⟩ 1 1 (idC (-7, 0)) rfl rfl (cell_alloc2 w1 _ _) (idC_one _) (by omega) (by unfold maxLen; omega) (by omega) (by have := HB1.out.size; simp; omega) _ rfl ?_; intro g2 cap2 w2 hown hgrow hat hlt; rw [cells_snoc] at hown; have HB2 := Lib.hid ((HB1.out.alloc HB1.out.size _).grown hgrow (by have := HB1.out.size; simp; omega) (fun j hj => by cases hj; exact HO.out.bounds.1)); have HO2 : Hid (OwnIds w2 w.heap.size g2 (n + 1) cap2 (put (at_ L) n (-7, 0))) := Lib.hid hown; have hn2 : n ≤ cap2 := (by have := HO2.out.bounds.2.2.1; omega); clear hown hgrow hat hlt OWN2 HO))
  have hg2 : g2 < w2.heap.size := HO2.out.bounds.2.1
  have hg0 : w.heap.size ≤ g2 := HO2.out.bounds.1
  have HI2 : Hid (IdsAt w2 g2 0 n (at_ L)) := Lib.hid (fun i hi => by have h := HO2.out.cells i (by omega); rw [put_other _ _ (show i ≠ n by omega)] at h; exact h)
  have H7 : Hid (w2.cell? ⟨g2, n * 2, none⟩ = some (.int .i64 (-7))) := Lib.hid (by have h := (HO2.out.cells n (by omega)).1; rw [put_same, Nat.zero_add] at h; exact h)
  have hcap2 : cap2 ≤ 9223372036854775807 := by have := HO2.out.bounds.2.2.2; unfold maxLen at this; omega
  refine (oldest_some (at_ L) g2 0 n cap2 hn2 hp hcap2 w2 hg2 HI2.out).mono ?_
  rintro e w3 ⟨rfl, hb3⟩
  rw [HR.out.first hp]
  have HB3 := Lib.hid hb3
  clear hb3
  obtain ⟨⟨a0, a1⟩, hra⟩ : ∃ x, at_ R 0 = x := ⟨_, rfl⟩
  rw [hra]
  have RA := Lib.hid hra
  clear hra
  simp only
  go_wp2_with fail
  have A5 : Hid (Below w2.heap.size w2 (w3.alloc (.cells #[.int .i64 a0, .int .i64 a1] 23))) := Lib.hid (HB3.out.alloc HB3.out.size _)
  refine (youngest_some (at_ L) g2 0 n cap2 hn2 hp hcap2 _ (by have := HB3.out.size; simp; omega) (HI2.out.below hg2 A5.out)).mono ?_
  rintro e w4 ⟨rfl, hb4⟩
  rw [HR.out.last hp, HM.out, Nat.add_sub_cancel]
  obtain ⟨⟨b0, b1⟩, hrb⟩ : ∃ x, at_ R k = x := ⟨_, rfl⟩
  rw [hrb]
  have RB := Lib.hid hrb
  clear hrb
  simp only
  have HB4 : Hid (Below w2.heap.size w2 w4) := Lib.hid (A5.out.trans (hb4.mono (by have := HB3.out.size; simp; omega)))
  have CA0 : Hid (w4.cell? ⟨w3.heap.size, 0, none⟩ = some (.int .i64 a0)) := Lib.hid (by rw [hb4.cell (p := ⟨w3.heap.size, 0, none⟩) (by simp)]; simp [go_sem])
  have CA1 : Hid (w4.cell? ⟨w3.heap.size, 1, none⟩ = some (.int .i64 a1)) := Lib.hid (by rw [hb4.cell (p := ⟨w3.heap.size, 1, none⟩) (by simp)]; simp [go_sem])
  have hp5 : w2.heap.size ≤ w3.heap.size := HB3.out.size
  have hp5' : w3.heap.size < w4.heap.size := by have := hb4.size; simp at this; omega
  clear hb4 A5 HB3
  go_wp2_with fail
  generalize w3.heap.size = p5 at hp5 hp5' CA0 CA1 ⊢
  clear w3
  have A6 : Hid (Below w4.heap.size w4 (w4.alloc (.cells #[.int .i64 b0, .int .i64 b1] 23))) := Lib.hid ((Below.refl _ _).alloc (Nat.le_refl _) _)
  have s4 := HB4.out.size
  refine (sort_n L g2 n cap2 hn hp _ (by simp; omega) (HI2.out.below hg2 (HB4.out.trans (A6.out.mono s4))) R HR.out).mono ?_
  rintro e w5 ⟨gx, capx, rfl, hx, hb5⟩
  have HB5 : Hid (Below (w4.heap.size + 1) (w4.alloc (.cells #[.int .i64 b0, .int .i64 b1] 23)) w5) := Lib.hid (by simpa using hb5)
  have HX5 : Hid (OwnIds w5 (w4.heap.size + 1) gx (k + 1) capx (at_ R)) := Lib.hid (by simpa [HM.out] using hx)
  rw [HM.out]
  clear hb5 hx
  go_wp2_with fail
  have s5 : w4.heap.size + 1 ≤ w5.heap.size := by have := HB5.out.size; simpa using this
  have HB45 : Hid (Below w4.heap.size w4 w5) := Lib.hid (A6.out.trans (HB5.out.mono (by omega)))
  have CB0 : Hid (w5.cell? ⟨w4.heap.size, 0, none⟩ = some (.int .i64 b0)) := Lib.hid (by rw [HB5.out.cell (p := ⟨w4.heap.size, 0, none⟩) (by simp)]; simp [go_sem])
  have CB1 : Hid (w5.cell? ⟨w4.heap.size, 1, none⟩ = some (.int .i64 b1)) := Lib.hid (by rw [HB5.out.cell (p := ⟨w4.heap.size, 1, none⟩) (by simp)]; simp [go_sem])
  have hgx := HX5.out.bounds
  refine (sort_n L g2 n cap2 hn hp _ (by omega) (HI2.out.below hg2 (HB4.out.trans (HB45.out.mono s4))) R HR.out).mono ?_
  rintro e w6 ⟨gy, capy, rfl, hy, hb6⟩
  have HB6 := Lib.hid hb6
  have HY6 : Hid (OwnIds w6 w5.heap.size gy (k + 1) capy (at_ R)) := Lib.hid (by simpa [HM.out] using hy)
  rw [HM.out]
  clear hb6 hy
  have s6 := HB6.out.size
  have hgy := HY6.out.bounds
  go_wp2_with fail
  have HB26 : Hid (Below w2.heap.size w2 w6) := Lib.hid ((HB4.out.trans (HB45.out.mono s4)).trans (HB6.out.mono (by omega)))
  have LB : Hid (Below w.heap.size w w6) := Lib.hid (HB2.out.trans (HB26.out.mono HB2.out.size))
  have s2 := HB2.out.size
  refine (ref_n L n HL.out hn hp (some ⟨b, o, none⟩) cap hnc w6 (kdC (by rw [HL.out]; omega) (by rw [HL.out]; exact HA.out.below hb LB.out))).mono ?_
  rintro e w7 ⟨gz, capz, r, rfl, hr, _, hz, hb7⟩
  obtain rfl := hr.same HR.out
  rw [HM.out] at hz ⊢
  have HB7 := Lib.hid hb7
  have HZ7 := Lib.hid hz
  clear hb7 hz hr
  have hgz := HZ7.out.bounds
  have s7 := HB7.out.size
  go_wp2_with fail
  have LI : Hid (IdsAt w7 b o n (at_ L)) := Lib.hid (HA.out.below hb (LB.out.trans (HB7.out.mono (by omega))))
  have HB27 : Hid (Below w2.heap.size w2 w7) := Lib.hid (HB26.out.trans (HB7.out.mono (by omega)))
  have HB57 : Hid (Below w5.heap.size w5 w7) := Lib.hid (HB6.out.trans (HB7.out.mono (by omega)))
  have HB47 : Hid (Below w4.heap.size w4 w7) := Lib.hid (HB45.out.trans (HB57.out.mono (by omega)))
  have LB7 : Hid (Below w.heap.size w w7) := Lib.hid (LB.out.trans (HB7.out.mono (by omega)))
  have GI : Hid (IdsAt w7 g2 0 n (at_ L)) := Lib.hid (HI2.out.below hg2 HB27.out)
  have YI : Hid (IdsAt w7 gy 0 (k + 1) (at_ r)) := Lib.hid (HY6.out.cells.below hgy.2.1 HB7.out)
  have ZI : Hid (IdsAt w7 gz 0 (k + 1) (at_ r)) := Lib.hid HZ7.out.cells
  have XO : Hid (OwnIds w7 (w4.heap.size + 1) gx (k + 1) capx (at_ r)) := Lib.hid (pw_own_below HX5.out HB57.out)
  have PA0 : Hid (w7.cell? ⟨p5, 0, none⟩ = some (.int .i64 a0)) := Lib.hid ((HB47.out.cell (p := ⟨p5, 0, none⟩) hp5').trans CA0.out)
  have PA1 : Hid (w7.cell? ⟨p5, 1, none⟩ = some (.int .i64 a1)) := Lib.hid ((HB47.out.cell (p := ⟨p5, 1, none⟩) hp5').trans CA1.out)
  have PB0 : Hid (w7.cell? ⟨w4.heap.size, 0, none⟩ = some (.int .i64 b0)) := Lib.hid ((HB57.out.cell (p := ⟨w4.heap.size, 0, none⟩) (show w4.heap.size < w5.heap.size by omega)).trans CB0.out)
  have PB1 : Hid (w7.cell? ⟨w4.heap.size, 1, none⟩ = some (.int .i64 b1)) := Lib.hid ((HB57.out.cell (p := ⟨w4.heap.size, 1, none⟩) (show w4.heap.size < w5.heap.size by omega)).trans CB1.out)
  have P7 : Hid (w7.cell? ⟨g2, n * 2, none⟩ = some (.int .i64 (-7))) := Lib.hid ((HB27.out.cell (p := ⟨g2, n * 2, none⟩) hg2).trans H7.out)
  clear HA HB1 HB2 HO2 HI2 H7 HB4 CA0 CA1 A6 HB5 HX5 HB45 CB0 CB1 HY6 HB6 HB26 LB HB7 HZ7 HB27 HB57 HB47
  have hq : ∀ q, ((w7.drewN q).cell? ⟨g2, n * 2, none⟩) = some (.int .i64 (-7)) := fun q => P7.out
  refine (same_n r (k + 1) HM.out (by omega) _ _ _ _ (by omega) (by omega) w7 (kdC (by rw [HM.out]; omega) (by rw [HM.out]; exact XO.out.cells)) (kdC (by rw [HM.out]; omega) (by rw [HM.out]; exact ZI.out))).mono ?_
  rintro e w8 ⟨rfl, q1, rfl⟩
  go_wp2_with fail
  refine (same_n r (k + 1) HM.out (by omega) _ _ _ _ (by omega) (by omega) _ (kdC (by rw [HM.out]; omega) (by rw [HM.out]; exact YI.out)) (kdC (by rw [HM.out]; omega) (by rw [HM.out]; exact ZI.out))).mono ?_
  rintro e w8 ⟨rfl, q2, rfl⟩
  go_wp2_with fail
  refine (same_n L n HL.out (by omega) _ _ _ _ (by omega) (by omega) _ (kdC (by rw [HL.out]; omega) (by rw [HL.out]; exact GI.out)) (kdC (by rw [HL.out]; omega) (by rw [HL.out]; exact LI.out))).mono ?_
  rintro e w8 ⟨rfl, q3, rfl⟩
  go_wp2_with fail
  clear hq P7
  go_loopg [12] (k + 1) (RelZ k (w4.heap.size + 1) gx capx w7)
  case atStart => exact ⟨0, at_ r, by omega, rfl, XO.out, ⟨rfl, rfl, rfl, Nat.le_refl _, fun _ _ _ => rfl⟩⟩
  case round =>
    obtain ⟨gk1, hgk⟩ : ∃ x, x = gk := ⟨_, rfl⟩
    rw [← hgk] at hrel
    obtain ⟨j, Y, hj, rfl, hown, hgr⟩ := hrel
    have HGK := Lib.hid hgk
    have HW := Lib.hid hown
    have HG := Lib.hid hgr
    clear hgk hown hgr
    by_cases hl2 : j < k + 1
    · have p0 := (HW.out.cells j hl2).1
      have p1 := (HW.out.cells j hl2).2
      have f0 := World.ownsRow.frozenAt HW.out (j * 2)
      have f1 := World.ownsRow.frozenAt HW.out (j * 2 + 1)
      simp only [Nat.zero_add] at p0 p1
      have i1 : 0 ≤ (j : Int) := by omega
      have i2 : (j : Int) < ((k + 1 : Nat) : Int) := by omega
      go_wp2_with fail
      go_roundg (gk1 - 1)
      case measure => have := HGK.out; omega
      case rel =>
        exact ⟨j + 1, put Y j (0, 0), by omega, by go_num, HW.out.store j hl2 (0, 0), HG.out.trans (grownBy_set2 _ 0 _ _ _ _ _)⟩
    · obtain rfl : j = k + 1 := by omega
      have i2 : decide (((k + 1 : Nat) : Int) < ((k + 1 : Nat) : Int)) = false := decide_eq_false (by omega)
      have OX : Hid ((wr.alloc (.cells #[.int .i64 (-8), .int .i64 0] 23)).ownsRow (w4.heap.size + 1) 23 2 (.slice (some ⟨gx, 0, none⟩) (k + 1) capx) (k + 1) (idCells Y (k + 1))) := Lib.hid (World.ownsRow.alloc HW.out _)
      have hs := HG.out.size
      go_wp2_with (at_builtin; refine wpList_append_lies _ rfl _ _ 94 rfl (w4.heap.size + 1) 23 i0 (.agg #[.int .i64 0, .int .i64 0]) 2 16 Try.underlying94 hi hz0 hz1 hz2 rfl (by decide) _ (k + 1) (idCells Y (k + 1)) rfl OX.out ⟨wr.heap.size, 0, none⟩ 1 1 (idC (-8, 0)) rfl rfl (cell_alloc2 wr _ _) (idC_one _) (by omega) (by unfold maxLen; omega) (by omega) (by simp; omega) _ rfl ?_; intro gx2 capx2 wz hown hgrow hat hlt; have HZ : Hid (w7.grownBy wz (some gx)) := Lib.hid ((HG.out.trans (grown_alloc wr _ _)).trans hgrow); clear hown hgrow hat hlt OX HW HG)
      have x1 : gx < w7.heap.size := by omega
      have YI2 := Lib.hid (YI.out.far (by omega) (by omega) HZ.out)
      have ZI2 := Lib.hid (ZI.out.far (by omega) (by omega) HZ.out)
      have GI2 := Lib.hid (GI.out.far (by omega) (by omega) HZ.out)
      have LI2 := Lib.hid (LI.out.far (by omega) (by omega) HZ.out)
      have pa0 := cell_farN PA0.out (by omega) (by omega) HZ.out
      have pa1 := cell_farN PA1.out (by omega) (by omega) HZ.out
      have pb0 := cell_farN PB0.out (by omega) (by omega) HZ.out
      have pb1 := cell_farN PB1.out (by omega) (by omega) HZ.out
      have LBZ : Hid (Below w.heap.size w wz) := Lib.hid (LB7.out.grown HZ.out LB7.out.size (fun j hj => by cases hj; omega))
      clear YI ZI GI LI PA0 PA1 PB0 PB1 HZ XO LB7
      refine (same_n r (k + 1) HM.out (by omega) _ _ _ _ (by omega) (by omega) wz (kdC (by rw [HM.out]; omega) (by rw [HM.out]; exact YI2.out)) (kdC (by rw [HM.out]; omega) (by rw [HM.out]; exact ZI2.out))).mono ?_
      rintro e w8 ⟨rfl, q4, rfl⟩
      go_wp2_with fail
      refine (same_n L n HL.out (by omega) _ _ _ _ (by omega) (by omega) _ (kdC (by rw [HL.out]; omega) (by rw [HL.out]; exact GI2.out)) (kdC (by rw [HL.out]; omega) (by rw [HL.out]; exact LI2.out))).mono ?_
      rintro e w8 ⟨rfl, q5, rfl⟩
      have z0 := (ZI2.out 0 (by omega)).1
      have z1 := (ZI2.out 0 (by omega)).2
      have y0 := (ZI2.out k (by omega)).1
      have y1 := (ZI2.out k (by omega)).2
      rw [RA.out] at z0 z1
      rw [RB.out] at y0 y1
      simp only [Nat.zero_add, Nat.zero_mul] at z0 z1 y0 y1
      have ea := eqId (a0, a1) (a0, a1) true (by simp)
      have eb := eqId (b0, b1) (b0, b1) true (by simp)
      simp only at ea eb
      clear YI2 ZI2 GI2 LI2
      go_wp2_with fail
      go_quiet (fail)
      go_wp2_with fail
      go_ret
      exact ⟨rfl, pw_below_drewN (pw_below_drewN LBZ.out _) _⟩
end Go.Proofs.Ytmmaolhmhdjldaa.AgeS
