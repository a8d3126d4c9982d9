/- age.Oldest and age.Youngest, and age.Sort of none, walked. -/
import Derived.Test.YtmmaolhmhdjldaaDoorAgeSort
import Derived.Shelf.SlSortCmp.NoneTotal
namespace Go.Proofs.YtmmaolhmhdjldaaDoor.AgeS
open Go.RowKit Go.Sort Go.Lib

theorem oldest_some (X : Nat → Int × Int) (b o n cap : Nat) (hn : n ≤ cap) (hp : 0 < n) (hc : cap ≤ 9223372036854775807) (w : World) (hb : b < w.heap.size) (hA : IdsAt w b o n X) :
    Calls Tryd.prog 20 #[.slice (some ⟨b, o, none⟩) n cap] w fun e w' => e = .returned (.tuple #[.agg #[.int .i64 (minR X (n - 1)).1, .int .i64 (minR X (n - 1)).2], .bool true]) ∧ Below w.heap.size w w' := by
  have h1 : ((n : Int) == 0) = false := beq_eq_false_iff_ne.2 (by omega)
  have MC : Hid (∀ u, Calls Tryd.prog 33 #[.slice (some ⟨b, o, none⟩) n cap, .func (.func 11) #[] #[]] (w.alloc (.cells u 23)) fun e w' => e = .returned (.agg #[.int .i64 (minR X (n - 1)).1, .int .i64 (minR X (n - 1)).2]) ∧ Below (w.heap.size + 1) (w.alloc (.cells u 23)) w') := fun u => by
    have := min_any X b o n cap hn hp hc (w.alloc (.cells u 23)) (by simp; omega) (hA.below hb ((Below.refl _ _).alloc (Nat.le_refl _) _))
    simpa using this
  clear hA
  generalize minR X (n - 1) = m at MC ⊢
  obtain ⟨m0, m1⟩ := m
  simp only at MC ⊢
  go_enter Tryd.func20, Tryd.ntmps20
  go_wp2_with fail
  refine (MC.out _).mono ?_
  rintro e w1 ⟨rfl, hb1⟩
  have B1 := Lib.hid hb1
  have c0 : w1.cell? ⟨w.heap.size, 0, none⟩ = some (.int .i64 0) := by rw [hb1.cell (p := ⟨w.heap.size, 0, none⟩) (by simp)]; simp [go_sem]
  have c1 : w1.cell? ⟨w.heap.size, 1, none⟩ = some (.int .i64 0) := by rw [hb1.cell (p := ⟨w.heap.size, 1, none⟩) (by simp)]; simp [go_sem]
  have f0 : w1.frozen? ⟨w.heap.size, 0, none⟩ = false := by rw [hb1.frozen (p := ⟨w.heap.size, 0, none⟩) (by simp)]; simp [go_sem]
  have f1 : w1.frozen? ⟨w.heap.size, 1, none⟩ = false := by rw [hb1.frozen (p := ⟨w.heap.size, 1, none⟩) (by simp)]; simp [go_sem]
  clear hb1
  go_wp2_with fail
  have q0 : ((w1.setCell ⟨w.heap.size, 0, none⟩ (.int .i64 m0)).setCell ⟨w.heap.size, 1, none⟩ (.int .i64 m1)).cell? ⟨w.heap.size, 0, none⟩ = some (.int .i64 m0) := by
    rw [World.cell?_setCell_other _ _ _ _ (by intro e; cases e)]; exact World.cell?_setCell_same _ _ _ c0
  have q1 : ((w1.setCell ⟨w.heap.size, 0, none⟩ (.int .i64 m0)).setCell ⟨w.heap.size, 1, none⟩ (.int .i64 m1)).cell? ⟨w.heap.size, 1, none⟩ = some (.int .i64 m1) := by
    refine World.cell?_setCell_same _ _ _ (u := .int .i64 0) ?_
    rw [World.cell?_setCell_other _ _ _ _ (by intro e; cases e)]; exact c1
  refine bodyPost_ret (v := .tuple #[.agg #[.int .i64 m0, .int .i64 m1], .bool true]) (by simp [results, Tryd.results20, go_sem, q0, q1]) rfl ⟨rfl, ?_⟩
  have b0 := ((Below.refl w.heap.size w).alloc (Nat.le_refl _) (.cells #[.int .i64 0, .int .i64 0] 23)).trans (B1.out.mono (by simp))
  exact (b0.setCell (by simp) _).setCell (by simp) _

theorem oldest_none (A : Option Addr) (cap : Nat) (w : World) :
    Calls Tryd.prog 20 #[.slice A 0 cap] w fun e w' => e = .returned (.tuple #[.agg #[.int .i64 0, .int .i64 0], .bool false]) ∧ Below w.heap.size w w' := by
  go_enter Tryd.func20, Tryd.ntmps20
  go_wp2_with fail
  refine bodyPost_ret (v := .tuple #[.agg #[.int .i64 0, .int .i64 0], .bool false]) (by simp [results, Tryd.results20, go_sem]) rfl ⟨rfl, ?_⟩
  exact (Below.refl _ _).alloc (Nat.le_refl _) _

theorem youngest_some (X : Nat → Int × Int) (b o n cap : Nat) (hn : n ≤ cap) (hp : 0 < n) (hc : cap ≤ 9223372036854775807) (w : World) (hb : b < w.heap.size) (hA : IdsAt w b o n X) :
    Calls Tryd.prog 21 #[.slice (some ⟨b, o, none⟩) n cap] w fun e w' => e = .returned (.tuple #[.agg #[.int .i64 (maxR X (n - 1)).1, .int .i64 (maxR X (n - 1)).2], .bool true]) ∧ Below w.heap.size w w' := by
  have h1 : ((n : Int) == 0) = false := beq_eq_false_iff_ne.2 (by omega)
  have MC : Hid (∀ u, Calls Tryd.prog 34 #[.slice (some ⟨b, o, none⟩) n cap, .func (.func 11) #[] #[]] (w.alloc (.cells u 23)) fun e w' => e = .returned (.agg #[.int .i64 (maxR X (n - 1)).1, .int .i64 (maxR X (n - 1)).2]) ∧ Below (w.heap.size + 1) (w.alloc (.cells u 23)) w') := fun u => by
    have := max_any X b o n cap hn hp hc (w.alloc (.cells u 23)) (by simp; omega) (hA.below hb ((Below.refl _ _).alloc (Nat.le_refl _) _))
    simpa using this
  clear hA
  generalize maxR X (n - 1) = m at MC ⊢
  obtain ⟨m0, m1⟩ := m
  simp only at MC ⊢
  go_enter Tryd.func21, Tryd.ntmps21
  go_wp2_with fail
  refine (MC.out _).mono ?_
  rintro e w1 ⟨rfl, hb1⟩
  have B1 := Lib.hid hb1
  have c0 : w1.cell? ⟨w.heap.size, 0, none⟩ = some (.int .i64 0) := by rw [hb1.cell (p := ⟨w.heap.size, 0, none⟩) (by simp)]; simp [go_sem]
  have c1 : w1.cell? ⟨w.heap.size, 1, none⟩ = some (.int .i64 0) := by rw [hb1.cell (p := ⟨w.heap.size, 1, none⟩) (by simp)]; simp [go_sem]
  have f0 : w1.frozen? ⟨w.heap.size, 0, none⟩ = false := by rw [hb1.frozen (p := ⟨w.heap.size, 0, none⟩) (by simp)]; simp [go_sem]
  have f1 : w1.frozen? ⟨w.heap.size, 1, none⟩ = false := by rw [hb1.frozen (p := ⟨w.heap.size, 1, none⟩) (by simp)]; simp [go_sem]
  clear hb1
  go_wp2_with fail
  have q0 : ((w1.setCell ⟨w.heap.size, 0, none⟩ (.int .i64 m0)).setCell ⟨w.heap.size, 1, none⟩ (.int .i64 m1)).cell? ⟨w.heap.size, 0, none⟩ = some (.int .i64 m0) := by
    rw [World.cell?_setCell_other _ _ _ _ (by intro e; cases e)]; exact World.cell?_setCell_same _ _ _ c0
  have q1 : ((w1.setCell ⟨w.heap.size, 0, none⟩ (.int .i64 m0)).setCell ⟨w.heap.size, 1, none⟩ (.int .i64 m1)).cell? ⟨w.heap.size, 1, none⟩ = some (.int .i64 m1) := by
    refine World.cell?_setCell_same _ _ _ (u := .int .i64 0) ?_
    rw [World.cell?_setCell_other _ _ _ _ (by intro e; cases e)]; exact c1
  refine bodyPost_ret (v := .tuple #[.agg #[.int .i64 m0, .int .i64 m1], .bool true]) (by simp [results, Tryd.results21, go_sem, q0, q1]) rfl ⟨rfl, ?_⟩
  have b0 := ((Below.refl w.heap.size w).alloc (Nat.le_refl _) (.cells #[.int .i64 0, .int .i64 0] 23)).trans (B1.out.mono (by simp))
  exact (b0.setCell (by simp) _).setCell (by simp) _

theorem youngest_none (A : Option Addr) (cap : Nat) (w : World) :
    Calls Tryd.prog 21 #[.slice A 0 cap] w fun e w' => e = .returned (.tuple #[.agg #[.int .i64 0, .int .i64 0], .bool false]) ∧ Below w.heap.size w w' := by
  go_enter Tryd.func21, Tryd.ntmps21
  go_wp2_with fail
  refine bodyPost_ret (v := .tuple #[.agg #[.int .i64 0, .int .i64 0], .bool false]) (by simp [results, Tryd.results21, go_sem]) rfl ⟨rfl, ?_⟩
  exact (Below.refl _ _).alloc (Nat.le_refl _) _

theorem sort_empty (A : Option Addr) (cap : Nat) (fv : Value) (w : World) : Calls Tryd.prog 31 #[.slice A 0 cap, fv] w fun e w' => e = .returned (.tuple #[]) ∧ w' = w := by
  have h := AnyF.slices_SortFunc_none (P := Tryd.prog) Tryd.sortId A cap fv w
  exact h

theorem age_sort_nil (w : World) : Calls Tryd.prog 18 #[.slice none 0 0] w fun e w' => e = .returned (.slice none 0 0) ∧ w = w' := by
  go_enter Tryd.func18, Tryd.ntmps18
  go_wp2_with fail
  refine (clone_nil w).mono ?_
  rintro e w1 ⟨rfl, rfl⟩
  go_wp2_with fail
  refine (sort_empty none 0 _ w).mono ?_
  rintro e w1 ⟨rfl, rfl⟩
  go_wp2_with fail
  refine (compact_nil _).mono ?_
  rintro e w1 ⟨rfl, rfl⟩
  go_wp2_with fail
  go_ret
  exact ⟨rfl, rfl⟩

theorem age_sort_empty (ad : Addr) (cap : Nat) (w : World) : Calls Tryd.prog 18 #[.slice (some ad) 0 cap] w fun e w' => ∃ A cap', e = .returned (.slice (some A) 0 cap') ∧ w'.ownsRow w.heap.size 23 2 (.slice (some A) 0 cap') 0 [] ∧ Below w.heap.size w w' := by
  go_enter Tryd.func18, Tryd.ntmps18
  go_wp2_with fail
  refine (clone_empty ad cap w).mono ?_
  rintro e w1 ⟨A, cap', rfl, hO, hB⟩
  have HO := Lib.hid hO
  have HB := Lib.hid hB
  clear hO hB
  go_wp2_with fail
  refine (sort_empty (some A) cap' _ w1).mono ?_
  rintro e w2 ⟨rfl, rfl⟩
  go_wp2_with fail
  refine (compact_short A 0 cap' (by omega) _).mono ?_
  rintro e w3 ⟨rfl, rfl⟩
  go_wp2_with fail
  go_ret
  exact ⟨A, cap', rfl, HO.out, HB.out⟩

/-! ### plain: the ends of the rising list -/
theorem cmp_lt {x y : Int × Int} : ageCmp x.1 x.2 y.1 y.2 < 0 ↔ lt x y := by
  have h := lt_age x y
  unfold ltOf at h
  constructor
  · intro e; rw [decide_eq_true e] at h; exact of_decide_eq_true (p := x.1 < y.1 ∨ x.1 = y.1 ∧ x.2 < y.2) h.symm
  · intro e; exact of_decide_eq_true (by rw [h]; exact decide_eq_true (p := x.1 < y.1 ∨ x.1 = y.1 ∧ x.2 < y.2) e)
theorem cmp_gt {x y : Int × Int} : 0 < ageCmp x.1 x.2 y.1 y.2 ↔ lt y x := by
  unfold ageCmp lt
  split
  · constructor <;> intro h <;> omega
  · split
    · constructor <;> intro h <;> omega
    · split
      · constructor <;> intro h <;> omega
      · split <;> constructor <;> intro h <;> omega

theorem minR_least (X : Nat → Int × Int) : ∀ k, (∃ i, i ≤ k ∧ X i = minR X k) ∧ ∀ i, i ≤ k → ¬ lt (X i) (minR X k)
  | 0 => ⟨⟨0, Nat.le_refl _, rfl⟩, fun i hi => by obtain rfl : i = 0 := by omega
                                                  exact lt_irrefl _⟩
  | k + 1 => by
    obtain ⟨⟨i, hi, e⟩, hall⟩ := minR_least X k
    show (∃ i, i ≤ k + 1 ∧ X i = (if ageCmp (X (k + 1)).1 (X (k + 1)).2 (minR X k).1 (minR X k).2 < 0 then X (k + 1) else minR X k)) ∧ ∀ i, i ≤ k + 1 → ¬ lt (X i) (if ageCmp (X (k + 1)).1 (X (k + 1)).2 (minR X k).1 (minR X k).2 < 0 then X (k + 1) else minR X k)
    by_cases c : ageCmp (X (k + 1)).1 (X (k + 1)).2 (minR X k).1 (minR X k).2 < 0
    · rw [if_pos c]
      refine ⟨⟨k + 1, Nat.le_refl _, rfl⟩, fun j hj => ?_⟩
      by_cases ej : j = k + 1
      · subst ej; exact lt_irrefl _
      · exact fun h => hall j (by omega) (lt_trans h (cmp_lt.1 c))
    · rw [if_neg c]
      refine ⟨⟨i, by omega, e⟩, fun j hj => ?_⟩
      by_cases ej : j = k + 1
      · subst ej; exact fun h => c (cmp_lt.2 h)
      · exact hall j (by omega)

theorem maxR_most (X : Nat → Int × Int) : ∀ k, (∃ i, i ≤ k ∧ X i = maxR X k) ∧ ∀ i, i ≤ k → ¬ lt (maxR X k) (X i)
  | 0 => ⟨⟨0, Nat.le_refl _, rfl⟩, fun i hi => by obtain rfl : i = 0 := by omega
                                                  exact lt_irrefl _⟩
  | k + 1 => by
    obtain ⟨⟨i, hi, e⟩, hall⟩ := maxR_most X k
    show (∃ i, i ≤ k + 1 ∧ X i = (if 0 < ageCmp (X (k + 1)).1 (X (k + 1)).2 (maxR X k).1 (maxR X k).2 then X (k + 1) else maxR X k)) ∧ ∀ i, i ≤ k + 1 → ¬ lt (if 0 < ageCmp (X (k + 1)).1 (X (k + 1)).2 (maxR X k).1 (maxR X k).2 then X (k + 1) else maxR X k) (X i)
    by_cases c : 0 < ageCmp (X (k + 1)).1 (X (k + 1)).2 (maxR X k).1 (maxR X k).2
    · rw [if_pos c]
      refine ⟨⟨k + 1, Nat.le_refl _, rfl⟩, fun j hj => ?_⟩
      by_cases ej : j = k + 1
      · subst ej; exact lt_irrefl _
      · exact fun h => hall j (by omega) (lt_trans (cmp_gt.1 c) h)
    · rw [if_neg c]
      refine ⟨⟨i, by omega, e⟩, fun j hj => ?_⟩
      by_cases ej : j = k + 1
      · subst ej; exact fun h => c (cmp_gt.2 h)
      · exact hall j (by omega)

theorem pw_get {L : List (Int × Int)} (h : L.Pairwise lt) {i j : Nat} (hij : i < j) (hj : j < L.length) : lt (at_ L i) (at_ L j) := by
  unfold at_
  rw [List.getD_eq_getElem?_getD, List.getD_eq_getElem?_getD, List.getElem?_eq_getElem (by omega), List.getElem?_eq_getElem hj]
  exact List.pairwise_iff_getElem.1 h i j (by omega) hj hij

theorem mem_at {L : List (Int × Int)} {x : Int × Int} : x ∈ L ↔ ∃ i, i < L.length ∧ at_ L i = x := by
  rw [List.mem_iff_getElem]
  unfold at_
  constructor
  · rintro ⟨i, hi, rfl⟩
    exact ⟨i, hi, by rw [List.getD_eq_getElem?_getD, List.getElem?_eq_getElem hi]; rfl⟩
  · rintro ⟨i, hi, rfl⟩
    exact ⟨i, hi, by rw [List.getD_eq_getElem?_getD, List.getElem?_eq_getElem hi]; rfl⟩

theorem Rises.pos {X : Nat → Int × Int} {n : Nat} {L : List (Int × Int)} (h : Rises X n L) (hp : 0 < n) : 0 < L.length := by
  have : X 0 ∈ L := (h.mem _).2 ⟨0, hp, rfl⟩
  exact List.length_pos_of_mem this

theorem Rises.first {X : Nat → Int × Int} {n : Nat} {L : List (Int × Int)} (h : Rises X n L) (hp : 0 < n) : minR X (n - 1) = at_ L 0 := by
  obtain ⟨⟨i, hi, e⟩, hall⟩ := minR_least X (n - 1)
  obtain ⟨j, hj, ej⟩ := mem_at.1 ((h.mem (minR X (n - 1))).2 ⟨i, by omega, e⟩)
  by_cases j0 : j = 0
  · subst j0; exact ej.symm
  · exfalso
    obtain ⟨i', hi', e'⟩ := (h.mem (at_ L 0)).1 (mem_at.2 ⟨0, h.pos hp, rfl⟩)
    have := pw_get h.up (show 0 < j by omega) hj
    rw [ej, ← e'] at this
    exact hall i' (by omega) this

theorem Rises.last {X : Nat → Int × Int} {n : Nat} {L : List (Int × Int)} (h : Rises X n L) (hp : 0 < n) : maxR X (n - 1) = at_ L (L.length - 1) := by
  obtain ⟨⟨i, hi, e⟩, hall⟩ := maxR_most X (n - 1)
  obtain ⟨j, hj, ej⟩ := mem_at.1 ((h.mem (maxR X (n - 1))).2 ⟨i, by omega, e⟩)
  by_cases j0 : j = L.length - 1
  · subst j0; exact ej.symm
  · exfalso
    have hpos := h.pos hp
    obtain ⟨i', hi', e'⟩ := (h.mem (at_ L (L.length - 1))).1 (mem_at.2 ⟨L.length - 1, by omega, rfl⟩)
    have := pw_get h.up (show j < L.length - 1 by omega) (by omega)
    rw [ej, ← e'] at this
    exact hall i' (by omega) this
end Go.Proofs.YtmmaolhmhdjldaaDoor.AgeS
