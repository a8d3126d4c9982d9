/- age.Sort, age.Oldest, age.Youngest, walked; the sort's list in plain words. -/
import Derived.Test.YtmmaolhmhdjldaaDoorAgeSrt
import Derived.Test.YtmmaolhmhdjldaaDoorSrtShelf
namespace Go.Proofs.YtmmaolhmhdjldaaDoor.AgeS
open Go.RowKit Go.Sort Go.Lib

/-! ### plain: rising lists -/
def lt (x y : Int × Int) : Prop := x.1 < y.1 ∨ x.1 = y.1 ∧ x.2 < y.2
theorem lt_irrefl (x : Int × Int) : ¬ lt x x := by unfold lt; omega
theorem lt_trans {x y z : Int × Int} (h : lt x y) (h' : lt y z) : lt x z := by unfold lt at *; omega
theorem lt_or {x y : Int × Int} (h : ¬ lt x y) : x = y ∨ lt y x := by
  obtain ⟨x1, x2⟩ := x
  obtain ⟨y1, y2⟩ := y
  unfold lt at *
  simp at *
  omega

/-- L rises, and has just those of X's first n. -/
structure Rises (X : Nat → Int × Int) (n : Nat) (L : List (Int × Int)) : Prop where
  up : L.Pairwise lt
  mem : ∀ x, x ∈ L ↔ ∃ i, i < n ∧ X i = x

theorem rises_one : ∀ {L L' : List (Int × Int)}, L.Pairwise lt → L'.Pairwise lt → (∀ x, x ∈ L ↔ x ∈ L') → L = L'
  | [], [], _, _, _ => rfl
  | [], y :: r, _, _, h => by have := (h y).2 (by simp); cases this
  | x :: r, [], _, _, h => by have := (h x).1 (by simp); cases this
  | x :: r, y :: r', h1, h2, h => by
    obtain ⟨a1, a2⟩ := List.pairwise_cons.1 h1
    obtain ⟨b1, b2⟩ := List.pairwise_cons.1 h2
    have e : x = y := by
      rcases List.mem_cons.1 ((h x).1 (by simp)) with e | hx
      · exact e
      · rcases List.mem_cons.1 ((h y).2 (by simp)) with e | hy
        · exact e.symm
        · exact absurd (lt_trans (a1 y hy) (b1 x hx)) (lt_irrefl x)
    subst e
    rw [rises_one a2 b2 (fun z => ⟨fun hz => by
      rcases List.mem_cons.1 ((h z).1 (by simp [hz])) with e | h'
      · subst e; exact absurd (a1 _ hz) (lt_irrefl _)
      · exact h', fun hz => by
      rcases List.mem_cons.1 ((h z).2 (by simp [hz])) with e | h'
      · subst e; exact absurd (b1 _ hz) (lt_irrefl _)
      · exact h'⟩)]

theorem dd_rises (Y : Nat → Int × Int) : ∀ n, (∀ i j, i < j → j < n → ¬ lt (Y j) (Y i)) → Rises Y n (dd Y n)
  | 0, _ => ⟨List.Pairwise.nil, fun x => ⟨fun h => (by cases h), fun ⟨i, hi, _⟩ => by omega⟩⟩
  | n + 1, h => by
    obtain ⟨up, mem⟩ := dd_rises Y n (fun i j hi hj => h i j hi (by omega))
    by_cases c : 0 < n ∧ Y n = Y (n - 1)
    · rw [dd_eq c.1 c.2]
      refine ⟨up, fun x => ⟨fun hx => ?_, fun ⟨i, hi, e⟩ => ?_⟩⟩
      · obtain ⟨i, hi, e⟩ := (mem x).1 hx
        exact ⟨i, by omega, e⟩
      · by_cases en : i = n
        · subst en
          exact (mem x).2 ⟨i - 1, by omega, by rw [← c.2]; exact e⟩
        · exact (mem x).2 ⟨i, by omega, e⟩
    · have e1 : dd Y (n + 1) = dd Y n ++ [Y n] := by
        show (if 0 < n ∧ Y n = Y (n - 1) then dd Y n else dd Y n ++ [Y n]) = _
        rw [if_neg c]
      rw [e1]
      refine ⟨?_, fun x => ⟨fun hx => ?_, fun ⟨i, hi, e⟩ => ?_⟩⟩
      · rw [List.pairwise_append]
        refine ⟨up, List.pairwise_singleton _ _, fun a ha b hb => ?_⟩
        rw [List.mem_singleton] at hb
        subst hb
        obtain ⟨i, hi, rfl⟩ := (mem a).1 ha
        rcases lt_or (h i n hi (by omega)) with e | e
        · exfalso
          refine c ⟨by omega, ?_⟩
          by_cases hi1 : i = n - 1
          · rw [← hi1]; exact e
          · rcases lt_or (h i (n - 1) (by omega) (by omega)) with e2 | e2
            · rw [e2]; exact e
            · rcases lt_or (h (n - 1) n (by omega) (by omega)) with e3 | e3
              · exact e3
              · exact absurd (lt_trans e2 e3) (by rw [e]; exact lt_irrefl _)
        · exact e
      · rcases List.mem_append.1 hx with hx | hx
        · obtain ⟨i, hi, e⟩ := (mem x).1 hx
          exact ⟨i, by omega, e⟩
        · rw [List.mem_singleton] at hx
          exact ⟨n, by omega, hx.symm⟩
      · by_cases en : i = n
        · subst en; rw [← e]; simp
        · exact List.mem_append.2 (Or.inl ((mem x).2 ⟨i, by omega, e⟩))

theorem ext_all {α : Type} (a : Array α) {n : Nat} (h : a.size = n) : a.extract 0 n = a := by subst h; simp

theorem rises_of_sort {X : Nat → Int × Int} {n : Nat} {d : Array (Int × Int)} (hp : PermIn 0 n (arr X n) d) (hs : SortedIn (ltOf fun x y : Int × Int => ageCmp x.1 x.2 y.1 y.2) 0 n d) : d.size = n ∧ Rises X n (dd (fun i => d[i]!) n) := by
  have hz : d.size = n := by rw [hp.1, arr_size]
  refine ⟨hz, ?_⟩
  obtain ⟨up, mem⟩ := dd_rises (fun i => d[i]!) n (fun i j hi hj => by
    have := hs i j (Nat.zero_le _) hi hj
    rw [lt_age] at this
    exact fun hl => (of_decide_eq_false this) hl)
  refine ⟨up, fun x => (mem x).trans ?_⟩
  have hperm := hp.2.2
  have e1 : d.extract 0 n = d := ext_all d hz
  have e2 : (arr X n).extract 0 n = arr X n := ext_all _ (arr_size X n)
  rw [e1, e2] at hperm
  have m1 : x ∈ d.toList ↔ ∃ i, i < n ∧ d[i]! = x := by
    rw [List.mem_iff_getElem]
    constructor
    · rintro ⟨i, hi, rfl⟩
      rw [Array.length_toList] at hi
      exact ⟨i, by omega, by rw [getElem!_pos d i hi]; simp⟩
    · rintro ⟨i, hi, rfl⟩
      exact ⟨i, by rw [Array.length_toList]; omega, by rw [getElem!_pos d i (by omega)]; simp⟩
  have m2 : x ∈ (arr X n).toList ↔ ∃ i, i < n ∧ X i = x := by
    simp [arr]
  rw [← m1, hperm.mem_iff, m2]

/-! ### the sort -/
theorem sort_any (X : Nat → Int × Int) (base g n cap : Nat) (hn : n ≤ 4000) (w : World) (h : OwnIds w base g n cap X) :
    Calls Tryd.prog 31 #[.slice (some ⟨g, 0, none⟩) n cap, .func (.func 11) #[] #[]] w fun e w' => e = .returned (.tuple #[]) ∧ ∃ Y : Nat → Int × Int, Rises X n (dd Y n) ∧ OwnIds w' base g n cap Y ∧ w.grownBy w' (some g) := by
  have eg : ∀ args w, (callFunc 11 args).run Tryd.prog w = .ok (.enter 11 args) w := enters_of Tryd.func11 (by kernel_rfl) rfl
  have hcmp : CmpLays Tryd.prog 11 #[] idC 2 (fun x y : Int × Int => ageCmp x.1 x.2 y.1 y.2) g 0 (arr X n).size w := fun m os dk hs x y =>
    (compare_any x.1 x.2 y.1 y.2 _).mono fun _ _ ⟨he, q, os', hw⟩ => ⟨he, q, os', hw⟩
  have hcon := AnyQ.slices_SortFunc Tryd.sortId 2 Tryd.isAgg23 Tryd.sizeOf23 idC (fun _ => rfl) (fun x v hv => by simp [idC] at hv; rcases hv with rfl | rfl <;> rfl) (fun x y : Int × Int => ageCmp x.1 x.2 y.1 y.2) swo_age 11 #[] g 0 cap (arr X n) w eg hcmp h.holds h.bounds.2.1 (by rw [arr_size]; omega)
  change Calls Tryd.prog 31 _ _ _ at hcon
  rw [arr_size] at hcon
  refine hcon.mono ?_
  rintro e w' ⟨rfl, d, m, os, hp, hs, rfl⟩
  obtain ⟨hz, hr⟩ := rises_of_sort hp hs
  obtain ⟨h1, h2⟩ := sorted_row h d hz m os
  exact ⟨rfl, _, hr, h1, h2⟩

/-- age.Sort of some. -/
theorem age_sort_some (X : Nat → Int × Int) (b o n cap : Nat) (hn : n ≤ 4000) (hp : 0 < n) (w : World) (hb : b < w.heap.size) (hA : IdsAt w b o n X) :
    Calls Tryd.prog 18 #[.slice (some ⟨b, o, none⟩) n cap] w fun e w' => ∃ g cap' L, e = .returned (.slice (some ⟨g, 0, none⟩) (List.length L) cap') ∧ Rises X n L ∧ OwnIds w' w.heap.size g (List.length L) cap' (at_ L) ∧ Below w.heap.size w w' := by
  have c1 := Lib.hid (clone_some X b o n cap hn hp w hb hA)
  clear hA
  go_enter Tryd.func18, Tryd.ntmps18
  go_wp2_with fail
  refine c1.out.mono ?_
  rintro e w1 ⟨g, cap', rfl, hO, hB⟩
  have HO := Lib.hid hO
  have HB := Lib.hid hB
  clear hO hB
  go_wp2_with fail
  refine (sort_any X w.heap.size g n cap' hn w1 HO.out).mono ?_
  rintro e w2 ⟨rfl, Y, hR, hO2, hg2⟩
  have HR := Lib.hid hR
  have HO2 := Lib.hid hO2
  have HB2 : Hid (Below w.heap.size w w2) := HB.out.grown hg2 HB.out.size (fun j hj => by cases hj; exact HO.out.bounds.1)
  clear hR hO2 hg2
  rcases (show n < 2 ∨ 2 ≤ n by omega) with h2 | h2
  · go_wp2_with fail
    refine (compact_short _ n cap' h2 w2).mono ?_
    rintro e w3 ⟨rfl, rfl⟩
    go_wp2_with fail
    go_ret
    have e1 : dd Y n = [Y 0] := by
      obtain rfl : n = 1 := by omega
      rfl
    refine ⟨g, cap', dd Y n, ?_, HR.out, ?_, HB2.out⟩
    · rw [e1]
      obtain rfl : n = 1 := by omega
      rfl
    · rw [e1]
      obtain rfl : n = 1 := by omega
      exact HO2.out.congr (fun i hi => by obtain rfl : i = 0 := by simp at hi; exact hi
                                          rfl)
  · go_wp2_with fail
    refine (compact_any Y w.heap.size g n cap' h2 hn w2 HO2.out).mono ?_
    rintro e w3 ⟨rfl, hO3, hg3⟩
    have HO3 := Lib.hid hO3
    have HB3 : Hid (Below w.heap.size w w3) := HB2.out.grown hg3 HB2.out.size (fun j hj => by cases hj; exact HO2.out.bounds.1)
    clear hO3 hg3
    go_wp2_with fail
    go_ret
    exact ⟨g, cap', dd Y n, rfl, HR.out, HO3.out, HB3.out⟩
end Go.Proofs.YtmmaolhmhdjldaaDoor.AgeS
