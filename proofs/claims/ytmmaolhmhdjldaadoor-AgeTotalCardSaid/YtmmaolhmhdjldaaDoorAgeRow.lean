/- Rows of identities of the call's own; slices.Clone and slices.Compact at identities, walked. -/
import Derived.Test.YtmmaolhmhdjldaaDoorAgeMin
import Derived.ArgAppend
import Derived.Laws.OwnMore
import Derived.Laws.AppendOwnNone
import Derived.Lib.SliceRun
import Derived.Deep.CutRange
namespace Go.Proofs.YtmmaolhmhdjldaaDoor.AgeS
open Go.RowKit Go.Proofs.YtmmaolhmhdjldaaDoor.Cls

/-! ### cells -/
def idC (x : Int × Int) : List Value := [.int .i64 x.1, .int .i64 x.2]
def idCells (X : Nat → Int × Int) : Nat → List Value
  | 0 => []
  | n + 1 => idCells X n ++ idC (X n)

theorem idCells_len (X : Nat → Int × Int) : ∀ n, (idCells X n).length = n * 2
  | 0 => rfl
  | n + 1 => by unfold idCells; rw [List.length_append, idCells_len X n]; show n * 2 + 2 = _; omega

theorem idCells_at (X : Nat → Int × Int) : ∀ n i r, i < n → r < 2 → (idCells X n)[i * 2 + r]? = (idC (X i))[r]?
  | 0, _, _, h, _ => by omega
  | n + 1, i, r, h, hr => by
    unfold idCells
    by_cases e : i = n
    · subst e
      rw [List.getElem?_append_right (by rw [idCells_len]; omega), idCells_len, Nat.add_sub_cancel_left]
    · rw [List.getElem?_append_left (by rw [idCells_len]; omega)]
      exact idCells_at X n i r (by omega) hr

theorem idCells_get {X : Nat → Int × Int} {n j : Nat} {u : Value} (h : (idCells X n)[j]? = some u) : ∃ i r, i < n ∧ r < 2 ∧ j = i * 2 + r ∧ (idC (X i))[r]? = some u := by
  have hj : j < n * 2 := by rw [← idCells_len X n]; exact (List.getElem?_eq_some_iff.1 h).1
  refine ⟨j / 2, j % 2, by omega, by omega, by omega, ?_⟩
  rw [← idCells_at X n (j / 2) (j % 2) (by omega) (by omega)]
  rw [show j / 2 * 2 + j % 2 = j by omega]
  exact h

theorem idCells_one (X : Nat → Int × Int) : ∀ n, ∀ u ∈ idCells X n, u.oneCell' = true
  | 0, _, h => by cases h
  | n + 1, u, h => by
    unfold idCells at h
    rcases List.mem_append.1 h with h | h
    · exact idCells_one X n u h
    · simp [idC] at h
      rcases h with rfl | rfl <;> rfl

theorem idCells_congr {X Y : Nat → Int × Int} : ∀ n, (∀ i, i < n → X i = Y i) → idCells X n = idCells Y n
  | 0, _ => rfl
  | n + 1, h => by unfold idCells; rw [idCells_congr n (fun i hi => h i (by omega)), h n (by omega)]

theorem idCells_take (X : Nat → Int × Int) (n k : Nat) (h : k ≤ n) : (idCells X n).take (k * 2) = idCells X k := by
  apply List.ext_getElem?
  intro j
  rw [List.getElem?_take]
  by_cases hj : j < k * 2
  · rw [if_pos hj, show j = j / 2 * 2 + j % 2 by omega, idCells_at X n _ _ (by omega) (by omega), idCells_at X k _ _ (by omega) (by omega)]
  · rw [if_neg hj, List.getElem?_eq_none (by rw [idCells_len]; omega)]

open Classical in
noncomputable def put (X : Nat → Int × Int) (i : Nat) (x : Int × Int) : Nat → Int × Int := fun j => if j = i then x else X j
theorem put_same (X : Nat → Int × Int) (i : Nat) (x : Int × Int) : put X i x i = x := by unfold put; rw [if_pos rfl]
theorem put_other (X : Nat → Int × Int) {i j : Nat} (x : Int × Int) (h : j ≠ i) : put X i x j = X j := by unfold put; rw [if_neg h]

theorem idCells_put (X : Nat → Int × Int) (n i : Nat) (x : Int × Int) (h : i < n) : ((idCells X n).set (i * 2) (.int .i64 x.1)).set (i * 2 + 1) (.int .i64 x.2) = idCells (put X i x) n := by
  apply List.ext_getElem?
  intro j
  by_cases hj : j < n * 2
  · rw [show j = j / 2 * 2 + j % 2 by omega, idCells_at _ n _ _ (by omega) (by omega)]
    rw [List.getElem?_set, List.getElem?_set]
    have hl := idCells_len X n
    by_cases e : j / 2 = i
    · rw [e, put_same]
      by_cases r : j % 2 = 0
      · rw [r, if_neg (by omega), if_pos (by omega), if_pos (by omega)]; rfl
      · rw [show j % 2 = 1 by omega, if_pos rfl, if_pos (by rw [List.length_set]; omega)]; rfl
    · rw [put_other X x e, if_neg (by omega), if_neg (by omega)]
      exact idCells_at X n _ _ (by omega) (by omega)
  · rw [List.getElem?_eq_none (by rw [List.length_set, List.length_set, idCells_len]; omega), List.getElem?_eq_none (by rw [idCells_len]; omega)]

/-- A row of the call's own that holds n identities. -/
def OwnIds (w : World) (base g n cap : Nat) (X : Nat → Int × Int) : Prop := w.ownsRow base 23 2 (.slice (some ⟨g, 0, none⟩) n cap) n (idCells X n)

theorem OwnIds.cells {w : World} {base g n cap : Nat} {X : Nat → Int × Int} (h : OwnIds w base g n cap X) : IdsAt w g 0 n X := fun i hi => by
  have h0 := World.ownsRow.cellAt h (i * 2) (by omega)
  have h1 := World.ownsRow.cellAt h (i * 2 + 1) (by omega)
  rw [show i * 2 = i * 2 + 0 by omega, idCells_at X n i 0 hi (by omega)] at h0
  rw [idCells_at X n i 1 hi (by omega)] at h1
  rw [Nat.zero_add]
  exact ⟨h0, h1⟩

theorem OwnIds.store {w : World} {base g n cap : Nat} {X : Nat → Int × Int} (h : OwnIds w base g n cap X) (i : Nat) (hi : i < n) (x : Int × Int) :
    OwnIds ((w.setCell ⟨g, i * 2, none⟩ (.int .i64 x.1)).setCell ⟨g, i * 2 + 1, none⟩ (.int .i64 x.2)) base g n cap (put X i x) := by
  unfold OwnIds
  rw [← idCells_put X n i x hi]
  exact (World.ownsRow.stored (World.ownsRow.stored h (i * 2) (.int .i64 x.1)).1 (i * 2 + 1) (.int .i64 x.2)).1

theorem OwnIds.drewN {w : World} {base g n cap : Nat} {X : Nat → Int × Int} (h : OwnIds w base g n cap X) (q : Nat) : OwnIds (w.drewN q) base g n cap X := h

theorem OwnIds.congr {w : World} {base g n cap : Nat} {X Y : Nat → Int × Int} (h : OwnIds w base g n cap X) (e : ∀ i, i < n → X i = Y i) : OwnIds w base g n cap Y := by
  unfold OwnIds
  rw [← idCells_congr n e]
  exact h

theorem OwnIds.bounds {w : World} {base g n cap : Nat} {X : Nat → Int × Int} (h : OwnIds w base g n cap X) : base ≤ g ∧ g < w.heap.size ∧ n ≤ cap ∧ cap ≤ maxLen := by
  have h1 := World.ownsRow.lt h g rfl
  rcases h.2 with ⟨h', _⟩ | ⟨g', cap', cur, h', _, _, h2, h3, _⟩
  · simp at h'
  · simp only [Value.slice.injEq, Option.some.injEq, Addr.mk.injEq, and_true, true_and] at h'
    obtain ⟨_, rfl⟩ := h'
    exact ⟨h1.1, h1.2, h2, h3⟩

/-- The first k of them. -/
theorem OwnIds.shrink {w : World} {base g n cap : Nat} {X : Nat → Int × Int} (h : OwnIds w base g n cap X) {k : Nat} (hk : k ≤ n) : OwnIds w base g k cap X := by
  unfold OwnIds
  rcases h.2 with ⟨h', _⟩ | ⟨g', cap', cur, h', hb, hg, h2, h3, h4, h5⟩
  · simp at h'
  · simp only [Value.slice.injEq, Option.some.injEq, Addr.mk.injEq, and_true, true_and] at h'
    obtain ⟨rfl, rfl⟩ := h'
    refine ⟨idCells_len X k, .inr ⟨g, cap, cur, rfl, hb, hg, by omega, h3, h4, ?_⟩⟩
    rw [← idCells_take X n k hk, ← h5, List.take_take, Nat.min_eq_left (by omega)]

theorem OwnIds.setPast {w : World} {base g n cap : Nat} {X : Nat → Int × Int} (h : OwnIds w base g n cap X) (o : Nat) (ho : n * 2 ≤ o) (l : List Value) : OwnIds (w.setCells g o l) base g n cap X ∧ w.grownBy (w.setCells g o l) (some g) := by
  induction l generalizing w o with
  | nil => exact ⟨h, ⟨rfl, rfl, rfl, Nat.le_refl _, fun _ _ _ => rfl⟩⟩
  | cons u r ih =>
    have h1 := World.ownsRow.stored h o u
    rw [List.set_eq_of_length_le (by rw [idCells_len]; exact ho)] at h1
    have h2 := ih (w := w.setCell ⟨g, o, none⟩ u) h1.1 (o + 1) (by omega)
    exact ⟨h2.1, h1.2.trans h2.2⟩

end Go.Proofs.YtmmaolhmhdjldaaDoor.AgeS
