/- What the sort leaves, as a row of the call's own. -/
import Derived.Test.YtmmaolhmhdjldaaDoorAgeComp
import Derived.Shelf.SlSortCmp.InsertionK
namespace Go.Proofs.YtmmaolhmhdjldaaDoor.AgeS
open Go.RowKit Go.Sort Go.Lib

/-- The first n, as an array. -/
def arr (X : Nat → Int × Int) (n : Nat) : Array (Int × Int) := ((List.range n).map X).toArray
theorem arr_size (X : Nat → Int × Int) (n : Nat) : (arr X n).size = n := by simp [arr]
theorem arr_get (X : Nat → Int × Int) {n i : Nat} (h : i < n) : (arr X n)[i]! = X i := by
  rw [getElem!_pos _ i (by rw [arr_size]; exact h)]
  simp [arr]

theorem idC_at (x : Int × Int) (r : Nat) (h : r < 2) : (idC x)[r]? = some ((idC x)[r]!) := by
  rcases (show r = 0 ∨ r = 1 by omega) with rfl | rfl <;> rfl

theorem idCells_flat (X : Nat → Int × Int) (n t : Nat) (h : t < n * 2) : (idCells X n)[t]? = some ((flatK idC 2 (arr X n))[t]!) := by
  rw [get_flatK _ _ _ _ (by rw [arr_size]; exact h), arr_get X (by omega)]
  rw [show t = t / 2 * 2 + t % 2 by omega, idCells_at X n _ _ (by omega) (by omega)]
  rw [show (t / 2 * 2 + t % 2) / 2 = t / 2 by omega, show (t / 2 * 2 + t % 2) % 2 = t % 2 by omega]
  exact idC_at _ _ (by omega)

theorem OwnIds.holds {w : World} {base g n cap : Nat} {X : Nat → Int × Int} (h : OwnIds w base g n cap X) : HoldsK idC 2 w g 0 (arr X n) := by
  intro j hj
  rw [size_flatK, arr_size] at hj
  refine ⟨?_, World.ownsRow.frozenAt h _⟩
  rw [Nat.zero_add, World.ownsRow.cellAt h j hj]
  exact idCells_flat X n j hj

theorem sorted_row {w : World} {base g n cap : Nat} {X : Nat → Int × Int} (h : OwnIds w base g n cap X) (d : Array (Int × Int)) (hd : d.size = n) (m : Nat) (os : Array Obj) :
    OwnIds (sortWorldK idC 2 w g 0 m d os) base g n cap (fun i => d[i]!) ∧ w.grownBy (sortWorldK idC 2 w g 0 m d os) (some g) := by
  rcases h.2 with ⟨h', _⟩ | ⟨g', cap', cur, h', hb, hg, h2, h3, h4, h5⟩
  · simp at h'
  · simp only [Value.slice.injEq, Option.some.injEq, Addr.mk.injEq, and_true, true_and] at h'
    obtain ⟨rfl, rfl⟩ := h'
    have hlt : g < w.heap.size := (Array.getElem?_eq_some_iff.1 hg).1
    have hsz : (putRowK idC 2 (Sort.ahead w m) g 0 d).heap.size = w.heap.size := by simp [putRowK, putRow, mapBlock, Sort.ahead]
    refine ⟨⟨idCells_len _ n, .inr ⟨g, cap, putCells id 0 (flatK idC 2 d) cur, rfl, hb, ?_, h2, h3, by simpa [putCells] using h4, ?_⟩⟩, ⟨rfl, rfl, rfl, ?_, ?_⟩⟩
    · show ((putRowK idC 2 (Sort.ahead w m) g 0 d).heap ++ os)[g]? = _
      rw [Array.getElem?_append_left (by rw [hsz]; exact hlt)]
      simp [putRowK, putRow, mapBlock, Sort.ahead, Array.getElem?_modify, hg, onCells]
    · apply List.ext_getElem?
      intro j
      rw [List.getElem?_take, Array.getElem?_toList]
      by_cases hj : j < n * 2
      · have hjc : j < cur.size := by omega
        rw [if_pos hj]
        simp only [putCells, Array.getElem?_mapIdx, Array.getElem?_eq_getElem hjc, Option.map_some]
        rw [if_pos (by simp; omega), Nat.sub_zero]
        rw [idCells_flat _ n j hj]
        have e : arr (fun i => d[i]!) n = d := by
          apply Array.ext
          · rw [arr_size, hd]
          · intro i h1 h2
            have hi : i < n := by rw [arr_size] at h1; exact h1
            have := arr_get (fun i => d[i]!) hi
            rw [getElem!_pos _ i h1, getElem!_pos d i h2] at this
            exact this
        rw [e]
        rfl
      · rw [if_neg hj, List.getElem?_eq_none (by rw [idCells_len]; omega)]
    · show w.heap.size ≤ ((putRowK idC 2 (Sort.ahead w m) g 0 d).heap ++ os).size
      rw [Array.size_append, hsz]; omega
    · intro k hk hne
      show ((putRowK idC 2 (Sort.ahead w m) g 0 d).heap ++ os)[k]? = _
      rw [Array.getElem?_append_left (by rw [hsz]; exact hk)]
      simp [putRowK, putRow, mapBlock, Sort.ahead, Array.getElem?_modify, show g ≠ k from fun e => hne (by rw [e])]

/-- By age: one is before another. -/
theorem lt_age (x y : Int × Int) : ltOf (fun x y : Int × Int => ageCmp x.1 x.2 y.1 y.2) x y = decide (x.1 < y.1 ∨ x.1 = y.1 ∧ x.2 < y.2) := by
  unfold ltOf ageCmp
  by_cases h1 : x.1 < y.1
  · simp [h1]
  · by_cases h2 : x.1 > y.1
    · simp [h1, h2, show ¬ x.1 = y.1 by omega]
    · by_cases h3 : x.2 < y.2
      · simp [h3, show x.1 = y.1 by omega]
      · by_cases h4 : x.2 > y.2 <;> simp [h1, h2, h3, h4]

theorem swo_age : SWO (ltOf fun x y : Int × Int => ageCmp x.1 x.2 y.1 y.2) where
  irrefl x := by rw [lt_age]; simp
  trans x y z h1 h2 := by rw [lt_age] at *; simp at *; omega
  ntrans x y z h1 h2 := by rw [lt_age] at *; simp at *; omega
end Go.Proofs.YtmmaolhmhdjldaaDoor.AgeS
