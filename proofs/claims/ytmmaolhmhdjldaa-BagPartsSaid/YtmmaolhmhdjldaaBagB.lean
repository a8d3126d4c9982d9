/- Rows of messages of the call's own: plain laws. -/
import Derived.Test.YtmmaolhmhdjldaaBagA
import Derived.Deep.AppendLies
namespace Go.Proofs.Ytmmaolhmhdjldaa.BagS
open Go.RowKit

/-- The cells of some messages. -/
def cellsOf : List (Array Value) → List Value
  | [] => []
  | C :: r => C.toList ++ cellsOf r

def All26 (L : List (Array Value)) : Prop := ∀ C ∈ L, C.size = 26

theorem cells_append : ∀ L M : List (Array Value), cellsOf (L ++ M) = cellsOf L ++ cellsOf M
  | [], _ => rfl
  | C :: r, M => by
    show C.toList ++ cellsOf (r ++ M) = (C.toList ++ cellsOf r) ++ cellsOf M
    rw [cells_append r M, List.append_assoc]
theorem cells_len : ∀ {L : List (Array Value)}, All26 L → (cellsOf L).length = L.length * 26
  | [], _ => rfl
  | C :: r, h => by
    have h1 := h C (by simp)
    have h2 := cells_len (L := r) (fun D hD => h D (by simp [hD]))
    show (C.toList ++ cellsOf r).length = (r.length + 1) * 26
    rw [List.length_append, h2, Array.length_toList, h1]
    omega
theorem All26.take {L : List (Array Value)} (h : All26 L) (k : Nat) : All26 (L.take k) := fun C hC => h C (List.mem_of_mem_take hC)
theorem All26.drop {L : List (Array Value)} (h : All26 L) (k : Nat) : All26 (L.drop k) := fun C hC => h C (List.mem_of_mem_drop hC)
theorem cells_split (L : List (Array Value)) (k : Nat) : cellsOf L = cellsOf (L.take k) ++ cellsOf (L.drop k) := by
  rw [← cells_append, List.take_append_drop]
theorem cells_take_len {L : List (Array Value)} (h : All26 L) {k : Nat} (hk : k ≤ L.length) : (cellsOf (L.take k)).length = k * 26 := by
  rw [cells_len (h.take k), List.length_take, Nat.min_eq_left hk]
theorem cells_take {L : List (Array Value)} (h : All26 L) {k : Nat} (hk : k ≤ L.length) : (cellsOf L).take (k * 26) = cellsOf (L.take k) := by
  rw [cells_split L k, ← cells_take_len h hk, List.take_left]
theorem cells_drop {L : List (Array Value)} (h : All26 L) {k : Nat} (hk : k ≤ L.length) : (cellsOf L).drop (k * 26) = cellsOf (L.drop k) := by
  rw [cells_split L k, ← cells_take_len h hk, List.drop_left]
theorem cells_one {L : List (Array Value)} (h : ∀ C ∈ L, ∀ u ∈ C.toList, u.oneCell' = true) : ∀ u ∈ cellsOf L, u.oneCell' = true := by
  induction L with
  | nil => intro u hu; cases hu
  | cons C r ih =>
    intro u hu
    rcases List.mem_append.1 (show u ∈ C.toList ++ cellsOf r from hu) with hu | hu
    · exact h C (by simp) u hu
    · exact ih (fun D hD => h D (by simp [hD])) u hu
theorem cells_at {L : List (Array Value)} (h : All26 L) {i : Nat} {C : Array Value} (hi : L[i]? = some C) {j : Nat} {u : Value} (hj : C.toList[j]? = some u) : (cellsOf L)[i * 26 + j]? = some u := by
  have hl : i < L.length := (List.getElem?_eq_some_iff.1 hi).1
  have hc : C.size = 26 := h C (List.mem_of_getElem? hi)
  have hj' : j < 26 := by have := (List.getElem?_eq_some_iff.1 hj).1; rw [Array.length_toList] at this; omega
  rw [cells_split L i, List.getElem?_append_right (by rw [cells_take_len h (by omega)]; omega), cells_take_len h (by omega), Nat.add_sub_cancel_left]
  have e : L.drop i = C :: L.drop (i + 1) := by
    rw [List.drop_eq_getElem_cons hl]
    congr 1
    exact (List.getElem?_eq_some_iff.1 hi).2
  rw [e]
  show (C.toList ++ cellsOf (L.drop (i + 1)))[j]? = some u
  rw [List.getElem?_append_left (by rw [Array.length_toList]; omega)]
  exact hj

/-- A list written over from a place on. -/
def over (xs : List Value) : Nat → List Value → List Value
  | _, [] => xs
  | o, u :: r => over (xs.set o u) (o + 1) r
theorem over_len : ∀ (l : List Value) (xs : List Value) (o : Nat), (over xs o l).length = xs.length
  | [], _, _ => rfl
  | u :: r, xs, o => by rw [over, over_len r, List.length_set]
theorem over_get : ∀ (l : List Value) (xs : List Value) (o j : Nat), o + l.length ≤ xs.length → (over xs o l)[j]? = if o ≤ j ∧ j < o + l.length then l[j - o]? else xs[j]?
  | [], xs, o, j, _ => by rw [over, if_neg (by simp only [List.length_nil]; omega)]
  | u :: r, xs, o, j, h => by
    simp only [List.length_cons] at h ⊢
    rw [over, over_get r (xs.set o u) (o + 1) j (by rw [List.length_set]; omega)]
    by_cases h1 : o = j
    · subst h1
      rw [if_neg (by omega), if_pos (by omega), List.getElem?_set, if_pos rfl, if_pos (by omega), Nat.sub_self]
      rfl
    · by_cases h2 : o ≤ j ∧ j < o + (r.length + 1)
      · rw [if_pos (by omega), if_pos h2, show j - o = (j - (o + 1)) + 1 by omega]
        rfl
      · rw [if_neg (by omega), if_neg h2, List.getElem?_set, if_neg h1]
theorem over_eq (l xs : List Value) (o : Nat) (h : o + l.length ≤ xs.length) : over xs o l = xs.take o ++ l ++ xs.drop (o + l.length) := by
  apply List.ext_getElem?
  intro j
  rw [over_get l xs o j h]
  split
  · rename_i hj
    rw [List.getElem?_append_left (by rw [List.length_append, List.length_take]; omega), List.getElem?_append_right (by rw [List.length_take]; omega), List.length_take, Nat.min_eq_left (by omega)]
  · rename_i hj
    by_cases h1 : j < o
    · rw [List.getElem?_append_left (by rw [List.length_append, List.length_take]; omega), List.getElem?_append_left (by rw [List.length_take]; omega), List.getElem?_take, if_pos h1]
    · rw [List.getElem?_append_right (by rw [List.length_append, List.length_take]; omega), List.length_append, List.length_take, Nat.min_eq_left (by omega), List.getElem?_drop]
      congr 1
      omega
theorem over_past : ∀ (l xs : List Value) (o : Nat), xs.length ≤ o → over xs o l = xs
  | [], _, _, _ => rfl
  | u :: r, xs, o, h => by rw [over, List.set_eq_of_length_le h, over_past r xs (o + 1) (by omega)]

section
variable {w : World} {base : Nat} {e : TypeId} {size g n cap : Nat} {xs : List Value}
theorem own_storeds (h : w.ownsRow base e size (.slice (some ⟨g, 0, none⟩) n cap) n xs) (o : Nat) (l : List Value) :
    (w.setCells g o l).ownsRow base e size (.slice (some ⟨g, 0, none⟩) n cap) n (over xs o l) ∧ w.grownBy (w.setCells g o l) (some g) := by
  induction l generalizing w o xs with
  | nil => exact ⟨h, ⟨rfl, rfl, rfl, Nat.le_refl _, fun _ _ _ => rfl⟩⟩
  | cons u r ih =>
    have h1 := World.ownsRow.stored h o u
    have h2 := ih h1.1 (o + 1)
    exact ⟨h2.1, h1.2.trans h2.2⟩
theorem own_shrink (h : w.ownsRow base e size (.slice (some ⟨g, 0, none⟩) n cap) n xs) {k : Nat} (hk : k ≤ n) : w.ownsRow base e size (.slice (some ⟨g, 0, none⟩) k cap) k (xs.take (k * size)) := by
  have hm : k * size ≤ n * size := Nat.mul_le_mul_right size hk
  rcases h.2 with ⟨h', _⟩ | ⟨g', cap', cur, h', hb, hg, h2, h3, h4, h5⟩
  · simp at h'
  · simp only [Value.slice.injEq, Option.some.injEq, Addr.mk.injEq, and_true, true_and] at h'
    obtain ⟨rfl, rfl⟩ := h'
    refine ⟨by rw [List.length_take, h.1, Nat.min_eq_left hm], .inr ⟨g, cap, cur, rfl, hb, hg, by omega, h3, h4, ?_⟩⟩
    rw [← h5, List.take_take, Nat.min_eq_left hm]
theorem own_bounds (h : w.ownsRow base e size (.slice (some ⟨g, 0, none⟩) n cap) n xs) : base ≤ g ∧ g < w.heap.size ∧ n ≤ cap ∧ cap ≤ maxLen := by
  have h1 := World.ownsRow.lt h g rfl
  rcases h.2 with ⟨h', _⟩ | ⟨g', cap', cur, h', _, _, h2, h3, _⟩
  · simp at h'
  · simp only [Value.slice.injEq, Option.some.injEq, Addr.mk.injEq, and_true, true_and] at h'
    obtain ⟨_, rfl⟩ := h'
    exact ⟨h1.1, h1.2, h2, h3⟩
end

/-- A message taken out of a row. -/
theorem own_erase {w : World} {base g n cap : Nat} {L : List (Array Value)} (h : w.ownsRow base 73 26 (.slice (some ⟨g, 0, none⟩) n cap) n (cellsOf L)) (hL : L.length = n) (ha : All26 L) {i : Nat} (hi : i < n) :
    (w.setCells g (i * 26) (cellsOf (L.drop (i + 1)))).ownsRow base 73 26 (.slice (some ⟨g, 0, none⟩) (n - 1) cap) (n - 1) (cellsOf (L.eraseIdx i)) ∧ w.grownBy (w.setCells g (i * 26) (cellsOf (L.drop (i + 1)))) (some g) := by
  subst hL
  have h1 := own_storeds h (i * 26) (cellsOf (L.drop (i + 1)))
  have hd : (cellsOf (L.drop (i + 1))).length = (L.length - (i + 1)) * 26 := by rw [cells_len (ha.drop _), List.length_drop]
  have hlen := cells_len ha
  refine ⟨?_, h1.2⟩
  have h2 := own_shrink h1.1 (k := L.length - 1) (by omega)
  rw [over_eq _ _ _ (by rw [hd, hlen]; omega), cells_take ha (by omega), List.take_left' (by rw [List.length_append, cells_take_len ha (by omega), hd]; omega), ← cells_append, ← List.eraseIdx_eq_take_drop_succ] at h2
  exact h2
theorem own_past {w : World} {base g n cap : Nat} {xs : List Value} (h : w.ownsRow base 73 26 (.slice (some ⟨g, 0, none⟩) n cap) n xs) (o : Nat) (ho : n * 26 ≤ o) (l : List Value) :
    (w.setCells g o l).ownsRow base 73 26 (.slice (some ⟨g, 0, none⟩) n cap) n xs ∧ w.grownBy (w.setCells g o l) (some g) := by
  have h1 := own_storeds h o l
  rw [over_past l xs o (by rw [h.1]; exact ho)] at h1
  exact h1
theorem own_range {w : World} {base g n cap : Nat} {L : List (Array Value)} (h : w.ownsRow base 73 26 (.slice (some ⟨g, 0, none⟩) n cap) n (cellsOf L)) (hL : L.length = n) (ha : All26 L) {i : Nat} {C : Array Value} (hi : L[i]? = some C) : w.rangeAt g (i * 26) C.toList := fun j v hv => by
  have hl : i < L.length := (List.getElem?_eq_some_iff.1 hi).1
  have hc : C.size = 26 := ha C (List.mem_of_getElem? hi)
  have hj' : j < 26 := by have := (List.getElem?_eq_some_iff.1 hv).1; rw [Array.length_toList] at this; omega
  rw [World.ownsRow.cellAt h _ (by omega)]
  exact cells_at ha hi hv
end Go.Proofs.Ytmmaolhmhdjldaa.BagS
