/- The statement's own Sort and Same, in plain words: the printed functions at lists of identities; rows of identities as the printed contracts read them. -/
import Derived.Test.YtmmaolhmhdjldaaRefSort
import Derived.Test.YtmmaolhmhdjldaaPAgeListsx5
import Derived.Test.YtmmaolhmhdjldaaAgeEnds
namespace Go.Proofs.Ytmmaolhmhdjldaa.AgeS
open Go.RowKit Go.Proofs.YtmmaolhmhdjldaaW.PrintWords Go.Proofs.Ytmmaolhmhdjldaa.PAgeLists

def sS (x : Int × Int) : S23 := ⟨x.1, x.2⟩

theorem rd_at (L : List (Int × Int)) (i : Nat) : rd_T23 (L.map sS) (i : Int) = sS (at_ L i) := by
  unfold rd_T23 at_
  rw [Int.toNat_natCast, List.getD_eq_getElem?_getD, List.getD_eq_getElem?_getD, List.getElem?_map]
  cases L[i]? <;> rfl

theorem refcmp (x y : Int × Int) : ∃ c, bursarref02_Compare.f x.1 x.2 y.1 y.2 = some c ∧ (c < 0 ↔ lt x y) := by
  unfold bursarref02_Compare.f lt
  by_cases h1 : x.1 < y.1
  · rw [if_pos h1]; exact ⟨_, rfl, by omega⟩
  rw [if_neg h1]
  by_cases h2 : x.1 > y.1
  · rw [if_pos h2]; exact ⟨_, rfl, by omega⟩
  rw [if_neg h2]
  by_cases h3 : x.2 < y.2
  · rw [if_pos h3]; exact ⟨_, rfl, by omega⟩
  rw [if_neg h3]
  by_cases h4 : x.2 > y.2
  · rw [if_pos h4]; exact ⟨_, rfl, by omega⟩
  rw [if_neg h4]
  exact ⟨_, rfl, by omega⟩

theorem l0_le (y0 y1 : List S23) (y2 : Int) : ∀ (d k : Nat) (r : List S23), bursarref02_Sort.l0 k y0 y1 y2 = some r → bursarref02_Sort.l0 (k + d) y0 y1 y2 = some r
  | 0, _, _, h => h
  | d + 1, k, r, h => (bursarref02_Sort.mono_l (k + d)).1 _ _ _ r (l0_le y0 y1 y2 d k r h)

theorem at_get (L : List (Int × Int)) {i : Nat} (h : i < L.length) : L[i] = at_ L i := by
  unfold at_
  rw [List.getD_eq_getElem?_getD, List.getElem?_eq_getElem h]; rfl

/-- One insertion. -/
theorem ref_insert (L r : List (Int × Int)) (i : Nat) (hi : i < L.length) (hL : L.length ≤ 2000) (hr : r.Pairwise lt) (hz : r.length ≤ i) : ∀ d at', d + at' = r.length → (∀ j, j < at' → lt (at_ r j) (at_ L i)) →
    ∃ r' : List (Int × Int), r'.Pairwise lt ∧ (∀ y, y ∈ r' ↔ y = at_ L i ∨ y ∈ r) ∧ r'.length ≤ i + 1 ∧
      ∀ k res, bursarref02_Sort.l0 k (L.map sS) (r'.map sS) ((i + 1 : Nat) : Int) = some res → ∃ K, bursarref02_Sort.l1 K (L.map sS) (r.map sS) (i : Int) (at' : Int) = some res := by
  have hw : ∀ n : Nat, n ≤ 5000 → wrap64 ((n : Int) + 1) = ((n + 1 : Nat) : Int) := fun n hn => by unfold wrap64; omega
  have hlt : (i : Int) < ((L.map sS).length : Int) := by rw [List.length_map]; omega
  -- what is laid in between
  have lay : ∀ p, p ≤ r.length → (∀ j, j < p → lt (at_ r j) (at_ L i)) → (∀ j, p ≤ j → j < r.length → lt (at_ L i) (at_ r j)) →
      (r.take p ++ at_ L i :: r.drop p).Pairwise lt ∧ (∀ y, y ∈ r.take p ++ at_ L i :: r.drop p ↔ y = at_ L i ∨ y ∈ r) ∧ (r.take p ++ at_ L i :: r.drop p).length ≤ i + 1 := by
    intro p hp h1 h2
    have d1 : ∀ a, a ∈ r.take p → lt a (at_ L i) := fun a ha => by
      obtain ⟨j, hj, rfl⟩ := List.mem_iff_getElem.1 ha
      rw [List.length_take] at hj
      rw [List.getElem_take, at_get r (by omega)]
      exact h1 j (by omega)
    have d2 : ∀ a, a ∈ r.drop p → lt (at_ L i) a := fun a ha => by
      obtain ⟨j, hj, rfl⟩ := List.mem_iff_getElem.1 ha
      rw [List.length_drop] at hj
      rw [List.getElem_drop, at_get r (by omega)]
      exact h2 (p + j) (by omega) (by omega)
    have e : r.take p ++ r.drop p = r := List.take_append_drop p r
    refine ⟨?_, fun y => ?_, ?_⟩
    · rw [List.pairwise_append, List.pairwise_cons]
      refine ⟨hr.sublist (List.take_sublist p r), ⟨d2, hr.sublist (List.drop_sublist p r)⟩, fun a ha b hb => ?_⟩
      rcases List.mem_cons.1 hb with rfl | hb
      · exact d1 a ha
      · exact lt_trans (d1 a ha) (d2 b hb)
    · have : y ∈ r ↔ y ∈ r.take p ∨ y ∈ r.drop p := by rw [← List.mem_append, e]
      rw [List.mem_append, List.mem_cons, this]
      constructor
      · rintro (h | h | h)
        · exact .inr (.inl h)
        · exact .inl h
        · exact .inr (.inr h)
      · rintro (h | h | h)
        · exact .inr (.inl h)
        · exact .inl h
        · exact .inr (.inr h)
    · rw [List.length_append, List.length_cons, List.length_take, List.length_drop]; omega
  intro d
  induction d with
  | zero =>
    intro at' hd hlo
    obtain rfl : at' = r.length := by omega
    obtain ⟨q1, q2, q3⟩ := lay r.length (Nat.le_refl _) hlo (fun j h1 h2 => by omega)
    rw [List.take_length, List.drop_length] at q1 q2 q3
    refine ⟨_, q1, q2, q3, fun k res h => ⟨k + 1, ?_⟩⟩
    rw [bursarref02_Sort.l1, if_neg (by rw [List.length_map]; omega)]
    simp only [Option.bind_some, List.nil_append]
    rw [if_pos (by omega), if_pos (by rw [List.length_map]; omega)]
    rw [if_pos (by simp <;> omega), if_pos (by omega), if_pos hlt, if_pos (by simp <;> omega), if_pos (by simp <;> omega), hw i (by omega), rd_at]
    refine Eq.trans ?_ h
    congr 1
    rw [Int.toNat_natCast, List.map_append, List.take_of_length_le (by simp), List.drop_of_length_le (by simp)]
    simp [sS]
  | succ d ih =>
    intro at' hd hlo
    obtain ⟨c, hc, hcl⟩ := refcmp (at_ r at') (at_ L i)
    have head : ∀ k, bursarref02_Sort.l1 (k + 1) (L.map sS) (r.map sS) (i : Int) (at' : Int) =
        if c < 0 then bursarref02_Sort.l1 k (L.map sS) (r.map sS) (i : Int) ((at' + 1 : Nat) : Int) else
        if (((sS (at_ r at')).f0) == ((sS (at_ L i)).f0) && (((sS (at_ r at')).f1) == ((sS (at_ L i)).f1))) = true then bursarref02_Sort.l0 k (L.map sS) (r.map sS) ((i + 1 : Nat) : Int)
        else bursarref02_Sort.l0 k (L.map sS) ((r.take at' ++ at_ L i :: r.drop at').map sS) ((i + 1 : Nat) : Int) := fun k => by
      rw [bursarref02_Sort.l1, if_pos (by rw [List.length_map]; omega), if_pos (by omega), if_pos (by omega), if_pos hlt, rd_at, rd_at]
      rw [show bursarref02_Compare.f (sS (at_ r at')).f0 (sS (at_ r at')).f1 (sS (at_ L i)).f0 (sS (at_ L i)).f1 = some c from hc]
      simp only [Option.bind_some, List.nil_append]
      rw [hw at' (by omega), hw i (by omega)]
      by_cases c0 : c < 0
      · rw [if_pos c0, if_pos c0]
      rw [if_neg c0, if_neg c0]
      by_cases e : (((sS (at_ r at')).f0) == ((sS (at_ L i)).f0) && (((sS (at_ r at')).f1) == ((sS (at_ L i)).f1))) = true
      · rw [if_pos e, if_pos e]
      rw [if_neg e, if_neg e, if_pos (show (at' : Int) ≤ ((r.map sS).length : Int) by rw [List.length_map]; omega), if_pos (by simp <;> omega), if_pos (by simp <;> omega), if_pos (by simp <;> omega)]
      congr 1
      simp [sS]
    by_cases c0 : c < 0
    · obtain ⟨r', q1, q2, q3, q4⟩ := ih (at' + 1) (by omega) (fun j hj => by
        rcases (show j < at' ∨ j = at' by omega) with h | rfl
        · exact hlo j h
        · exact hcl.1 c0)
      refine ⟨r', q1, q2, q3, fun k res h => ?_⟩
      obtain ⟨K, hK⟩ := q4 k res h
      exact ⟨K + 1, by rw [head, if_pos c0]; exact hK⟩
    · by_cases e : at_ r at' = at_ L i
      · refine ⟨r, hr, fun y => ⟨fun h => .inr h, ?_⟩, by omega, fun k res h => ⟨k + 1, ?_⟩⟩
        · rintro (rfl | h)
          · rw [← e, ← at_get r (by omega)]; exact List.getElem_mem _
          · exact h
        · rw [head, if_neg c0, if_pos (by rw [e]; simp)]
          exact h
      · have lo : lt (at_ L i) (at_ r at') := by
          rcases lt_or (fun h => c0 (hcl.2 h)) with h | h
          · exact absurd h e
          · exact h
        obtain ⟨q1, q2, q3⟩ := lay at' (by omega) hlo (fun j h1 h2 => by
          rcases (show at' = j ∨ at' < j by omega) with rfl | h
          · exact lo
          · exact lt_trans lo (pw_get hr h h2))
        refine ⟨_, q1, q2, q3, fun k res h => ⟨k + 1, ?_⟩⟩
        rw [head, if_neg c0, if_neg, h]
        intro hh
        simp only [Bool.and_eq_true, beq_iff_eq] at hh
        exact e (Prod.ext hh.1 hh.2)

/-- The statement's own Sort gives a list that rises, of the same values. -/
theorem ref_sort (L : List (Int × Int)) (hL : L.length ≤ 2000) : ∀ (m i : Nat) (r : List (Int × Int)), m + i = L.length → r.Pairwise lt → (∀ y, y ∈ r ↔ ∃ j, j < i ∧ at_ L j = y) → r.length ≤ i →
    ∃ k r', bursarref02_Sort.l0 k (L.map sS) (r.map sS) (i : Int) = some (r'.map sS) ∧ Rises (at_ L) L.length r' ∧ r'.length ≤ L.length
  | 0, i, r, hm, hr, hy, hz => by
    obtain rfl : i = L.length := by omega
    exact ⟨1, r, by rw [bursarref02_Sort.l0, if_neg (by rw [List.length_map]; omega)], ⟨hr, hy⟩, hz⟩
  | m + 1, i, r, hm, hr, hy, hz => by
    obtain ⟨r1, q1, q2, q3, q4⟩ := ref_insert L r i (by omega) hL hr hz r.length 0 (by omega) (fun j hj => by omega)
    obtain ⟨k, r', a1, a2, a3⟩ := ref_sort L hL m (i + 1) r1 (by omega) q1 (fun y => by
      rw [q2 y, hy y]
      constructor
      · rintro (rfl | ⟨j, hj, e⟩)
        · exact ⟨i, by omega, rfl⟩
        · exact ⟨j, by omega, e⟩
      · rintro ⟨j, hj, e⟩
        rcases (show j = i ∨ j < i by omega) with rfl | h
        · exact .inl e.symm
        · exact .inr ⟨j, h, e⟩) q3
    obtain ⟨K, hK⟩ := q4 k _ a1
    exact ⟨K + 1, r', by rw [bursarref02_Sort.l0, if_pos (by rw [List.length_map]; omega)]; exact hK, a2, a3⟩

theorem ref_sort_f (L : List (Int × Int)) (hL : L.length ≤ 2000) : ∃ k r', bursarref02_Sort.f k (L.map sS) = some (r'.map sS) ∧ Rises (at_ L) L.length r' ∧ r'.length ≤ L.length :=
  ref_sort L hL L.length 0 [] (by omega) List.Pairwise.nil (fun y => ⟨fun h => (by cases h), fun ⟨j, hj, _⟩ => by omega⟩) (Nat.zero_le _)

/-- The statement's Same, at equal lists. -/
theorem same_l0 (L : List (Int × Int)) (hL : L.length ≤ 5000) : ∀ m i, m + i = L.length → bursarlaw02_Same.l0 (m + 1) (L.map sS) (L.map sS) (i : Int) = some true
  | 0, i, h => by
    rw [bursarlaw02_Same.l0, if_neg (by rw [List.length_map]; omega)]
  | m + 1, i, h => by
    rw [bursarlaw02_Same.l0, if_pos (by rw [List.length_map]; omega), if_pos (by omega), if_pos (by rw [List.length_map]; omega), if_neg (by simp), show wrap64 ((i : Int) + 1) = ((i + 1 : Nat) : Int) by unfold wrap64; omega]
    exact same_l0 L hL m (i + 1) (by omega)

theorem same_eq (L : List (Int × Int)) (hL : L.length ≤ 5000) : bursarlaw02_Same.f (L.length + 1) (L.map sS) (L.map sS) = some true := by
  unfold bursarlaw02_Same.f
  rw [if_pos rfl]
  exact same_l0 L hL L.length 0 (by omega)
end Go.Proofs.Ytmmaolhmhdjldaa.AgeS
