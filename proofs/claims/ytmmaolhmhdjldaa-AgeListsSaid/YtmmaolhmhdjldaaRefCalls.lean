/- The statement's own Sort and Same, called: over rows of identities. -/
import Derived.Test.YtmmaolhmhdjldaaRefPlain
namespace Go.Proofs.Ytmmaolhmhdjldaa.AgeS
open Go.RowKit Go.Proofs.YtmmaolhmhdjldaaW.PrintWords Go.Proofs.Ytmmaolhmhdjldaa.PAgeLists

theorem kdC {w : World} {b o : Nat} {L : List (Int × Int)} (hL : L.length ≤ 5000) (h : IdsAt w b o L.length (at_ L)) : Kd.C k23 w (some ⟨b, o, none⟩) (L.map sS).length (L.map sS) := by
  refine ⟨rfl, by rw [List.length_map]; omega, fun _ => ⟨⟨b, o, none⟩, rfl, fun j p hj => ⟨[.int .i64 p.f0, .int .i64 p.f1], rfl, k23_mk w p, fun i u hu => ?_⟩⟩⟩
  rw [List.getElem?_map] at hj
  obtain ⟨x, hx, rfl⟩ := Option.map_eq_some_iff.1 hj
  have hjl := (List.getElem?_eq_some_iff.1 hx).1
  have e : at_ L j = x := by rw [← at_get L hjl]; exact (List.getElem?_eq_some_iff.1 hx).2
  have h0 := h j hjl
  rw [e] at h0
  show w.cell? ((⟨b, o, none⟩ : Addr).add (j * 2 + i)) = some u
  rw [Addr.add_lit]
  match i, hu with
  | 0, hu => rw [show o + (j * 2 + 0) = o + j * 2 by omega, h0.1]; exact hu
  | 1, hu => rw [show o + (j * 2 + 1) = o + j * 2 + 1 by omega, h0.2]; exact hu

theorem kdC_nil (w : World) (A : Option Addr) : Kd.C k23 w A (([] : List (Int × Int)).map sS).length (([] : List (Int × Int)).map sS) := ⟨rfl, by simp, fun h => by simp at h⟩

theorem kdR_own {w : World} {base : Nat} {ok : Nat → Prop} {v : Value} {L : List (Int × Int)} (h : Kd.R k23 23 w base ok v (L.map sS)) : w.ownsRow base 23 2 v L.length (idCells (at_ L) L.length) := by
  obtain ⟨_, inner, ho, hl, hr⟩ := h
  have e : inner = idCells (at_ L) L.length := by
    have hl2 : inner.length = L.length * 2 := by rw [hl, List.length_map]; rfl
    apply List.ext_getElem?
    intro j
    by_cases hj : j < L.length * 2
    · have hd : j / 2 < L.length := by omega
      have h1 := hr (j / 2) (sS (at_ L (j / 2))) (by rw [List.getElem?_map, List.getElem?_eq_getElem hd, at_get L hd]; rfl)
      have h2 := k23_openM h1
      have h3 : ((inner.drop (j / 2 * 2)).take 2)[j % 2]? = inner[j]? := by
        rw [List.getElem?_take, if_pos (by omega), List.getElem?_drop]
        congr 1
        omega
      rw [show j = j / 2 * 2 + j % 2 by omega, idCells_at _ _ _ _ hd (by omega), show j / 2 * 2 + j % 2 = j by omega, ← h3]
      rw [show (inner.drop (j / 2 * 2)).take 2 = _ from h2]
      rfl
    · rw [List.getElem?_eq_none (by omega), List.getElem?_eq_none (by rw [idCells_len]; omega)]
  rw [e, List.length_map] at ho
  exact ho

/-- The statement's Same at equal lists. -/
theorem same_calls (L : List (Int × Int)) (hL : L.length ≤ 4000) (A0 A1 : Option Addr) (c0 c1 : Nat) (hc0 : L.length ≤ c0) (hc1 : L.length ≤ c1) (w : World)
    (h0 : Kd.C k23 w A0 (L.map sS).length (L.map sS)) (h1 : Kd.C k23 w A1 (L.map sS).length (L.map sS)) :
    Calls Try.prog 59 #[.slice A0 L.length c0, .slice A1 L.length c1] w fun e w' => e = .returned (.bool true) ∧ ∃ q, w' = w.drewN q := by
  have := bursarlaw02_Same.calls (L.length + 1) A0 c0 (L.map sS) A1 c1 (L.map sS) true w h0 (by rw [List.length_map]; exact hc0) h1 (by rw [List.length_map]; exact hc1) (same_eq L (by omega))
  rw [List.length_map] at this
  exact this.mono fun e w' ⟨he, hd⟩ => ⟨he, hd.out⟩

/-- The statement's Sort. -/
theorem ref_calls (L : List (Int × Int)) (hL : L.length ≤ 2000) (A0 : Option Addr) (c0 : Nat) (hc0 : L.length ≤ c0) (w : World) (h0 : Kd.C k23 w A0 (L.map sS).length (L.map sS)) :
    Calls Try.prog 58 #[.slice A0 L.length c0] w fun e w' => ∃ v r, e = .returned v ∧ Rises (at_ L) L.length r ∧ r.length ≤ L.length ∧ w'.ownsRow w.heap.size 23 2 v r.length (idCells (at_ r) r.length) ∧ Below w.heap.size w w' := by
  obtain ⟨k, r, hk, hr, hz⟩ := ref_sort_f L hL
  have := bursarref02_Sort.calls k A0 c0 (L.map sS) (r.map sS) w h0 (by rw [List.length_map]; exact hc0) hk
  rw [List.length_map] at this
  refine this.mono ?_
  rintro e w' ⟨v, he, hR, hb⟩
  exact ⟨v, r, he, hr, hz, kdR_own hR, hb⟩

/-- A list of the values at a row. -/
def listOf (X : Nat → Int × Int) (n : Nat) : List (Int × Int) := (List.range n).map X
theorem listOf_len (X : Nat → Int × Int) (n : Nat) : (listOf X n).length = n := by simp [listOf]
theorem listOf_at (X : Nat → Int × Int) {n i : Nat} (h : i < n) : at_ (listOf X n) i = X i := by
  rw [← at_get (listOf X n) (by rw [listOf_len]; exact h)]
  simp [listOf]
theorem Rises.congr {X Y : Nat → Int × Int} {n : Nat} {L : List (Int × Int)} (h : Rises X n L) (e : ∀ i, i < n → X i = Y i) : Rises Y n L :=
  ⟨h.up, fun x => (h.mem x).trans ⟨fun ⟨i, hi, hx⟩ => ⟨i, hi, by rw [← e i hi]; exact hx⟩, fun ⟨i, hi, hx⟩ => ⟨i, hi, by rw [e i hi]; exact hx⟩⟩⟩
theorem Rises.same {X : Nat → Int × Int} {n : Nat} {L L' : List (Int × Int)} (h : Rises X n L) (h' : Rises X n L') : L = L' := rises_one h.up h'.up (fun x => (h.mem x).trans (h'.mem x).symm)
end Go.Proofs.Ytmmaolhmhdjldaa.AgeS
