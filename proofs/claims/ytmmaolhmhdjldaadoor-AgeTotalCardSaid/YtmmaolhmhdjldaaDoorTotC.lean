/- AgeTotal: what its walk uses. -/
import Derived.Test.YtmmaolhmhdjldaaDoorTotA
import Derived.Test.YtmmaolhmhdjldaaDoorNextW
import Derived.Deep.RegionHeldLaw
import Derived.Deep.AppendLies
namespace Go.Proofs.YtmmaolhmhdjldaaDoor.AgeS
open Go.RowKit Go.Proofs.YtmmaolhmhdjldaaDoor.Cls Go.Proofs.YtmmaolhmhdjldaaDoor.NT

/-- An index of a loop, and that old memory is as it was. -/
def RelI (n : Nat) (w0 : World) (g : Nat) (v : Value) (wr : World) : Prop := ∃ i : Nat, i + g = n ∧ v = .int .i64 i ∧ Below w0.heap.size w0 wr

theorem cmp_bounds (a b c d : Int) : -1 ≤ ageCmp a b c d ∧ ageCmp a b c d ≤ 1 ∧ ageCmp c d a b = - ageCmp a b c d ∧ (ageCmp a b c d = 0 ↔ a = c ∧ b = d) := by
  unfold ageCmp
  repeat' split
  all_goals omega
theorem later_bounds (s a b t c d : Int) : AgeC.laterCmp t c d s a b = - AgeC.laterCmp s a b t c d ∧ (AgeC.laterCmp s a b t c d = 0 ↔ s = t ∧ a = c ∧ b = d) := by
  unfold AgeC.laterCmp AgeC.ageCmp
  repeat' split
  all_goals omega
theorem laterB (s a b t c d : Int) : -1 ≤ AgeC.laterCmp s a b t c d ∧ AgeC.laterCmp s a b t c d ≤ 1 := by
  unfold AgeC.laterCmp AgeC.ageCmp
  repeat' split
  all_goals omega
theorem cmp_tr {a b c d e f : Int} (h1 : ageCmp a b c d ≤ 0) (h2 : ageCmp c d e f ≤ 0) : ¬ 0 < ageCmp a b e f := by
  revert h1 h2
  unfold ageCmp
  repeat' split
  all_goals omega
theorem cell_alloc4 (w : World) (x0 x1 : Int) : ∀ j u, (idC (x0, x1) ++ idC (x0, x1))[j]? = some u → (w.alloc (.cells #[.int .i64 x0, .int .i64 x1, .int .i64 x0, .int .i64 x1] 23)).cell? ((⟨w.heap.size, 0, none⟩ : Addr).add j) = some u := by
  intro j x h
  match j, h with
  | 0, h => cases h; simp [go_sem, Addr.add]
  | 1, h => cases h; simp [go_sem, Addr.add]
  | 2, h => cases h; simp [go_sem, Addr.add]
  | 3, h => cases h; simp [go_sem, Addr.add]
theorem idC2_one {x0 x1 : Int} : ∀ u ∈ idC (x0, x1) ++ idC (x0, x1), u.oneCell' = true := by
  intro u h
  simp [idC] at h
  rcases h with rfl | rfl | rfl | rfl <;> rfl
theorem cell_farO {w0 w w' : World} {row : Option Nat} {b i : Nat} {v : Value} (hr : ∀ j, row = some j → w0.heap.size ≤ j) (hg : w.grownBy w' row) (hb : b < w0.heap.size) (hb' : b < w.heap.size) (h : w.cell? ⟨b, i, none⟩ = some v) : w'.cell? ⟨b, i, none⟩ = some v :=
  (hg.cell_far ⟨b, i, none⟩ hb' (by intro e; have := hr b e.symm; omega)).trans h
def RelF (X : Nat → Int × Int) (y : Int × Int) (n : Nat) (w0 : World) (g : Nat) (v14 v15 : Value) (wr : World) : Prop :=
  ∃ (k : Nat) (f : Bool), k + g = n ∧ v14 = .bool f ∧ v15 = .int .i64 k ∧ (f = true ↔ ∃ j, j < k ∧ X j = y) ∧ Below w0.heap.size w0 wr
theorem pw_drew {B q : Nat} {w W : World} (h : Below B w W) : Below B w (W.drewN q) := ⟨h.os, h.tape, h.output, h.size, h.block⟩
def turn (X : Nat → Int × Int) (n : Nat) : Nat → Int × Int := fun j => X (n - 1 - j / 2)
def RelT (X : Nat → Int × Int) (n : Nat) (w0 : World) (g : Nat) (v10 v11 : Value) (wr : World) : Prop :=
  ∃ t : Nat, t + g = n ∧ v11 = .int .i64 ((n : Int) - 1 - (t : Int)) ∧ wr.ownsRow w0.heap.size 23 2 v10 (t * 2) (idCells (turn X n) (t * 2)) ∧ Below w0.heap.size w0 wr
theorem compare_b (x y : Int × Int) (w : World) : Calls Tryd.prog 11 #[.agg #[.int .i64 x.1, .int .i64 x.2], .agg #[.int .i64 y.1, .int .i64 y.2]] w fun e w' => e = .returned (.int .i64 (ageCmp x.1 x.2 y.1 y.2)) ∧ Below w.heap.size w w' :=
  compare_below x.1 x.2 y.1 y.2 w


theorem cmp_m1 {x y : Int × Int} (h : lt x y) : ageCmp x.1 x.2 y.1 y.2 = -1 := by
  unfold lt at h
  unfold ageCmp
  repeat' split
  all_goals omega

theorem Rises.turned {X : Nat → Int × Int} {n : Nat} {L : List (Int × Int)} (h : Rises X n L) : Rises (turn X n) (n * 2) L := by
  refine ⟨h.up, fun x => (h.mem x).trans ⟨?_, ?_⟩⟩
  · rintro ⟨i, hi, e⟩
    exact ⟨(n - 1 - i) * 2, by omega, by unfold turn; rw [show n - 1 - (n - 1 - i) * 2 / 2 = i by omega]; exact e⟩
  · rintro ⟨i, hi, e⟩
    exact ⟨n - 1 - i / 2, by omega, e⟩
theorem Rises.self {X : Nat → Int × Int} {n : Nat} {L : List (Int × Int)} (h : Rises X n L) {z : Nat} (hz : L.length = z) : Rises (at_ L) z L := by
  subst hz
  exact ⟨h.up, fun _ => mem_at⟩
/-- age.Sort, its list known. -/
theorem sort_to (X : Nat → Int × Int) (b o n cap : Nat) (hn : n ≤ 4000) (hp : 0 < n) (w : World) (hb : b < w.heap.size) (hA : IdsAt w b o n X) (R : List (Int × Int)) (z : Nat) (hz : R.length = z) (hR : Rises X n R) :
    Calls Tryd.prog 18 #[.slice (some ⟨b, o, none⟩) n cap] w fun e w' => ∃ g cap', e = .returned (.slice (some ⟨g, 0, none⟩) z cap') ∧ OwnIds w' w.heap.size g z cap' (at_ R) ∧ Below w.heap.size w w' := by
  refine (age_sort_some X b o n cap hn hp w hb hA).mono ?_
  rintro e w' ⟨g, cap', L, rfl, hL, ho, hB⟩
  have e1 : L = R := rises_one hL.up hR.up (fun x => (hL.mem x).trans (hR.mem x).symm)
  subst e1
  subst hz
  exact ⟨g, cap', rfl, ho, hB⟩

/-- An element of one list is found in another. -/
def RelG (X : Nat → Int × Int) (y : Int × Int) (n : Nat) (w0 : World) (g : Nat) (v14 v15 : Value) (wr : World) : Prop :=
  ∃ (k : Nat) (f : Bool), k + g = n ∧ v14 = .bool f ∧ v15 = .int .i64 k ∧ (f = true ↔ ∃ j, j < k ∧ X j = y) ∧ Below w0.heap.size w0 wr

theorem found_step {X : Nat → Int × Int} {y : Int × Int} {k : Nat} {f bb : Bool} (h : f = true ↔ ∃ j, j < k ∧ X j = y) (hb : bb = true ↔ X k = y) : (f || bb) = true ↔ ∃ j, j < k + 1 ∧ X j = y := by
  rw [Bool.or_eq_true, h, hb]
  constructor
  · rintro (⟨j, hj, e⟩ | e)
    · exact ⟨j, by omega, e⟩
    · exact ⟨k, by omega, e⟩
  · rintro ⟨j, hj, e⟩
    rcases (show j < k ∨ j = k by omega) with h | rfl
    · exact .inl ⟨j, h, e⟩
    · exact .inr e
theorem found_all {X : Nat → Int × Int} {n : Nat} {L : List (Int × Int)} (h : Rises X n L) {i : Nat} (hi : i < L.length) : ∃ j, j < n ∧ X j = at_ L i := (h.mem _).1 (mem_at.2 ⟨i, hi, rfl⟩)
theorem found_back {X : Nat → Int × Int} {n : Nat} {L : List (Int × Int)} (h : Rises X n L) {k : Nat} (hk : k < n) : ∃ j, j < L.length ∧ at_ L j = X k := mem_at.1 ((h.mem _).2 ⟨k, hk, rfl⟩)
theorem nodup_len : ∀ {L M : List (Int × Int)}, L.Nodup → (∀ x, x ∈ L → x ∈ M) → L.length ≤ M.length
  | [], _, _, _ => Nat.zero_le _
  | x :: r, M, hn, h => by
    obtain ⟨h1, h2⟩ := List.nodup_cons.1 hn
    have hx : x ∈ M := h x (by simp)
    have := nodup_len (L := r) (M := M.erase x) h2 (fun y hy => (List.mem_erase_of_ne (by rintro rfl; exact h1 hy)).2 (h y (by simp [hy])))
    rw [List.length_erase_of_mem hx] at this
    have hp := List.length_pos_of_mem hx
    simp only [List.length_cons]
    omega
theorem Rises.len {X : Nat → Int × Int} {n : Nat} {L : List (Int × Int)} (h : Rises X n L) : L.length ≤ n := by
  have h1 := nodup_len (L := L) (M := (List.range n).map X) (h.up.imp (fun {a b} hl e => by subst e; exact lt_irrefl _ hl)) (fun x hx => by
    obtain ⟨i, hi, e⟩ := (h.mem x).1 hx
    exact List.mem_map.2 ⟨i, List.mem_range.2 hi, e⟩)
  simpa using h1
theorem wrap_pred {i q : Nat} (h : q + 1 = i) (hi : i ≤ 4000) : IntKind.i64.wrap ((i : Int) - 1) = (q : Int) := by
  rw [IntWalk.i64_in _ (by omega)]
  omega
end Go.Proofs.YtmmaolhmhdjldaaDoor.AgeS
