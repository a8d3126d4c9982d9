/- bursarlaw02's stamp and Same, walked; the argument's list of whole numbers. -/
import Derived.Test.YtmmaolhmhdjldaaDoorAgeEnds
namespace Go.Proofs.YtmmaolhmhdjldaaDoor.AgeS
open Go.RowKit Go.Proofs.YtmmaolhmhdjldaaDoor.Cls

/-- A list of whole numbers. -/
def SAt (w : World) (A : Option Addr) (m : Nat) (S : Nat → Int) : Prop :=
  0 < m → ∃ sb so, A = some ⟨sb, so, none⟩ ∧ sb < w.heap.size ∧ ∀ i, i < m → w.cell? ⟨sb, so + i, none⟩ = some (.int .i64 (S i))
theorem SAt.below {w w' : World} {A : Option Addr} {m : Nat} {S : Nat → Int} (h : SAt w A m S) (hB : Below w.heap.size w w') : SAt w' A m S := fun hm => by
  obtain ⟨sb, so, e, hb, hc⟩ := h hm
  exact ⟨sb, so, e, Nat.lt_of_lt_of_le hb hB.size, fun i hi => (hB.cell (p := ⟨sb, so + i, none⟩) hb).trans (hc i hi)⟩
def stampV (S : Nat → Int) (m i : Nat) : Int := if i < m then S i else 0

theorem stamp_any (S : Nat → Int) (A : Option Addr) (m c i : Nat) (w : World) (h : SAt w A m S) :
    Calls Tryd.prog 17 #[.slice A m c, .int .i64 i] w fun e w' => e = .returned (.int .i64 (stampV S m i)) ∧ w = w' := by
  by_cases hi : i < m
  · obtain ⟨sb, so, rfl, _, hc⟩ := h (by omega)
    have c0 := hc i hi
    have e : stampV S m i = S i := by unfold stampV; rw [if_pos hi]
    rw [e]
    clear hc e h
    generalize S i = v at *
    have i1 : decide ((i : Int) < (m : Int)) = true := decide_eq_true (by omega)
    have i2 : 0 ≤ (i : Int) := by omega
    have i3 : (i : Int) < (m : Int) := by omega
    go_enter Tryd.func17, Tryd.ntmps17
    go_wp2_with fail
    go_ret
    exact ⟨rfl, rfl⟩
  · have e : stampV S m i = 0 := by unfold stampV; rw [if_neg hi]
    rw [e]
    clear e h
    have i1 : decide ((i : Int) < (m : Int)) = false := decide_eq_false (by omega)
    go_enter Tryd.func17, Tryd.ntmps17
    go_wp2_with fail
    go_ret
    exact ⟨rfl, rfl⟩

def RelSame (n : Nat) (w0 : World) (g : Nat) (v5 : Value) (wr : World) : Prop := ∃ j : Nat, j + g = n ∧ v5 = .int .i64 j ∧ ∃ q, wr = w0.drewN q

theorem same_some (X : Nat → Int × Int) (b o b' o' n c c' : Nat) (hn : n ≤ 4000) (w : World) (h : IdsAt w b o n X) (h' : IdsAt w b' o' n X) :
    Calls Tryd.prog 19 #[.slice (some ⟨b, o, none⟩) n c, .slice (some ⟨b', o', none⟩) n c'] w fun e w' => e = .returned (.bool true) ∧ Below w.heap.size w w' := by
  have HA := Lib.hid h
  have HB := Lib.hid h'
  clear h h'
  go_enter Tryd.func19, Tryd.ntmps19
  go_wp2_with fail
  go_loopg [5] n (RelSame n w)
  case atStart => exact ⟨0, by omega, rfl, 0, rfl⟩
  case round =>
    obtain ⟨gk1, hgk⟩ : ∃ x, x = gk := ⟨_, rfl⟩
    rw [← hgk] at hrel
    obtain ⟨j, hj, rfl, q, rfl⟩ := hrel
    have HGK := Lib.hid hgk
    clear hgk
    by_cases hl : j < n
    · have c0 := HA.out j hl
      have d0 := HB.out j hl
      have ne := neId (X j) (X j) true (by simp)
      generalize X j = x at c0 d0 ne
      obtain ⟨x0, x1⟩ := x
      obtain ⟨c0, c1⟩ := c0
      obtain ⟨d0, d1⟩ := d0
      simp only [Bool.not_true] at c0 c1 d0 d1 ne
      have i1 : 0 ≤ (j : Int) := by omega
      have i2 : (j : Int) < (n : Int) := by omega
      go_wp2_with fail
      go_quiet (fail)
      go_wp2_with fail
      go_roundg (gk1 - 1)
      case measure => have := HGK.out; omega
      case rel => exact ⟨j + 1, by omega, by go_num, _, rfl⟩
    · obtain rfl : j = n := by omega
      have i2 : decide ((j : Int) < (j : Int)) = false := decide_eq_false (by omega)
      go_wp2_with fail
      go_ret
      exact ⟨rfl, ⟨rfl, rfl, rfl, Nat.le_refl _, fun _ _ => rfl⟩⟩

theorem same_nil (A A' : Option Addr) (c c' : Nat) (w : World) :
    Calls Tryd.prog 19 #[.slice A 0 c, .slice A' 0 c'] w fun e w' => e = .returned (.bool true) ∧ Below w.heap.size w w' := by
  go_enter Tryd.func19, Tryd.ntmps19
  go_wp2_with fail
  go_loopg [5] 0 (fun (_ : Nat) (v5 : Value) (wr : World) => v5 = .int .i64 0 ∧ wr = w)
  case atStart => exact ⟨rfl, rfl⟩
  case round =>
    obtain ⟨rfl, rfl⟩ := hrel
    go_wp2_with fail
    go_ret
    exact ⟨rfl, Below.refl _ _⟩
end Go.Proofs.YtmmaolhmhdjldaaDoor.AgeS
