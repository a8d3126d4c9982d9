/- age.Compare and age.Later, walked, with what they call of cmp; the comparison in whole numbers. -/
import Derived.Test.YtmmaolhmhdjldaaDoorProg
import Derived.WalkKit
import Derived.WalkSpells
import Derived.WalkLawsBesides
import Derived.Lib.Hide
import Derived.Deep.RegionHeld3
namespace Go.Proofs.YtmmaolhmhdjldaaDoor.AgeC
open Go.RowKit

def cmp3 (a b : Int) : Int := if a < b then -1 else if a > b then 1 else 0
/-- By N, then by Client. -/
def ageCmp (a b c d : Int) : Int := if a < c then -1 else if a > c then 1 else if b < d then -1 else if b > d then 1 else 0

theorem ageCmp_eq (a b c d : Int) (h : ¬ (a = c ∧ b = d)) : (if cmp3 a c = 0 then cmp3 b d else cmp3 a c) = ageCmp a b c d := by
  unfold cmp3 ageCmp
  repeat' split
  all_goals first | (exfalso; omega) | rfl | omega

theorem cmp_any (a b : Int) (w : World) : Calls Tryd.prog 23 #[.int .i64 a, .int .i64 b] w fun e w' => e = .returned (.int .i64 (cmp3 a b)) ∧ w = w' := by
  by_cases h1 : a < b
  · have e : cmp3 a b = -1 := by unfold cmp3; rw [if_pos h1]
    rw [e]
    clear e
    go_enter Tryd.func23, Tryd.ntmps23
    go_wp2
    go_ret
    exact ⟨rfl, rfl⟩
  · by_cases h2 : a > b
    · have e : cmp3 a b = 1 := by unfold cmp3; rw [if_neg h1, if_pos h2]
      rw [e]
      clear e
      go_enter Tryd.func23, Tryd.ntmps23
      go_wp2
      go_ret
      exact ⟨rfl, rfl⟩
    · have e : cmp3 a b = 0 := by unfold cmp3; rw [if_neg h1, if_neg h2]
      rw [e]
      clear e
      go_enter Tryd.func23, Tryd.ntmps23
      go_wp2
      go_ret
      exact ⟨rfl, rfl⟩

theorem ret1 {a b : Int} (h : a = b) : Ending.returned (.int .i64 a) = .returned (.int .i64 b) := by rw [h]

theorem or_any (b : Nat) (x y : Int) (w : World) (c0 : w.cell? ⟨b, 0, none⟩ = some (.int .i64 x)) (c1 : w.cell? ⟨b, 1, none⟩ = some (.int .i64 y)) :
    Calls Tryd.prog 22 #[.slice (some ⟨b, 0, none⟩) 2 2] w fun e w' => e = .returned (.int .i64 (if x = 0 then y else x)) ∧ w = w' := by
  by_cases hx : x = 0
  · rw [if_pos hx]
    subst hx
    go_enter Tryd.func22, Tryd.ntmps22
    go_wp2
    go_loop [5, 8] (fun _ i => i = .int .i64 0 ∨ i = .int .i64 1 ∨ (i = .int .i64 2 ∧ y = 0)) (fun _ i => (2 - intOf i).toNat)
    case atStart => exact Or.inl rfl
    case round =>
      rcases hrel with rfl | rfl | ⟨rfl, hy⟩
      · go_wp2
        go_round
        case rel => exact Or.inr (Or.inl rfl)
        case measure => simp [intOf]
      · by_cases hy : y = 0
        · subst hy
          go_wp2
          go_round
          case rel => simp
          case measure => simp [intOf]
        · have hy' : (y != 0) = true := by simpa using hy
          go_wp2
          go_ret
          exact ⟨rfl, rfl⟩
      · subst hy
        go_wp2
        go_ret
        exact ⟨rfl, rfl⟩
  · rw [if_neg hx]
    have hx' : (x != 0) = true := by simpa using hx
    go_enter Tryd.func22, Tryd.ntmps22
    go_wp2
    go_loop [5, 8] (fun _ i => i = .int .i64 0) (fun _ i => (2 - intOf i).toNat)
    case atStart => rfl
    case round =>
      subst hrel
      go_wp2
      go_ret
      exact ⟨rfl, rfl⟩

theorem or_r (b : Nat) (x y r : Int) (hr : (if x = 0 then y else x) = r) (w : World) (c0 : w.cell? ⟨b, 0, none⟩ = some (.int .i64 x)) (c1 : w.cell? ⟨b, 1, none⟩ = some (.int .i64 y)) :
    Calls Tryd.prog 22 #[.slice (some ⟨b, 0, none⟩) 2 2] w fun e w' => e = .returned (.int .i64 r) ∧ w = w' := by
  rw [← hr]
  exact or_any b x y w c0 c1

theorem eq23 (a b c d : Int) (w : World) : (binOp .eql 23 (.agg #[.int .i64 a, .int .i64 b]) (.agg #[.int .i64 c, .int .i64 d])).run Tryd.prog w = .ok (.bool (a == c && b == d)) w := by
  have hu := Tryd.underlying23
  go_simp
  by_cases h1 : a = c <;> by_cases h2 : b = d <;> simp [h1, h2]

set_option maxHeartbeats 1600000 in
/-- age.Compare. -/
theorem compare_any (a b c d : Int) (w : World) : Calls Tryd.prog 11 #[.agg #[.int .i64 a, .int .i64 b], .agg #[.int .i64 c, .int .i64 d]] w fun e w' => e = .returned (.int .i64 (ageCmp a b c d)) ∧ Below w.heap.size w w' := by
  by_cases h : a = c ∧ b = d
  · obtain ⟨rfl, rfl⟩ := h
    have e : ageCmp a b a b = 0 := by unfold ageCmp; simp
    rw [e]
    clear e
    go_enter Tryd.func11, Tryd.ntmps11
    go_wp2
    go_ret
    exact ⟨rfl, ((Below.refl _ _).alloc (Nat.le_refl _) _).alloc (by simp) _⟩
  · have e := ageCmp_eq a b c d h
    have heq := eq23 a b c d
    have hf : (a == c && b == d) = false := by
      rw [Bool.and_eq_false_iff]
      simp only [beq_eq_false_iff_ne, ne_eq]
      by_cases h1 : a = c
      · exact Or.inr (fun h2 => h ⟨h1, h2⟩)
      · exact Or.inl h1
    rw [hf] at heq
    have p1 := Lib.hid (cmp_any a c)
    have p2 := Lib.hid (cmp_any b d)
    have E := Lib.hid e
    clear e hf h
    generalize cmp3 a c = x at *
    generalize cmp3 b d = y at *
    generalize ageCmp a b c d = r at *
    go_enter Tryd.func11, Tryd.ntmps11
    go_wp2_with fail
    go_region_held3 (fun v => v.cell? ⟨w.heap.size, 0, none⟩ = some (.int .i64 a) ∧ v.cell? ⟨w.heap.size, 1, none⟩ = some (.int .i64 b) ∧ v.cell? ⟨w.heap.size + 1, 0, none⟩ = some (.int .i64 c) ∧ v.cell? ⟨w.heap.size + 1, 1, none⟩ = some (.int .i64 d)) (go_keep)
      (first
        | (go_at_call_of 23 (Value.int IntKind.i64 a); refine (p1.out _).mono ?_; rintro e w' ⟨rfl, rfl⟩)
        | (go_at_call_of 23 (Value.int IntKind.i64 b); refine (p2.out _).mono ?_; rintro e w' ⟨rfl, rfl⟩)
        | (go_at_call 22; refine (or_r _ x y r E.out _ ?_ ?_).mono ?_; (simp [go_sem]); (simp [go_sem]); rintro e w' ⟨rfl, rfl⟩))
    all_goals
      go_wp2
      go_ret
      exact ⟨rfl, by repeat (first | exact Below.refl _ _ | apply Below.drew | refine Below.alloc ?_ (by simp <;> omega) _)⟩

/-- What the region of Later holds throughout: two boxes, and that nothing older has turned. -/
structure LS (w : World) (a b c d : Int) (v : World) : Prop where
  size : w.heap.size + 1 < v.heap.size
  below : Below w.heap.size w v
  a : v.cell? ⟨w.heap.size, 0, none⟩ = some (.int .i64 a)
  b : v.cell? ⟨w.heap.size, 1, none⟩ = some (.int .i64 b)
  c : v.cell? ⟨w.heap.size + 1, 0, none⟩ = some (.int .i64 c)
  d : v.cell? ⟨w.heap.size + 1, 1, none⟩ = some (.int .i64 d)
def LSS (w : World) (a b c d : Int) (v : World) : Prop := v.cell? ⟨w.heap.size, 0, none⟩ = some (.int .i64 a) ∧ v.cell? ⟨w.heap.size, 1, none⟩ = some (.int .i64 b) ∧ v.cell? ⟨w.heap.size + 1, 0, none⟩ = some (.int .i64 c) ∧ v.cell? ⟨w.heap.size + 1, 1, none⟩ = some (.int .i64 d) ∧ LS w a b c d v
theorem LS.all {w : World} {a b c d : Int} {v : World} (h : LS w a b c d v) : LSS w a b c d v := ⟨h.a, h.b, h.c, h.d, h⟩
theorem LSS.step {w : World} {a b c d : Int} {v v' : World} (hb : Below v.heap.size v v') (h' : LSS w a b c d v) : LSS w a b c d v' := by
  have h := h'.2.2.2.2
  have hs := hb.size
  have h1 := h.size
  exact LS.all ⟨by omega, h.below.trans (hb.mono (by omega)), by rw [hb.cell (p := ⟨w.heap.size, 0, none⟩) (by show w.heap.size < _; omega)]; exact h.a, by rw [hb.cell (p := ⟨w.heap.size, 1, none⟩) (by show w.heap.size < _; omega)]; exact h.b,
    by rw [hb.cell (p := ⟨w.heap.size + 1, 0, none⟩) h1]; exact h.c, by rw [hb.cell (p := ⟨w.heap.size + 1, 1, none⟩) h1]; exact h.d⟩
theorem LSS.alloc {w : World} {a b c d : Int} {v : World} (h : LSS w a b c d v) (o : Obj) : LSS w a b c d (v.alloc o) := LSS.step ((Below.refl _ _).alloc (Nat.le_refl _) _) h
theorem LSS.below {w : World} {a b c d : Int} {v : World} (h : LSS w a b c d v) : Below w.heap.size w v := h.2.2.2.2.below

/-- By the stamps, then by age. -/
def laterCmp (s a b t c d : Int) : Int := if s < t then -1 else if s > t then 1 else ageCmp a b c d
theorem later_eq (s a b t c d : Int) : (if cmp3 s t = 0 then ageCmp a b c d else cmp3 s t) = laterCmp s a b t c d := by
  unfold laterCmp cmp3
  repeat' split
  all_goals first | (exfalso; omega) | rfl

set_option maxHeartbeats 1600000 in
/-- age.Later. -/
theorem later_any (s a b t c d : Int) (w : World) : Calls Tryd.prog 16 #[.int .i64 s, .agg #[.int .i64 a, .int .i64 b], .int .i64 t, .agg #[.int .i64 c, .int .i64 d]] w fun e w' => e = .returned (.int .i64 (laterCmp s a b t c d)) ∧ Below w.heap.size w w' := by
  have E := Lib.hid (later_eq s a b t c d)
  have p1 := Lib.hid (cmp_any s t)
  have p2 := Lib.hid (compare_any a b c d)
  generalize cmp3 s t = x at *
  generalize ageCmp a b c d = y at *
  generalize laterCmp s a b t c d = r at *
  have H0 : LS w a b c d ((w.alloc (.cells #[.int .i64 a, .int .i64 b] 23)).alloc (.cells #[.int .i64 c, .int .i64 d] 23)) :=
    ⟨by simp, ((Below.refl _ _).alloc (Nat.le_refl _) _).alloc (by simp) _, by simp [go_sem], by simp [go_sem], by simp [go_sem], by simp [go_sem]⟩
  have HS := Lib.hid (LSS.step (Below.refl _ _).drew H0.all)
  clear H0
  go_enter Tryd.func16, Tryd.ntmps16
  go_wp2_with fail
  go_region_held3 (fun v => v.cell? ⟨w.heap.size, 0, none⟩ = some (.int .i64 a) ∧ v.cell? ⟨w.heap.size, 1, none⟩ = some (.int .i64 b) ∧ v.cell? ⟨w.heap.size + 1, 0, none⟩ = some (.int .i64 c) ∧ v.cell? ⟨w.heap.size + 1, 1, none⟩ = some (.int .i64 d) ∧ LS w a b c d v)
    (first | assumption | (apply LSS.alloc (w := w) (a := a) (b := b) (c := c) (d := d); assumption) | (apply LSS.step (w := w) (a := a) (b := b) (c := c) (d := d) <;> assumption) | exact HS.out)
    (first
      | (go_at_call 23; refine (p1.out _).mono ?_; rintro e w' ⟨rfl, rfl⟩)
      | (go_at_call 11; refine (p2.out _).mono ?_; rintro e w' ⟨rfl, hb⟩)
      | (go_at_call 22; refine (or_r _ x y r E.out _ ?_ ?_).mono ?_; (simp [go_sem]); (simp [go_sem]); rintro e w' ⟨rfl, rfl⟩))
  all_goals
    go_wp2
    go_ret
    refine ⟨rfl, LSS.below (a := a) (b := b) (c := c) (d := d) ?_⟩
    assumption
end Go.Proofs.YtmmaolhmhdjldaaDoor.AgeC
