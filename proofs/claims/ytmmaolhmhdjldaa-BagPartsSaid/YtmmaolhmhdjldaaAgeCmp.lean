/- age.Compare, walked, with what it calls of cmp, and just what it makes of the world. -/
import Derived.Test.YtmmaolhmhdjldaaProg
import Derived.WalkKit
import Derived.WalkSpells
import Derived.WalkLawsBesides
import Derived.Lib.Hide
import Derived.Deep.RegionHeld3
import Derived.Sort.Grow
namespace Go.Proofs.Ytmmaolhmhdjldaa.AgeS
open Go.RowKit Go.Sort

/-- The world, some draws on, with some blocks behind it. -/
def Grew (w w' : World) : Prop := ∃ q os, w' = grow (w.drewN q) os
theorem Grew.refl (w : World) : Grew w w := ⟨0, #[], by rw [grow_empty]; rfl⟩
theorem Grew.drew {w w' : World} (h : Grew w w') : Grew w w'.drew := by
  obtain ⟨q, os, rfl⟩ := h
  exact ⟨q + 1, os, rfl⟩
theorem Grew.drewN {w w' : World} (h : Grew w w') (n : Nat) : Grew w (w'.drewN n) := by
  obtain ⟨q, os, rfl⟩ := h
  exact ⟨q + n, os, by show grow ((w.drewN q).drewN n) os = _; rw [World.drewN_drewN]⟩
theorem Grew.alloc {w w' : World} (h : Grew w w') (o : Obj) : Grew w (w'.alloc o) := by
  obtain ⟨q, os, rfl⟩ := h
  exact ⟨q, os ++ #[o], by rw [alloc_eq_grow, grow_grow]⟩
theorem Grew.trans {a b c : World} (h : Grew a b) (h' : Grew b c) : Grew a c := by
  obtain ⟨q, os, rfl⟩ := h
  obtain ⟨q', os', rfl⟩ := h'
  exact ⟨q + q', os ++ os', by show grow (grow ((a.drewN q).drewN q') os) os' = _; rw [grow_grow, World.drewN_drewN]⟩
theorem Grew.below {w w' : World} (h : Grew w w') : Below w.heap.size w w' := by
  obtain ⟨q, os, rfl⟩ := h
  exact ⟨rfl, rfl, rfl, by simp [grow, World.drewN], fun k hk => by show ((w.drewN q).heap ++ os)[k]? = _; rw [Array.getElem?_append_left (by exact hk)]; rfl⟩

def cmp3 (a b : Int) : Int := if a < b then -1 else if a > b then 1 else 0
/-- By N, then by Client. -/
def ageCmp (a b c d : Int) : Int := if a < c then -1 else if a > c then 1 else if b < d then -1 else if b > d then 1 else 0

theorem ageCmp_eq (a b c d : Int) (h : ¬ (a = c ∧ b = d)) : (if cmp3 a c = 0 then cmp3 b d else cmp3 a c) = ageCmp a b c d := by
  unfold cmp3 ageCmp
  repeat' split
  all_goals first | (exfalso; omega) | rfl | omega

theorem cmp_any (a b : Int) (w : World) : Calls Try.prog 79 #[.int .i64 a, .int .i64 b] w fun e w' => e = .returned (.int .i64 (cmp3 a b)) ∧ w = w' := by
  by_cases h1 : a < b
  · have e : cmp3 a b = -1 := by unfold cmp3; rw [if_pos h1]
    rw [e]
    clear e
    go_enter Try.func79, Try.ntmps79
    go_wp2
    go_ret
    exact ⟨rfl, rfl⟩
  · by_cases h2 : a > b
    · have e : cmp3 a b = 1 := by unfold cmp3; rw [if_neg h1, if_pos h2]
      rw [e]
      clear e
      go_enter Try.func79, Try.ntmps79
      go_wp2
      go_ret
      exact ⟨rfl, rfl⟩
    · have e : cmp3 a b = 0 := by unfold cmp3; rw [if_neg h1, if_neg h2]
      rw [e]
      clear e
      go_enter Try.func79, Try.ntmps79
      go_wp2
      go_ret
      exact ⟨rfl, rfl⟩

theorem ret1 {a b : Int} (h : a = b) : Ending.returned (.int .i64 a) = .returned (.int .i64 b) := by rw [h]

theorem or_any (b : Nat) (x y : Int) (w : World) (c0 : w.cell? ⟨b, 0, none⟩ = some (.int .i64 x)) (c1 : w.cell? ⟨b, 1, none⟩ = some (.int .i64 y)) :
    Calls Try.prog 78 #[.slice (some ⟨b, 0, none⟩) 2 2] w fun e w' => e = .returned (.int .i64 (if x = 0 then y else x)) ∧ w = w' := by
  by_cases hx : x = 0
  · rw [if_pos hx]
    subst hx
    go_enter Try.func78, Try.ntmps78
    go_wp2
    go_loop [5, 8] (fun _ i => i = .int .i64 0 ∨ i = .int .i64 1 ∨ (i = .int .i64 2 ∧ y = 0)) (fun _ i => (2 - intOf i).toNat)
    case atStart => exact Or.inl rfl
    case round =>
      rcases hrel with rfl | rfl | ⟨rfl, hy⟩
      · go_wp2
        go_round
        case rel => exact Or.inr (Or.inl rfl)
        case measure => simp [intOf]
      · by_cases hy : y = 0
        · subst hy
          go_wp2
          go_round
          case rel => simp
          case measure => simp [intOf]
        · have hy' : (y != 0) = true := by simpa using hy
          go_wp2
          go_ret
          exact ⟨rfl, rfl⟩
      · subst hy
        go_wp2
        go_ret
        exact ⟨rfl, rfl⟩
  · rw [if_neg hx]
    have hx' : (x != 0) = true := by simpa using hx
    go_enter Try.func78, Try.ntmps78
    go_wp2
    go_loop [5, 8] (fun _ i => i = .int .i64 0) (fun _ i => (2 - intOf i).toNat)
    case atStart => rfl
    case round =>
      subst hrel
      go_wp2
      go_ret
      exact ⟨rfl, rfl⟩

theorem or_r (b : Nat) (x y r : Int) (hr : (if x = 0 then y else x) = r) (w : World) (c0 : w.cell? ⟨b, 0, none⟩ = some (.int .i64 x)) (c1 : w.cell? ⟨b, 1, none⟩ = some (.int .i64 y)) :
    Calls Try.prog 78 #[.slice (some ⟨b, 0, none⟩) 2 2] w fun e w' => e = .returned (.int .i64 r) ∧ w = w' := by
  rw [← hr]
  exact or_any b x y w c0 c1

theorem eq23 (a b c d : Int) (w : World) : (binOp .eql 23 (.agg #[.int .i64 a, .int .i64 b]) (.agg #[.int .i64 c, .int .i64 d])).run Try.prog w = .ok (.bool (a == c && b == d)) w := by
  have hu := Try.underlying23
  go_simp
  by_cases h1 : a = c <;> by_cases h2 : b = d <;> simp [h1, h2]

set_option maxHeartbeats 1600000 in
/-- age.Compare. -/
theorem compare_any (a b c d : Int) (w : World) : Calls Try.prog 28 #[.agg #[.int .i64 a, .int .i64 b], .agg #[.int .i64 c, .int .i64 d]] w fun e w' => e = .returned (.int .i64 (ageCmp a b c d)) ∧ Grew w w' := by
  by_cases h : a = c ∧ b = d
  · obtain ⟨rfl, rfl⟩ := h
    have e : ageCmp a b a b = 0 := by unfold ageCmp; simp
    rw [e]
    clear e
    go_enter Try.func28, Try.ntmps28
    go_wp2
    go_ret
    exact ⟨rfl, ((Grew.refl _).alloc _).alloc _⟩
  · have e := ageCmp_eq a b c d h
    have heq := eq23 a b c d
    have hf : (a == c && b == d) = false := by
      rw [Bool.and_eq_false_iff]
      simp only [beq_eq_false_iff_ne, ne_eq]
      by_cases h1 : a = c
      · exact Or.inr (fun h2 => h ⟨h1, h2⟩)
      · exact Or.inl h1
    rw [hf] at heq
    have p1 := Lib.hid (cmp_any a c)
    have p2 := Lib.hid (cmp_any b d)
    have E := Lib.hid e
    clear e hf h
    generalize cmp3 a c = x at *
    generalize cmp3 b d = y at *
    generalize ageCmp a b c d = r at *
    go_enter Try.func28, Try.ntmps28
    go_wp2_with fail
    go_region_held3 (fun v => v.cell? ⟨w.heap.size, 0, none⟩ = some (.int .i64 a) ∧ v.cell? ⟨w.heap.size, 1, none⟩ = some (.int .i64 b) ∧ v.cell? ⟨w.heap.size + 1, 0, none⟩ = some (.int .i64 c) ∧ v.cell? ⟨w.heap.size + 1, 1, none⟩ = some (.int .i64 d)) (go_keep)
      (first
        | (go_at_call_of 79 (Value.int IntKind.i64 a); refine (p1.out _).mono ?_; rintro e w' ⟨rfl, rfl⟩)
        | (go_at_call_of 79 (Value.int IntKind.i64 b); refine (p2.out _).mono ?_; rintro e w' ⟨rfl, rfl⟩)
        | (go_at_call 78; refine (or_r _ x y r E.out _ ?_ ?_).mono ?_; (simp [go_sem]); (simp [go_sem]); rintro e w' ⟨rfl, rfl⟩))
    all_goals
      go_wp2
      go_ret
      exact ⟨rfl, by repeat (first | exact Grew.refl _ | apply Grew.drewN | apply Grew.drew | apply Grew.alloc)⟩


end Go.Proofs.Ytmmaolhmhdjldaa.AgeS
