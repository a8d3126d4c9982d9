/- BagParts: the order in which Parted sorts, walked. -/
import Derived.Test.YtmmaolhmhdjldaaAgeCmp
namespace Go.Proofs.Ytmmaolhmhdjldaa.AgeS
open Go.RowKit Go.Sort

theorem ageCmp_all (a b c d : Int) : (if cmp3 a c = 0 then cmp3 b d else cmp3 a c) = ageCmp a b c d := by
  by_cases h : a = c ∧ b = d
  · obtain ⟨rfl, rfl⟩ := h
    simp [cmp3, ageCmp]
  · exact ageCmp_eq a b c d h

set_option maxHeartbeats 1600000 in
/-- The function that Parted hands to the sort. -/
theorem parted_cmp (a b c d : Int) (w : World) : Calls Try.prog 94 #[.agg #[.int .i64 a, .int .i64 b], .agg #[.int .i64 c, .int .i64 d]] w fun e w' => e = .returned (.int .i64 (ageCmp a b c d)) ∧ Grew w w' := by
  have E := Lib.hid (ageCmp_all a b c d)
  have p1 := Lib.hid (cmp_any a c)
  have p2 := Lib.hid (cmp_any b d)
  generalize cmp3 a c = x at *
  generalize cmp3 b d = y at *
  generalize ageCmp a b c d = r at *
  go_enter Try.func94, Try.ntmps94
  go_wp2_with fail
  go_region_held3 (fun v => v.cell? ⟨w.heap.size, 0, none⟩ = some (.int .i64 a) ∧ v.cell? ⟨w.heap.size, 1, none⟩ = some (.int .i64 b) ∧ v.cell? ⟨w.heap.size + 1, 0, none⟩ = some (.int .i64 c) ∧ v.cell? ⟨w.heap.size + 1, 1, none⟩ = some (.int .i64 d)) (go_keep)
    (first
      | (go_at_call_of 79 (Value.int IntKind.i64 a); refine (p1.out _).mono ?_; rintro e w' ⟨rfl, rfl⟩)
      | (go_at_call_of 79 (Value.int IntKind.i64 b); refine (p2.out _).mono ?_; rintro e w' ⟨rfl, rfl⟩)
      | (go_at_call 78; refine (or_r _ x y r E.out _ ?_ ?_).mono ?_; (simp [go_sem]); (simp [go_sem]); rintro e w' ⟨rfl, rfl⟩))
  all_goals
    go_wp2
    go_ret
    exact ⟨rfl, by repeat (first | exact Grew.refl _ | apply Grew.drewN | apply Grew.drew | apply Grew.alloc)⟩
end Go.Proofs.Ytmmaolhmhdjldaa.AgeS
