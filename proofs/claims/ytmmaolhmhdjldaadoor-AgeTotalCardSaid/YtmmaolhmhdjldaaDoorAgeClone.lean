/- slices.Clone and slices.Compact at identities, walked. -/
import Derived.Test.YtmmaolhmhdjldaaDoorAgeRow
namespace Go.Proofs.YtmmaolhmhdjldaaDoor.AgeS
open Go.RowKit Go.Proofs.YtmmaolhmhdjldaaDoor.Cls

theorem infoId : (Tryd.prog.info? 23).map (fun i => (i.zero, i.size, i.bytes)) = some (some (.agg #[.int .i64 0, .int .i64 0]), 2, 16) := by kernel_rfl

theorem clone_some (X : Nat → Int × Int) (b o n cap : Nat) (hn : n ≤ 4000) (hp : 0 < n) (w : World) (hb : b < w.heap.size) (hA : IdsAt w b o n X) :
    Calls Tryd.prog 30 #[.slice (some ⟨b, o, none⟩) n cap] w fun e w' => ∃ g cap', e = .returned (.slice (some ⟨g, 0, none⟩) n cap') ∧ OwnIds w' w.heap.size g n cap' X ∧ Below w.heap.size w w' := by
  have HA := Lib.hid hA
  clear hA
  obtain ⟨i0, hi, hz0, hz1, hz2⟩ := info_parts infoId
  have OWN : Hid ((w.alloc (.cells #[] 23)).ownsRow w.heap.size 23 2 (.slice (some ⟨w.heap.size, 0, none⟩) 0 0) 0 []) := World.ownsRow_made w #[] 0 (Nat.le_refl _) (by unfold maxLen; omega) rfl
  have NEWS : Hid (∀ j u, (idCells X n)[j]? = some u → (w.alloc (.cells #[] 23)).cell? ((⟨b, o, none⟩ : Addr).add j) = some u) := fun j u h => by
    obtain ⟨i, r, hi, hr, rfl, hu⟩ := idCells_get h
    rw [Addr.add_lit]
    have e := ((Below.refl w.heap.size w).alloc (Nat.le_refl _) (.cells #[] 23)).cell (p := ⟨b, o + (i * 2 + r), none⟩) hb
    rw [e]
    have h0 := HA.out i hi
    rcases (show r = 0 ∨ r = 1 by omega) with rfl | rfl
    · rw [show o + (i * 2 + 0) = o + i * 2 by omega, h0.1, ← hu]; rfl
    · rw [show o + (i * 2 + 1) = o + i * 2 + 1 by omega, h0.2, ← hu]; rfl
  have hne := fun w => Lib.run_eql_slice_nil (P := Tryd.prog) w 37 23 (some ⟨b, o, none⟩) n cap 0 0 Tryd.underlying37
  simp only [Option.isNone_some] at hne
  go_enter Tryd.func30, Tryd.ntmps30
  go_wp2_with (at_builtin; refine wpList_append_own _ rfl _ _ 37 rfl w.heap.size 23 i0 (.agg #[.int .i64 0, .int .i64 0]) 2 16 Tryd.underlying37 hi hz0 hz1 hz2 rfl (by decide) _ 0 [] rfl OWN.out ⟨b, o, none⟩ n cap (idCells X n) rfl (idCells_len X n) NEWS.out (idCells_one X n) (by unfold maxLen; omega) (by omega) (by simp) ?_; intro v' w1 hown hgrow hnil)
  rw [Nat.zero_add, List.nil_append] at hown
  have HO := Lib.hid hown
  have HG : Hid ((w.alloc (.cells #[] 23)).grownBy w1 (some w.heap.size)) := hgrow
  obtain ⟨g, cap', hv⟩ : ∃ g cap', v' = .slice (some ⟨g, 0, none⟩) n cap' := by
    rcases hown.2 with ⟨_, h0⟩ | ⟨g, c, _, h, _⟩
    · omega
    · exact ⟨g, c, h⟩
  clear hown hgrow hnil
  subst hv
  go_wp2_with fail
  go_ret
  exact ⟨g, cap', rfl, HO.out, ((Below.refl w.heap.size w).alloc (Nat.le_refl _) _).grown HG.out (by simp) (fun j hj => by cases hj; exact Nat.le_refl _)⟩

theorem clone_nil (w : World) : Calls Tryd.prog 30 #[.slice none 0 0] w fun e w' => e = .returned (.slice none 0 0) ∧ w = w' := by
  have hne := fun w => Lib.run_eql_slice_nil (P := Tryd.prog) w 37 23 none 0 0 0 0 Tryd.underlying37
  simp only [Option.isNone_none] at hne
  go_enter Tryd.func30, Tryd.ntmps30
  go_wp2_with fail
  go_ret
  exact ⟨rfl, rfl⟩

theorem clone_empty (ad : Addr) (cap : Nat) (w : World) : Calls Tryd.prog 30 #[.slice (some ad) 0 cap] w fun e w' => ∃ A cap', e = .returned (.slice (some A) 0 cap') ∧ w'.ownsRow w.heap.size 23 2 (.slice (some A) 0 cap') 0 [] ∧ Below w.heap.size w w' := by
  obtain ⟨i0, hi, hz0, hz1, hz2⟩ := info_parts infoId
  have OWN : Hid ((w.alloc (.cells #[] 23)).ownsRow w.heap.size 23 2 (.slice (some ⟨w.heap.size, 0, none⟩) 0 0) 0 []) := World.ownsRow_made w #[] 0 (Nat.le_refl _) (by unfold maxLen; omega) rfl
  have hne := fun w => Lib.run_eql_slice_nil (P := Tryd.prog) w 37 23 (some ad) 0 cap 0 0 Tryd.underlying37
  simp only [Option.isNone_some] at hne
  go_enter Tryd.func30, Tryd.ntmps30
  go_wp2_with (at_builtin; refine wpList_append_own _ rfl _ _ 37 rfl w.heap.size 23 i0 (.agg #[.int .i64 0, .int .i64 0]) 2 16 Tryd.underlying37 hi hz0 hz1 hz2 rfl (by decide) _ 0 [] rfl OWN.out ad 0 cap [] rfl rfl (fun j u h => by simp at h) (fun u h => by simp at h) (by unfold maxLen; omega) (by omega) (by simp) ?_; intro v' w1 hown hgrow hnil)
  have HO := Lib.hid hown
  have HG : Hid ((w.alloc (.cells #[] 23)).grownBy w1 (some w.heap.size)) := hgrow
  obtain ⟨A, cap', hv⟩ : ∃ A cap', v' = .slice (some A) 0 cap' := by
    rcases hown.2 with ⟨h, _⟩ | ⟨g, c, _, h, _⟩
    · have e : (Value.slice (some ⟨w.heap.size, 0, none⟩) 0 0) = Value.slice none 0 0 := (hnil.1 h).1
      cases e
    · exact ⟨_, c, h⟩
  clear hown hgrow hnil
  subst hv
  go_wp2_with fail
  go_ret
  exact ⟨A, cap', rfl, HO.out, ((Below.refl w.heap.size w).alloc (Nat.le_refl _) _).grown HG.out (by simp) (fun j hj => by cases hj; exact Nat.le_refl _)⟩
end Go.Proofs.YtmmaolhmhdjldaaDoor.AgeS
