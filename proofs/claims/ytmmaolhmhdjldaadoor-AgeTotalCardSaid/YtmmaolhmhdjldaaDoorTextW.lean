/- age.Text, walked: both numbers' numerals with a point between. -/
import Derived.Test.YtmmaolhmhdjldaaDoorShelf
import Derived.Test.YtmmaolhmhdjldaaDoorNumText
import Derived.WalkKit
import Derived.WalkSpells
import Derived.WalkLawsBesides
import Derived.Lib.Hide
import Derived.Lib.ItoaLen
import Derived.LaidSub
import Derived.Deep.RegionHeld3
namespace Go.Proofs.YtmmaolhmhdjldaaDoor.AgeW
open Go.RowKit Go.Proofs.YtmmaolhmhdjldaaDoor.NT

/-- The table of the powers of ten. -/
def Tab (w : World) : Prop := Lib.TabIs Tryd.prog w "internal/strconv.uint64pow10" .u64 Lib.pow10Tab

theorem below_grow (B : Nat) (w : World) (hB : B ≤ w.heap.size) (k : Nat) (os : Array Obj) : Below B w (Sort.grow (w.drewN k) os) :=
  ((below_drewN (Below.refl B w) k)).trans ⟨rfl, rfl, rfl, by simp, fun i hi => Sort.heap_grow_old _ _ (by simp; omega)⟩

theorem itoa_any (n : Int) (h : inI n) (w : World) (htab : Tab w) :
    Calls Tryd.prog 28 #[.int .i64 n] w fun e w' => e = .returned (.string ⟨(Lib.itoa n).toArray⟩) ∧ Below w.heap.size w w' := by
  refine (Tryd.strconv_Itoa n h.1 h.2 w htab).mono ?_
  rintro e w' ⟨rfl, k, os, rfl⟩
  exact ⟨rfl, below_grow _ _ (Nat.le_refl _) _ _⟩

theorem tab_below {w w' : World} (h : Tab w) (hb : Below w.heap.size w w') (hg : 4 ≤ w.heap.size) : Tab w' :=
  var?_below hb (show Tryd.prog.globalNamed "internal/strconv.uint64pow10" = some 3 by kernel_rfl) (by omega) h

theorem tab_alloc {w : World} (h : Tab w) (o : Obj) (hg : 4 ≤ w.heap.size) : Tab (w.alloc o) := tab_below h ((Below.refl _ _).alloc (Nat.le_refl _) _) hg

/-- What the region of Text holds throughout. -/
structure TS (w : World) (n c : Int) (v : World) : Prop where
  tab : Tab v
  size : w.heap.size < v.heap.size
  below : Below w.heap.size w v
  c0 : v.cell? ⟨w.heap.size, 0, none⟩ = some (.int .i64 n)
  c1 : v.cell? ⟨w.heap.size, 1, none⟩ = some (.int .i64 c)
theorem TS.step {w : World} {n c : Int} {v v' : World} (h : TS w n c v) (hb : Below v.heap.size v v') (hg : 4 ≤ w.heap.size) : TS w n c v' := by
  obtain ⟨h1, h2, h3, h4, h5⟩ := h
  have hs := hb.size
  exact ⟨tab_below h1 hb (by omega), by omega, h3.trans (hb.mono (by omega)), by rw [hb.cell (p := ⟨w.heap.size, 0, none⟩) h2]; exact h4, by rw [hb.cell (p := ⟨w.heap.size, 1, none⟩) h2]; exact h5⟩

def TSS (w : World) (n c : Int) (v : World) : Prop := v.cell? ⟨w.heap.size, 0, none⟩ = some (.int .i64 n) ∧ v.cell? ⟨w.heap.size, 1, none⟩ = some (.int .i64 c) ∧ TS w n c v
theorem TSS.step {w : World} {n c : Int} {v v' : World} (hb : Below v.heap.size v v') (h : TSS w n c v) (hg : 4 ≤ w.heap.size) : TSS w n c v' := by
  have hT := h.2.2.step hb hg
  exact ⟨hT.c0, hT.c1, hT⟩
theorem TSS.below {w : World} {n c : Int} {v : World} (h : TSS w n c v) : Below w.heap.size w v := h.2.2.below
theorem str_app (a b : List UInt8) : (⟨a.toArray⟩ : ByteArray) ++ ⟨b.toArray⟩ = ⟨(a ++ b).toArray⟩ := by
  apply ByteArray.ext
  simp [ByteArray.data_append]
theorem str_three (a b c : List UInt8) : (⟨a.toArray⟩ : ByteArray) ++ ⟨b.toArray⟩ ++ ⟨c.toArray⟩ = ⟨(a ++ b ++ c).toArray⟩ := by rw [str_app, str_app]
theorem ret_str {a b : ByteArray} (h : a = b) : Ending.returned (.string a) = .returned (.string b) := by rw [h]
theorem TSS.tab {w : World} {n c : Int} {v : World} (h : TSS w n c v) : Tab v := h.2.2.tab

set_option maxHeartbeats 800000 in
theorem text_any (n c : Int) (h1 : inI n) (h2 : inI c) (w : World) (htab : Tab w) (hsz : 4 ≤ w.heap.size) :
    Calls Tryd.prog 14 #[.agg #[.int .i64 n, .int .i64 c]] w fun e w' => e = .returned (.string ⟨(Lib.itoa n ++ [46] ++ Lib.itoa c).toArray⟩) ∧ Below w.heap.size w w' := by
  have l1 := Lib.itoa_length_le n h1.1 h1.2
  have l2 := Lib.itoa_length_le c h2.1 h2.2
  have hS : TS w n c (w.alloc (.cells #[.int .i64 n, .int .i64 c] 23)) := ⟨tab_alloc htab _ hsz, by simp, (Below.refl _ _).alloc (Nat.le_refl _) _, by simp [go_sem], by simp [go_sem]⟩
  have HS := Lib.hid (hS.step (Below.refl _ _).drew hsz)
  clear htab hS
  go_enter Tryd.func14, Tryd.ntmps14
  go_wp2_with fail
  have q1 : (9223372036854775807 < (Lib.itoa n).length + 1) = False := by simp; omega
  have q2 : (9223372036854775807 < (Lib.itoa n).length + 1 + (Lib.itoa c).length) = False := by simp; omega
  go_region_held3 (fun v => v.cell? ⟨w.heap.size, 0, none⟩ = some (.int .i64 n) ∧ v.cell? ⟨w.heap.size, 1, none⟩ = some (.int .i64 c) ∧ TS w n c v) (first | (exact ⟨HS.out.c0, HS.out.c1, HS.out⟩) | (refine TSS.step (w := w) (n := n) (c := c) (by assumption) (by assumption) hsz))
    (first
      | (go_at_call_of 28 (Value.int IntKind.i64 n); refine (itoa_any n h1 _ ?_).mono ?_; (refine TSS.tab (w := w) (n := n) (c := c) ?_; assumption); rintro e w' ⟨rfl, hb⟩)
      | (go_at_call_of 28 (Value.int IntKind.i64 c); refine (itoa_any c h2 _ ?_).mono ?_; (refine TSS.tab (w := w) (n := n) (c := c) ?_; assumption); rintro e w' ⟨rfl, hb⟩))
  all_goals
    go_wp2
    go_ret
    exact ⟨ret_str (str_three _ _ _), TSS.below (w := w) (n := n) (c := c) (by assumption)⟩

theorem pow10_named : Tryd.prog.globalNamed "internal/strconv.uint64pow10" = some 3 := by kernel_rfl
theorem pow10_typed : (Tryd.prog.globals[3]?).map (·.type) = some 107 := by kernel_rfl

/-- The table lies in the heap. -/
theorem Tab.size {w : World} (h : Tab w) : 4 ≤ w.heap.size := by
  unfold Tab Lib.TabIs World.var? at h
  rw [pow10_named] at h
  simp only [Option.bind_some] at h
  cases hk : w.heap[3]? with
  | none => rw [hk] at h; cases h
  | some o =>
    have := (Array.getElem?_eq_some_iff.1 hk).1
    omega

theorem cells107 : Tryd.prog.cellsOf 107 = 20 := by kernel_rfl
theorem cells61 : Tryd.prog.cellsOf 61 = 1 := by kernel_rfl
/-- What a row's list gives: the table. -/
theorem tab_of_met {W : World} {l : List (String × DataW Unit)} (h : laidMet Tryd.prog l W)
    (hl : l.filter (fun x => x.1 == "internal/strconv.uint64pow10") = [("internal/strconv.uint64pow10", Lib.tabData .u64 Lib.pow10Tab)]) : Tab W := by
  have h' := laidMet.filter (fun x => x.1 == "internal/strconv.uint64pow10") h
  rw [hl] at h'
  exact Lib.tabIs_of_head (rest := []) pow10_named pow10_typed Tryd.underlying107 Tryd.underlying61 cells61 cells107 h'
end Go.Proofs.YtmmaolhmhdjldaaDoor.AgeW
