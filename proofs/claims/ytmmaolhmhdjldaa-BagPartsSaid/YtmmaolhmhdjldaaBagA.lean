/- A bag's messages that have no lists: copied, walked. -/
import Derived.Test.YtmmaolhmhdjldaaCls
import Derived.Test.YtmmaolhmhdjldaaProg
import Derived.Deep.RegionHeld3
import Derived.Deep.DrawnRows
import Derived.Outline
import Derived.Below
import Derived.Laws.OwnMore
import Derived.Deep.Draws
import Derived.Laws.Rows
import Derived.Deep.MidRow
namespace Go.Proofs.Ytmmaolhmhdjldaa.BagS
open Go.RowKit Go.Proofs.Ytmmaolhmhdjldaa.Cls
attribute [local go_sem ↓] Go.wp_at_zero Go.wp_at_succ

/-- A message of a number, between two addresses. -/
structure Ms where
  seq : Int
  fg : Int
  fn : Int
  tg : Int
  tn : Int

/-- Its cells. -/
def msC (m : Ms) : List Value :=
  [.int .i64 0, .int .i64 m.fg, .int .i64 m.fn, .int .i64 m.tg, .int .i64 m.tn, .int .i64 0, .int .i64 0, .int .i64 0, .int .i64 0, .bool false, .slice none 0 0, .slice none 0 0,
   .int .i64 m.seq, .int .i64 0, .int .i64 0, .int .i64 0, .string ⟨#[]⟩, .int .i64 0, .slice none 0 0, .slice none 0 0, .int .i64 0, .int .i64 0, .int .i64 0, .int .i64 0, .bool false, .string ⟨#[]⟩]

theorem clone136 (w : World) : Calls Try.prog 136 #[.slice none 0 0] w fun e w' => e = .returned (.slice none 0 0) ∧ w = w' := by
  have hne := fun w => Lib.run_eql_slice_nil (P := Try.prog) w 69 _ none 0 0 0 0 Try.underlying69
  simp only [Option.isNone_none] at hne
  go_enter Try.func136, Try.ntmps136
  go_wp2_with fail
  go_ret
  exact ⟨rfl, rfl⟩
theorem clone137 (w : World) : Calls Try.prog 137 #[.slice none 0 0] w fun e w' => e = .returned (.slice none 0 0) ∧ w = w' := by
  have hne := fun w => Lib.run_eql_slice_nil (P := Try.prog) w 70 _ none 0 0 0 0 Try.underlying70
  simp only [Option.isNone_none] at hne
  go_enter Try.func137, Try.ntmps137
  go_wp2_with fail
  go_ret
  exact ⟨rfl, rfl⟩
theorem clone138 (w : World) : Calls Try.prog 138 #[.slice none 0 0] w fun e w' => e = .returned (.slice none 0 0) ∧ w = w' := by
  have hne := fun w => Lib.run_eql_slice_nil (P := Try.prog) w 71 _ none 0 0 0 0 Try.underlying71
  simp only [Option.isNone_none] at hne
  go_enter Try.func138, Try.ntmps138
  go_wp2_with fail
  go_ret
  exact ⟨rfl, rfl⟩
theorem clone139 (w : World) : Calls Try.prog 139 #[.slice none 0 0] w fun e w' => e = .returned (.slice none 0 0) ∧ w = w' := by
  have hne := fun w => Lib.run_eql_slice_nil (P := Try.prog) w 68 _ none 0 0 0 0 Try.underlying68
  simp only [Option.isNone_none] at hne
  go_enter Try.func139, Try.ntmps139
  go_wp2_with fail
  go_ret
  exact ⟨rfl, rfl⟩

def Blk (w : World) (g : Nat) (t : TypeId) (cs : Array Value) : Prop := w.heap[g]? = some (.cells cs t (0, 0))

section
variable {w w' : World} {g : Nat} {t : TypeId} {cs : Array Value}
theorem Blk.lt (h : Blk w g t cs) : g < w.heap.size := by
  rcases Nat.lt_or_ge g w.heap.size with hlt | hge
  · exact hlt
  · unfold Blk at h; rw [Array.getElem?_eq_none hge] at h; cases h
theorem Blk.cell (h : Blk w g t cs) (i : Nat) : w.cell? ⟨g, i, none⟩ = cs[i]? := cell_of_row w g i cs t (0, 0) h
theorem Blk.frozen (h : Blk w g t cs) (i : Nat) : w.frozen? ⟨g, i, none⟩ = false := by
  unfold Blk at h
  simp [World.frozen?, h]
theorem Blk.new (w : World) (t : TypeId) (cs : Array Value) : Blk (w.alloc (.cells cs t)) w.heap.size t cs := heap_alloc_new w _
theorem Blk.drew (h : Blk w g t cs) : Blk w.drew g t cs := h
theorem Blk.drewN (h : Blk w g t cs) (n : Nat) : Blk (w.drewN n) g t cs := h
theorem Blk.alloc (h : Blk w g t cs) (o : Obj) : Blk (w.alloc o) g t cs := (Below.heap_alloc w o g h.lt).trans h
theorem Blk.set_ (h : Blk w g t cs) (i : Nat) (u : Value) : Blk (w.setCell ⟨g, i, none⟩ u) g t (cs.setIfInBounds i u) := by
  unfold Blk at h ⊢
  simp [World.setCell, Array.getElem?_modify, h]
theorem Blk.far (h : Blk w g t cs) {p : Addr} (hp : g ≠ p.block) (u : Value) : Blk (w.setCell p u) g t cs := (Below.heap_setCell w p u g hp).trans h
theorem Blk.below {B : Nat} (h : Blk w g t cs) (hb : Below B w w') (hg : g < B) : Blk w' g t cs := (hb.block g hg).trans h
theorem Blk.grown {row : Option Nat} (h : Blk w g t cs) (hb : w.grownBy w' row) (hg : some g ≠ row) : Blk w' g t cs := (hb.block g h.lt hg).trans h
theorem Blk.ne_ {g' : Nat} {t' : TypeId} {cs' : Array Value} (h : Blk w g t cs) (h' : Blk w g' t' cs') (hne : t ≠ t') : g ≠ g' := by
  rintro rfl
  unfold Blk at h h'
  rw [h] at h'
  injection h' with h'
  injection h' with _ ht
  exact hne ht
theorem own_blk_ne {base : Nat} {e : TypeId} {size n : Nat} {v : Value} {xs : List Value} (h : w.ownsRow base e size v n xs) (hg : Blk w g t cs) (hne : e ≠ t) : v.ownBlock ≠ some g := by
  rcases h.2 with ⟨rfl, _⟩ | ⟨g', cap, cur, rfl, _, hh, _⟩
  · simp [Value.ownBlock]
  · intro he
    have : g' = g := by simpa [Value.ownBlock] using he
    subst this
    exact Blk.ne_ (t := e) hh hg hne rfl
end

theorem world_out {c : Code} {P : Program} {Q : Exit → Act → World → Prop} {a : Act} {w0 : World} (h : ∀ w, w = w0 → c.wp P Q a w) : c.wp P Q a w0 := h w0 rfl
theorem Blk.range {w : World} {g : Nat} {t : TypeId} {C : Array Value} (h : Blk w g t C) : w.rangeAt g 0 C.toList := fun j v hv => by
  rw [Nat.zero_add, h.cell]
  rwa [Array.getElem?_toList] at hv
theorem Blk.there {w : World} {g : Nat} {t : TypeId} {C : Array Value} (h : Blk w g t C) : w.there g 0 C.size := fun j hj => by
  rw [Nat.zero_add]
  refine ⟨?_, h.frozen j⟩
  rw [h.cell, Array.getElem?_eq_getElem hj]
  rfl

theorem Blk.new2 (w : World) (t : TypeId) (C : Array Value) (t' : TypeId) (D : Array Value) : Blk ((w.alloc (.cells C t)).alloc (.cells D t')) (w.heap.size + 1) t' D := by
  have h := Blk.new (w.alloc (.cells C t)) t' D
  simpa using h
theorem below_setCells {B : Nat} {a : World} : ∀ {w : World}, Below B a w → ∀ (g o : Nat), B ≤ g → ∀ l : List Value, Below B a (w.setCells g o l)
  | _, h, _, _, _, [] => h
  | _, h, g, o, hg, u :: r => below_setCells (h.setCell (p := ⟨g, o, none⟩) hg u) g (o + 1) hg r

/-- A message without lists. -/
structure NilC (C : Array Value) : Prop where
  size : C.size = 26
  one : ∀ u ∈ C.toList, u.oneCell' = true
  n10 : C[10]? = some (.slice none 0 0)
  n11 : C[11]? = some (.slice none 0 0)
  n18 : C[18]? = some (.slice none 0 0)
  n19 : C[19]? = some (.slice none 0 0)

theorem set_same {C : Array Value} {i : Nat} {v : Value} (h : C[i]? = some v) : C.setIfInBounds i v = C := by
  apply Array.ext_getElem?
  intro j
  rw [Array.getElem?_setIfInBounds]
  split
  · rename_i e
    subst e
    rw [h, if_pos (Array.getElem?_eq_some_iff.1 h).1]
  · rfl

set_option maxRecDepth 100000 in
set_option maxHeartbeats 2000000 in
theorem copied_nil (C : Array Value) (h : NilC C) (w : World) :
    Calls Try.prog 81 #[.agg C] w fun e w' => e = .returned (.agg C) ∧ Below w.heap.size w w' := by
  have n10 := h.n10
  have n11 := h.n11
  have n18 := h.n18
  have n19 := h.n19
  have e10 := set_same n10
  have e11 := set_same n11
  have e18 := set_same n18
  have e19 := set_same n19
  have HN := Lib.hid h
  clear h
  go_enter Try.func81, Try.ntmps81
  go_wp2_with fail
  trace "one"
  go_region_held3 (fun v => v.cell? ⟨w.heap.size, 10, none⟩ = some (.slice none 0 0) ∧ v.cell? ⟨w.heap.size, 11, none⟩ = some (.slice none 0 0) ∧ v.cell? ⟨w.heap.size, 18, none⟩ = some (.slice none 0 0) ∧ v.cell? ⟨w.heap.size, 19, none⟩ = some (.slice none 0 0)) (go_keep)
    (first
      | (go_at_call 136; refine (clone136 _).mono ?_; rintro e w' ⟨rfl, rfl⟩)
      | (go_at_call 137; refine (clone137 _).mono ?_; rintro e w' ⟨rfl, rfl⟩)
      | (go_at_call 138; refine (clone138 _).mono ?_; rintro e w' ⟨rfl, rfl⟩)
      | (go_at_call 139; refine (clone139 _).mono ?_; rintro e w' ⟨rfl, rfl⟩))
  go_wp2_with fail
  refine world_out (fun W hW => ?_)
  have B0 : Hid (Blk W w.heap.size 73 C) := Lib.hid (by rw [hW]; exact ((Blk.new w 73 C).alloc _).drew)
  have B1 : Hid (∃ Z, Blk W (w.heap.size + 1) 73 Z ∧ Z.size = 26) := Lib.hid ⟨_, by rw [hW]; exact (Blk.new2 w 73 C 73 _).drew, rfl⟩
  have BW : Hid (Below w.heap.size w W) := Lib.hid (by rw [hW]; exact (((Below.refl _ _).alloc (Nat.le_refl _) _).alloc (by simp) _).drew)
  clear hW
  have c10 : W.cell? ⟨w.heap.size, 10, none⟩ = some (.slice none 0 0) := (B0.out.cell 10).trans n10
  have T1 : Hid (W.there (w.heap.size + 1) 0 C.size) := Lib.hid (by
    obtain ⟨Z, hZ, hs⟩ := B1.out
    have := hZ.there
    rw [hs, ← HN.out.size] at this
    exact this)
  have R0 : Hid (W.rangeAt w.heap.size 0 C.toList) := Lib.hid B0.out.range
  have hi : (Try.prog.info? 73).map (·.size) = some C.toList.length := by rw [Array.length_toList, HN.out.size]; kernel_rfl
  have hi' : (Try.prog.info? 73).map (·.size) = some C.size := by rw [HN.out.size]; kernel_rfl
  have HI := Lib.hid hi
  have HI' := Lib.hid hi'
  have OC : Hid (C.all (·.oneCell') = true) := Lib.hid (Array.all_eq_true_iff_forall_mem.2 fun u hu => HN.out.one u (by simpa using hu))
  clear n10 n11 n18 n19 e10 e11 e18 e19 hi hi'
  refine wp_loop_rounds 1 ?_
  rw [rounds_succ]
  go_wp2_with (first
    | (refine wpList_load_mid rfl 73 (.tmp 1) rfl w.heap.size 0 rfl C.toList _ R0.out Try.underlying73 rfl HI.out ?_; simp only [Array.toArray_toList])
    | (refine wpList_store_mid rfl 73 (.tmp 2) (.tmp 49) rfl (w.heap.size + 1) 0 C rfl rfl T1.out HI'.out OC.out ?_))
  have hl := run_loadVar_mid (P := Try.prog) (W.setCells (w.heap.size + 1) 0 C.toList) (w.heap.size + 1) 0 73 C.toList _ (World.rangeAt_setCells_same W _ _ _ (by rw [Array.length_toList]; exact T1.out)) Try.underlying73 rfl HI.out
  simp only [Array.toArray_toList] at hl
  refine bodyPost_ret (v := .agg C) (by simp [results, Try.results81, asAddr, Act.put, hl]) rfl ⟨rfl, ?_⟩
  exact below_setCells BW.out _ _ (by omega) _
end Go.Proofs.Ytmmaolhmhdjldaa.BagS
