/- plane.Order's comparison; the stable sort of a list's places. -/
import Derived.Test.YtpaihfdmjkfegaaStaK
import Derived.Test.YtpaihfdmjkfegaaFarRep
import Derived.Test.YtpaihfdmjkfegaaReads
import Derived.Deep.OwnRows
import Derived.Shelf.SlSortFunc.HeapSort
namespace Go.Proofs.Ytpaihfdmjkfegaa.Sta
open Go.Shelf Go.RowKit Go.Lib Go.Sort Go.Proofs.Ytpaihfdmjkfegaa.Far

theorem same_grown (w : World) : w = grow (w.drewN 0) #[] := by rw [grow_empty, World.drewN_zero]
/-- The comparison of two places of the list. -/
theorem less_any (V f n x y : Nat) (u v : Int) (W : World) (lV : V < W.heap.size) (lf : f < W.heap.size) (cV : W.cell? ⟨V, 0, none⟩ = some (.slice (some ⟨f, 0, none⟩) n n))
    (cx : W.cell? ⟨f, x, none⟩ = some (.int .i64 u)) (cy : W.cell? ⟨f, y, none⟩ = some (.int .i64 v)) (hx : x < n) (hy : y < n) :
    Calls Try.prog 35 #[.int .i64 x, .int .i64 y, .pointer (some ⟨V, 0, none⟩)] W fun e w' => e = .returned (.int .i64 (cmp3 u v)) ∧ ∃ q os, w' = grow (W.drewN q) os := by
  have mixed : Try.prog.follows Departure.mixedOrders = true := by kernel_rfl
  have gV := cell_grown lV cV
  have gx := cell_grown (a := ⟨f, x, none⟩) lf cx
  have gy := cell_grown (a := ⟨f, y, none⟩) lf cy
  obtain ⟨xN, hxN⟩ : ∃ q, q = x := ⟨_, rfl⟩
  obtain ⟨yN, hyN⟩ : ∃ q, q = y := ⟨_, rfl⟩
  rw [← hxN] at gx
  rw [← hyN] at gy
  have ex : (x : Int).toNat = xN := by omega
  have ey : (y : Int).toNat = yN := by omega
  have x0 : (0 : Int) ≤ (x : Int) := by omega
  have y0 : (0 : Int) ≤ (y : Int) := by omega
  have x1 : (x : Int) < (n : Int) := by omega
  have y1 : (y : Int) < (n : Int) := by omega
  have C := Lib.hid (fun (w : World) => show Calls Try.prog 36 #[.int .i64 u, .int .i64 v] w fun e w' => e = .returned (.int .i64 (cmp3 u v)) ∧ ∃ q os', w' = grow (w.drewN q) os' from (cmp_any u v w).mono fun _ _ ⟨h1, h2⟩ => ⟨h1, 0, #[], by rw [← h2]; exact same_grown _⟩)
  clear lV lf cV cx cy hx hy hxN hyN
  generalize cmp3 u v = z at C ⊢
  go_enter Try.func35, Try.ntmps35
  go_wp2_with fail
  go_quiet_grown (first | (go_at_call 36; refine Calls.grown_of (C.out _)))
  clear gV gx gy
  go_wp2
  go_ret
  exact ⟨rfl, nq, osq, rfl⟩

/-- A list's places, the nearest first, of the equally near the earlier one. -/
def Sorted (F : Nat → Int) (n : Nat) (r : List Nat) : Prop := r.Perm (List.range n) ∧ r.Pairwise (Nearer F id)
theorem sorted_one {F : Nat → Int} {n : Nat} {r r' : List Nat} (h : Sorted F n r) (h' : Sorted F n r') : r = r' :=
  List.Perm.eq_of_pairwise (le := Nearer F id) (fun a b _ _ h1 h2 => by unfold Nearer at h1 h2; omega) h.2 h'.2 (h.1.trans h'.1.symm)
theorem Sorted.length {F : Nat → Int} {n : Nat} {r : List Nat} (h : Sorted F n r) : r.length = n := by rw [h.1.length_eq, List.length_range]
theorem Sorted.lt {F : Nat → Int} {n : Nat} {r : List Nat} (h : Sorted F n r) : ∀ x ∈ r, x < n := fun _ hx => List.mem_range.1 (h.1.mem_iff.1 hx)

theorem sorted_grown1 {α : Type} [Inhabited α] (enc : α → Value) (w : World) (g m : Nat) (d : Array α) (os : Array Obj) : w.grownBy (sortWorld enc w g 0 m d os) (some g) := by
  have hsz : (putRow enc (Sort.ahead w m) g 0 d).heap.size = w.heap.size := by simp [putRow, mapBlock, Sort.ahead]
  refine ⟨rfl, rfl, rfl, ?_, ?_⟩
  · show w.heap.size ≤ ((putRow enc (Sort.ahead w m) g 0 d).heap ++ os).size
    rw [Array.size_append, hsz]; omega
  · intro k hk hne
    show ((putRow enc (Sort.ahead w m) g 0 d).heap ++ os)[k]? = _
    rw [Array.getElem?_append_left (by rw [hsz]; exact hk)]
    simp [putRow, mapBlock, Sort.ahead, Array.getElem?_modify, show g ≠ k from fun e => hne (by rw [e])]

/-- A block's first cells hold these numbers. -/
def RowI (w : World) (O : Nat) (r : List Nat) : Prop := O < w.heap.size ∧ ∀ i x : Nat, r[i]? = some x → w.cell? ⟨O, i, none⟩ = some (.int .i64 (x : Int)) ∧ w.frozen? ⟨O, i, none⟩ = false

def encF {n : Nat} (x : Fin n) : Value := .int .i64 (x.val : Int)
theorem cmp3_lt (a b : Int) : decide (cmp3 a b < 0) = decide (a < b) := by
  unfold cmp3
  split
  · rename_i h; simp [h]
  · split <;> simp <;> omega

theorem order_sort (n : Nat) (hn : 0 < n) (hn2 : n < 100000) (F : Nat → Int) (V f O : Nat) (w : World) (lV : V < w.heap.size) (hVO : V ≠ O) (hfO : f ≠ O) (cV : w.cell? ⟨V, 0, none⟩ = some (.slice (some ⟨f, 0, none⟩) n n))
    (hf : w.rowIs f 3 n (fun j => .int .i64 (F j))) (hO : w.rowIs O 3 n (fun j => .int .i64 (j : Int))) :
    Calls Try.prog 34 #[.slice (some ⟨O, 0, none⟩) n n, .func (.func 35) #[] #[.pointer (some ⟨V, 0, none⟩)]] w fun e w' => e = .returned (.tuple #[]) ∧ ∃ r, Sorted F n r ∧ RowI w' O r ∧ w.grownBy w' (some O) := by
  haveI : Inhabited (Fin n) := ⟨⟨0, hn⟩⟩
  have hd0 : ∀ i, (h : i < n) → (Array.ofFn (fun x : Fin n => x))[i]! = ⟨i, h⟩ := fun i h => by rw [getElem!_pos _ i (by simpa using h)]; simp
  have R : Row1 encF w O 0 (Array.ofFn (fun x : Fin n => x)) := by
    refine ⟨fun x => rfl, fun j hj => ?_, hO.lt⟩
    rw [Array.size_ofFn] at hj
    rw [Nat.zero_add, hd0 j hj]
    exact ⟨hO.cell hj, hO.frozen j⟩
  have hcmp : CmpLays1 Try.prog 35 #[.pointer (some ⟨V, 0, none⟩)] encF (fun x y : Fin n => cmp3 (F x.val) (F y.val)) O 0 n w := fun m os dk hs x y => by
    have hle : w.heap.size ≤ (sortWorld encF w O 0 m dk os).heap.size := (sorted_grown1 encF w O m dk os).size
    exact less_any V f n x.val y.val (F x.val) (F y.val) _ (Nat.lt_of_lt_of_le lV hle) (Nat.lt_of_lt_of_le hf.lt hle)
      ((cell?_sortWorld_other encF w O 0 m dk os ⟨V, 0, none⟩ hVO lV).trans cV) ((cell?_sortWorld_other encF w O 0 m dk os ⟨f, x.val, none⟩ hfO hf.lt).trans (hf.cell x.isLt))
      ((cell?_sortWorld_other encF w O 0 m dk os ⟨f, y.val, none⟩ hfO hf.lt).trans (hf.cell y.isLt)) x.isLt y.isLt
  have eg : ∀ args w, (callFunc 35 args).run Try.prog w = .ok (.enter 35 args) w := enters_of Try.func35 (by kernel_rfl) rfl
  refine (sortStable_all (fun x : Fin n => F x.val) Fin.val encF (fun x y : Fin n => cmp3 (F x.val) (F y.val)) 35 _ O 0 n n (Array.ofFn (fun x : Fin n => x)) w w eg hcmp R (by simp) hn2 (SW.start R.hH)
    (fun _ _ => cmp3_lt _ _) (fun i hi => by rw [hd0 i hi])).mono ?_
  rintro e w' ⟨rfl, d', hP, hG, hS⟩
  have hsz : d'.size = n := hP.1.trans (by simp)
  have hH := hS.holds R.hblk R.hH (by rw [hsz]; simp)
  refine ⟨rfl, (List.range n).map (fun i => (d'[i]!).val), ⟨?_, ?_⟩, ⟨hS.lt R.hblk, fun i x hx => ?_⟩, ?_⟩
  · have q := hP.2.2.map Fin.val
    rw [extract_list d' (by omega), extract_list (Array.ofFn (fun x : Fin n => x)) (by simp), List.map_map, List.map_map] at q
    have e1 : (List.range (n - 0)).map (Fin.val ∘ fun k => d'[0 + k]!) = (List.range n).map (fun i => (d'[i]!).val) := by
      rw [Nat.sub_zero]
      exact List.map_congr_left fun i _ => by show (d'[0 + i]!).val = _; rw [Nat.zero_add]
    have e2 : (List.range (n - 0)).map (Fin.val ∘ fun k => (Array.ofFn (fun x : Fin n => x))[0 + k]!) = List.range n := by
      rw [Nat.sub_zero]
      conv => rhs; rw [← List.map_id (List.range n)]
      exact List.map_congr_left fun i hi => by
        rw [List.mem_range] at hi
        show ((Array.ofFn (fun x : Fin n => x))[0 + i]!).val = i
        rw [Nat.zero_add, hd0 i hi]
    rw [e1, e2] at q
    exact q
  · rw [List.pairwise_map]
    refine List.Pairwise.imp_of_mem ?_ (List.pairwise_lt_range (n := n))
    intro i j hi hj hij
    rw [List.mem_range] at hi hj
    exact hG.asc i j (Nat.zero_le _) hij hj
  · rw [List.getElem?_map] at hx
    by_cases hi : i < n
    · rw [List.getElem?_range hi] at hx
      cases hx
      have := hH i (by omega)
      rw [Nat.zero_add] at this
      exact this
    · rw [List.getElem?_eq_none (by simpa using hi)] at hx
      cases hx
  · obtain ⟨m, os, rfl⟩ := hS
    exact sorted_grown1 _ _ _ _ _ _

set_option maxHeartbeats 1600000 in
theorem ins_none (O cap : Nat) (fv : Value) (w : World) : Calls Try.prog 58 #[.slice (some ⟨O, 0, none⟩) 0 cap, .int .i64 0, .int .i64 0, fv] w fun e w' => e = .returned (.tuple #[]) ∧ w' = w := by
  go_enter Try.func58, Try.ntmps58
  go_wp2
  go_loopg [8] 0 (fun _ v8 wr => v8 = .int .i64 1 ∧ wr = w)
  case atStart => exact ⟨rfl, rfl⟩
  case round =>
    obtain ⟨rfl, rfl⟩ := hrel
    go_wp2
    go_end0
    exact ⟨rfl, rfl⟩
set_option maxHeartbeats 1600000 in
theorem stable_none (O cap : Nat) (fv : Value) (w : World) : Calls Try.prog 48 #[.slice (some ⟨O, 0, none⟩) 0 cap, .int .i64 0, fv] w fun e w' => e = .returned (.tuple #[]) ∧ w' = w := by
  go_enter Try.func48, Try.ntmps48
  go_wp2
  go_loopg [7, 8] 0 (fun _ v7 v8 wr => v7 = .int .i64 0 ∧ v8 = .int .i64 20 ∧ wr = w)
  case atStart => exact ⟨rfl, rfl, rfl⟩
  case round =>
    obtain ⟨rfl, rfl, rfl⟩ := hrel
    go_wp2_with fail
    refine (ins_none O cap fv _).mono ?_
    rintro e w1 ⟨rfl, rfl⟩
    go_wp2_with fail
    go_loopg [6] 0 (fun _ v6 wr => v6 = .int .i64 20 ∧ wr = w1)
    case atStart => exact ⟨rfl, rfl⟩
    case round =>
      obtain ⟨rfl, rfl⟩ := hrel
      go_wp2
      go_end0
      exact ⟨rfl, rfl⟩
theorem sort_none (O cap : Nat) (fv : Value) (w : World) : Calls Try.prog 34 #[.slice (some ⟨O, 0, none⟩) 0 cap, fv] w fun e w' => e = .returned (.tuple #[]) ∧ w' = w := by
  go_enter Try.func34, Try.ntmps34
  go_wp2_with fail
  refine (stable_none O cap fv _).mono ?_
  rintro e w1 ⟨rfl, rfl⟩
  go_wp2_with fail
  go_end0
  exact ⟨rfl, rfl⟩
end Go.Proofs.Ytpaihfdmjkfegaa.Sta
