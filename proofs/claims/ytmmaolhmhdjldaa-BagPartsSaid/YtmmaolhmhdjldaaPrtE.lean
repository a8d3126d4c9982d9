/- BagParts: the sort of addresses; slices.SortedFunc, walked; Parted. -/
import Derived.Test.YtmmaolhmhdjldaaPrtC
import Derived.Test.YtmmaolhmhdjldaaPrtD
import Derived.Test.YtmmaolhmhdjldaaPrtShelf
import Derived.Shelf.SlSortCmp.NoneTotal
namespace Go.Proofs.Ytmmaolhmhdjldaa.BagS
open Go.RowKit Go.Sort Go.Proofs.Ytmmaolhmhdjldaa.MapF Go.Maps Go.Shelf Go.Proofs.Ytmmaolhmhdjldaa.AgeS

def adC (x : Int × Int) : List Value := [.int .i64 x.1, .int .i64 x.2]
def adOrd (x y : Int × Int) : Int := ageCmp x.1 x.2 y.1 y.2
theorem lt_ad (x y : Int × Int) : ltOf adOrd x y = decide (x.1 < y.1 ∨ x.1 = y.1 ∧ x.2 < y.2) := by
  obtain ⟨a, b⟩ := x
  obtain ⟨c, d⟩ := y
  unfold ltOf adOrd ageCmp
  by_cases h1 : a < c
  · simp [h1]
  · by_cases h2 : a > c
    · simp [h1, h2, show ¬ a = c by omega]
    · by_cases h3 : b < d
      · simp [h3, show a = c by omega]
      · by_cases h4 : b > d <;> simp [h1, h2, h3, h4]
theorem swo_ad : SWO (ltOf adOrd) where
  irrefl x := by rw [lt_ad]; simp
  trans x y z h1 h2 := by rw [lt_ad] at *; simp at *; omega
  ntrans x y z h1 h2 := by rw [lt_ad] at *; simp at *; omega
def adArr (ss : List Ad) : Array (Int × Int) := (ss.map (·.1)).toArray
theorem adArr_size (ss : List Ad) : (adArr ss).size = ss.length := by simp [adArr]

theorem adCells_at : ∀ (ss : List Ad) (i : Nat) (x : Ad) (r : Nat), ss[i]? = some x → r < 2 → (adCells ss)[i * 2 + r]? = (adC x.1)[r]?
  | [], i, x, r, h, _ => by simp at h
  | y :: t, 0, x, r, h, hr => by
    simp at h
    subst h
    rcases (show r = 0 ∨ r = 1 by omega) with rfl | rfl <;> rfl
  | y :: t, i + 1, x, r, h, hr => by
    rw [List.getElem?_cons_succ] at h
    rw [← adCells_at t i x r h hr, show (i + 1) * 2 + r = i * 2 + r + 1 + 1 by omega]
    rfl

theorem adCells_flat (ss : List Ad) (j : Nat) (h : j < ss.length * 2) : (adCells ss)[j]? = some ((flatK adC 2 (adArr ss))[j]!) := by
  have hi : j / 2 < ss.length := by omega
  rw [get_flatK _ _ _ _ (by rw [adArr_size]; exact h)]
  have hx : ss[j / 2]? = some (ss[j / 2]) := List.getElem?_eq_getElem hi
  have := adCells_at ss (j / 2) _ (j % 2) hx (by omega)
  rw [show j / 2 * 2 + j % 2 = j by omega] at this
  rw [this]
  rw [getElem!_pos (adArr ss) (j / 2) (by rw [adArr_size]; exact hi)]
  rcases (show j % 2 = 0 ∨ j % 2 = 1 by omega) with e | e <;> rw [e] <;> simp [adC, adArr]

theorem adHolds {w : World} {base g cap : Nat} {ss : List Ad} (h : w.ownsRow base 67 2 (.slice (some ⟨g, 0, none⟩) ss.length cap) ss.length (adCells ss)) : HoldsK adC 2 w g 0 (adArr ss) := by
  intro j hj
  rw [size_flatK, adArr_size] at hj
  refine ⟨?_, World.ownsRow.frozenAt h _⟩
  rw [Nat.zero_add, World.ownsRow.cellAt h j hj]
  exact adCells_flat ss j hj

theorem sorted_grown (w : World) (g m : Nat) (d : Array (Int × Int)) (os : Array Obj) : w.grownBy (sortWorldK adC 2 w g 0 m d os) (some g) := by
  have hsz : (putRowK adC 2 (Sort.ahead w m) g 0 d).heap.size = w.heap.size := by simp [putRowK, putRow, mapBlock, Sort.ahead]
  refine ⟨rfl, rfl, rfl, ?_, ?_⟩
  · show w.heap.size ≤ ((putRowK adC 2 (Sort.ahead w m) g 0 d).heap ++ os).size
    rw [Array.size_append, hsz]; omega
  · intro k hk hne
    show ((putRowK adC 2 (Sort.ahead w m) g 0 d).heap ++ os)[k]? = _
    rw [Array.getElem?_append_left (by rw [hsz]; exact hk)]
    simp [putRowK, putRow, mapBlock, Sort.ahead, Array.getElem?_modify, show g ≠ k from fun e => hne (by rw [e])]

/-- slices.SortFunc at the call's own row of addresses. -/
theorem sortAd_any (ss : List Ad) (base : Nat) (v : Value) (hl : ss.length < 4611686018427387904) (w : World) (h : w.ownsRow base 67 2 v ss.length (adCells ss)) (hb : base ≤ w.heap.size) :
    Calls Try.prog 144 #[v, .func (.func 94) #[] #[]] w fun e w' => e = .returned (.tuple #[]) ∧ Below base w w' := by
  rcases h.2 with ⟨rfl, hz⟩ | ⟨g, cap, cur, rfl, hbase, hg, _⟩
  · have := AnyF.slices_SortFunc_none Try.sortAd none 0 (.func (.func 94) #[] #[]) w
    refine this.mono ?_
    rintro e w' ⟨rfl, rfl⟩
    exact ⟨rfl, Below.refl _ _⟩
  · have eg : ∀ args w, (callFunc 94 args).run Try.prog w = .ok (.enter 94 args) w := enters_of Try.func94 (by kernel_rfl) rfl
    have hcmp : CmpLays Try.prog 94 #[] adC 2 adOrd g 0 (adArr ss).size w := fun m os dk hs x y =>
      (parted_cmp x.1 x.2 y.1 y.2 _).mono fun _ _ ⟨he, q, os', hw⟩ => ⟨he, q, os', hw⟩
    have hcon := AnyQ.slices_SortFunc Try.sortAd 2 Try.isAgg67 Try.sizeOf67 adC (fun _ => rfl) (fun x v hv => by simp [adC] at hv; rcases hv with rfl | rfl <;> rfl) adOrd swo_ad 94 #[] g 0 cap (adArr ss) w eg hcmp (adHolds h) (Array.getElem?_eq_some_iff.1 hg).1 (by rw [adArr_size]; exact hl)
    change Calls Try.prog 144 _ _ _ at hcon
    rw [adArr_size] at hcon
    refine hcon.mono ?_
    rintro e w' ⟨rfl, d, m, os, _, _, rfl⟩
    exact ⟨rfl, (Below.refl _ w).grown (sorted_grown w g m d os) hb (fun j hj => by cases hj; exact hbase)⟩

set_option maxRecDepth 100000 in
set_option maxHeartbeats 1000000 in
/-- slices.SortedFunc at a map's addresses. -/
theorem sortedAd_any (Bm m k : Nat) (f : Ad → Option Unit) (w : World) (hBm : Bm < w.heap.size) (hm : w.cell? ⟨Bm, 0, none⟩ = some (.map (some m))) (hf : IsF adMap w m k f) (hk : k ≤ 1000) :
    Calls Try.prog 92 #[.func (.func 145) #[] #[.pointer (some ⟨Bm, 0, none⟩)], .func (.func 94) #[] #[]] w fun e w' => ∃ (A : Option Addr) (c : Nat) (ss : List Ad), e = .returned (.slice A ss.length c) ∧ (ss.Nodup ∧ ∀ x, x ∈ ss ↔ (f x).isSome = true) ∧ ss.length ≤ k ∧ Below w.heap.size w w' := by
  have cC := (callsIn_wide (n := 3)).1 (collectA_in Fence.wide 3 trivial trivial rfl (by omega) 145 #[.pointer (some ⟨Bm, 0, none⟩)] trivial (enters_of Try.func145 (by kernel_rfl) rfl) _ _ k (by unfold maxLen; omega) (by omega) w (keysA_stops Fence.wide 1 trivial rfl (by omega) Bm m k f w hBm hm hf))
  have CC := Lib.hid cC
  clear cC hf hm
  go_enter Try.func92, Try.ntmps92
  go_wp2_with fail
  refine CC.out.mono ?_
  rintro e w1 ⟨v, ss, rfl, ⟨hS, hl⟩, hrow, _, hb⟩
  have cs := sortAd_any ss w.heap.size v (by omega) w1 hrow hb.size
  obtain ⟨A, c, rfl⟩ : ∃ A c, v = .slice A ss.length c := by
    rcases hrow.2 with ⟨rfl, hz⟩ | ⟨g, cap, cur, rfl, _⟩
    · exact ⟨none, 0, by rw [hz]⟩
    · exact ⟨_, _, rfl⟩
  have CS := Lib.hid cs
  have HB := Lib.hid hb
  have HS := Lib.hid hS
  have HL := Lib.hid hl
  clear cs hrow hb hS hl CC
  go_wp2_with fail
  refine CS.out.mono ?_
  rintro e w2 ⟨rfl, hb2⟩
  have HB2 := Lib.hid (HB.out.trans hb2)
  clear hb2 CS
  go_wp2_with fail
  go_ret
  exact ⟨A, c, ss, rfl, HS.out, HL.out, HB2.out⟩

set_option maxRecDepth 100000 in
set_option maxHeartbeats 1000000 in
/-- What is parted: as many addresses as the map has. -/
theorem parted_any (p m k : Nat) (most : Int) (v : Value) (f : Ad → Option Unit) (w : World) (hB : Blk w p 149 #[.int .i64 most, v, .map (some m)]) (hf : IsF adMap w m k f) (hk : k ≤ 1000) :
    Calls Try.prog 60 #[.pointer (some ⟨p, 0, none⟩)] w fun e w' => ∃ (A : Option Addr) (c : Nat) (ss : List Ad), e = .returned (.slice A ss.length c) ∧ (ss.Nodup ∧ ∀ x, x ∈ ss ↔ (f x).isSome = true) ∧ ss.length ≤ k ∧ Below w.heap.size w w' := by
  have b2 := hB.cell 2
  have hp := hB.lt
  have kp := Lib.hid (fun W => (callsIn_wide (n := 1)).1 (keysOf_in Fence.wide 1 trivial rfl (some m) W))
  have hf1 : IsF adMap (w.alloc (.cells #[.map (some m)] 146)) m k f := hf.below hf.lt ((Below.refl _ w).alloc (Nat.le_refl _) _)
  have cs := Lib.hid (sortedAd_any w.heap.size m k f (w.alloc (.cells #[.map (some m)] 146)) (by simp) (Boxed.new w 146 _).cell hf1 hk)
  clear hB hf hf1
  go_enter Try.func60, Try.ntmps60
  go_wp2_with fail
  refine (kp.out _).mono ?_
  rintro e w1 ⟨rfl, rfl⟩
  go_wp2_with fail
  refine cs.out.mono ?_
  rintro e w2 ⟨A, c, ss, rfl, hS, hl, hb⟩
  have HB := Lib.hid (((Below.refl _ w).alloc (Nat.le_refl _) (.cells #[.map (some m)] 146)).trans (hb.mono (by simp)))
  have HS := Lib.hid hS
  have HL := Lib.hid hl
  clear hb hS hl cs kp
  go_wp2_with fail
  go_ret
  exact ⟨A, c, ss, rfl, HS.out, HL.out, HB.out⟩
end Go.Proofs.Ytmmaolhmhdjldaa.BagS
