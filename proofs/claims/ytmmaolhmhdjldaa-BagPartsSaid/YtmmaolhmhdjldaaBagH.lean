/- A bag: Double, Drop, walked. -/
import Derived.Test.YtmmaolhmhdjldaaBagG
namespace Go.Proofs.Ytmmaolhmhdjldaa.BagS
open Go.RowKit Go.Proofs.Ytmmaolhmhdjldaa.MapF Go.Maps

attribute [local go_sem ↓] loadMsg_eq storeMsg_eq buildMsg_eq
attribute [local go_sem] run_loadMsg run_storeMsg run_buildMsg

set_option maxRecDepth 100000 in
set_option maxHeartbeats 2000000 in
theorem double_no (base p m : Nat) (most : Int) (A : Option Addr) (n cap : Nat) (L : List (Array Value)) (i : Int) (w : World) (hB : BagAt w base p m most A n cap L) (hi : ¬ (0 ≤ i ∧ i < (n : Int))) :
    Calls Try.prog 45 #[.pointer (some ⟨p, 0, none⟩), .int .i64 i] w fun e w' => e = .returned (.int .i64 2) ∧ w = w' := by
  have HI : Hid ((decide (0 ≤ i) && decide (i < (n : Int))) = false) := Lib.hid (by simp; omega)
  have HB := Lib.hid hB
  clear hB hi
  go_enter Try.func45, Try.ntmps45
  go_wp2_with fail
  refine (has_any p m most A n cap i _ HB.out.blk).mono ?_
  rintro e w1 ⟨rfl, rfl⟩
  rw [HI.out]
  go_wp2_with fail
  go_ret
  exact ⟨rfl, rfl⟩

set_option maxRecDepth 100000 in
set_option maxHeartbeats 2000000 in
theorem double_full (base p m : Nat) (most : Int) (A : Option Addr) (n cap : Nat) (L : List (Array Value)) (i : Nat) (C : Array Value) (w : World) (hB : BagAt w base p m most A n cap L) (hC : L[i]? = some C) (hn : (n : Int) = most) :
    Calls Try.prog 45 #[.pointer (some ⟨p, 0, none⟩), .int .i64 i] w fun e w' => e = .returned (.int .i64 4) ∧ Below w.heap.size w w' := by
  have hin : i < n := by rw [← hB.len]; exact (List.getElem?_eq_some_iff.1 hC).1
  have HI : Hid ((decide (0 ≤ (i : Int)) && decide ((i : Int) < (n : Int))) = true) := Lib.hid (by simp; omega)
  have hnil := hB.nil C (List.mem_of_getElem? hC)
  obtain ⟨g, rfl, hnc, hcm, hg, _, hown⟩ := hB.form (by omega)
  unfold maxLen at hcm
  have r := msgAt_eq hnil.size (own_range hB.own hB.len hB.all26 hC)
  obtain ⟨r0, r1⟩ := r
  have q1 : w.cell? ⟨p, 1, none⟩ = some (.slice (some ⟨g, 0, none⟩) n cap) := hB.blk.cell 1
  have HB := Lib.hid hB
  have HN := Lib.hid hn
  have i0 : (0 : Int) ≤ (i : Int) := by omega
  have i1 : (i : Int) < (n : Int) := by omega
  clear hB hC hnil hown hn
  go_enter Try.func45, Try.ntmps45
  go_wp2_with fail
  refine (has_any p m most _ n cap i _ HB.out.blk).mono ?_
  rintro e w1 ⟨rfl, rfl⟩
  rw [HI.out]
  go_wp2_with fail
  refine (send_full base p m most _ n cap L C w HB.out HN.out).mono ?_
  rintro e w1 ⟨rfl, hb⟩
  have HB1 := Lib.hid hb
  clear hb
  go_wp2_with fail
  go_ret
  exact ⟨rfl, HB1.out⟩

set_option maxRecDepth 100000 in
set_option maxHeartbeats 2000000 in
theorem double_room (base p m : Nat) (most : Int) (A : Option Addr) (n cap : Nat) (L : List (Array Value)) (i : Nat) (C : Array Value) (w : World) (hB : BagAt w base p m most A n cap L) (hC : L[i]? = some C) (hn : (n : Int) < most) :
    Calls Try.prog 45 #[.pointer (some ⟨p, 0, none⟩), .int .i64 i] w fun e w' => ∃ g cap', e = .returned (.int .i64 0) ∧ BagAt w' base p m most (some ⟨g, 0, none⟩) (n + 1) cap' (L ++ [C]) ∧ Only w w' p A ∧ (A.map (·.block) = some g ∨ w.heap.size ≤ g) := by
  have hin : i < n := by rw [← hB.len]; exact (List.getElem?_eq_some_iff.1 hC).1
  have HI : Hid ((decide (0 ≤ (i : Int)) && decide ((i : Int) < (n : Int))) = true) := Lib.hid (by simp; omega)
  have hnil := hB.nil C (List.mem_of_getElem? hC)
  obtain ⟨g, rfl, hnc, hcm, hg, _, hown⟩ := hB.form (by omega)
  unfold maxLen at hcm
  have r := msgAt_eq hnil.size (own_range hB.own hB.len hB.all26 hC)
  obtain ⟨r0, r1⟩ := r
  have q1 : w.cell? ⟨p, 1, none⟩ = some (.slice (some ⟨g, 0, none⟩) n cap) := hB.blk.cell 1
  have HB := Lib.hid hB
  have HN := Lib.hid hn
  have HC := Lib.hid hnil
  have i0 : (0 : Int) ≤ (i : Int) := by omega
  have i1 : (i : Int) < (n : Int) := by omega
  clear hB hC hnil hown hn
  go_enter Try.func45, Try.ntmps45
  go_wp2_with fail
  refine (has_any p m most _ n cap i _ HB.out.blk).mono ?_
  rintro e w1 ⟨rfl, rfl⟩
  rw [HI.out]
  go_wp2_with fail
  refine (send_room base p m most _ n cap L C w HB.out HC.out HN.out).mono ?_
  rintro e w1 ⟨g', cap', rfl, hF⟩
  have HF := Lib.hid hF
  clear hF
  go_wp2_with fail
  go_ret
  exact ⟨g', cap', rfl, HF.out⟩

set_option maxRecDepth 100000 in
set_option maxHeartbeats 2000000 in
theorem drop_no (base p m : Nat) (most : Int) (A : Option Addr) (n cap : Nat) (L : List (Array Value)) (i : Int) (w : World) (hB : BagAt w base p m most A n cap L) (hi : ¬ (0 ≤ i ∧ i < (n : Int))) :
    Calls Try.prog 46 #[.pointer (some ⟨p, 0, none⟩), .int .i64 i] w fun e w' => e = .returned (.int .i64 2) ∧ Below w.heap.size w w' := by
  have hzm := zeroMC
  have T := Lib.hid (take_no base p m most A n cap L i w hB hi)
  generalize zeroC = Z at T hzm
  clear hB hi
  go_enter Try.func46, Try.ntmps46
  go_wp2_with fail
  refine T.out.mono ?_
  rintro e w1 ⟨rfl, hb⟩
  have HB1 := Lib.hid hb
  have rz : RoomMsg (w1.alloc (.cells zeroC 73)) w1.heap.size 0 := (Blk.new w1 73 zeroC).there
  unfold zeroC at rz
  clear hb
  go_wp2_with fail
  go_ret
  exact ⟨rfl, below_setCells (HB1.out.alloc HB1.out.size _) _ _ HB1.out.size _⟩

set_option maxRecDepth 100000 in
set_option maxHeartbeats 2000000 in
theorem drop_yes (base p m k : Nat) (most : Int) (A : Option Addr) (n cap : Nat) (L : List (Array Value)) (f : Ad → Option Unit) (i : Nat) (C : Array Value) (x y : Ad) (w : World) (hB : BagAt w base p m most A n cap L) (hC : L[i]? = some C) (hS : Sent C x y) (hf : IsF adMap w m k f) :
    Calls Try.prog 46 #[.pointer (some ⟨p, 0, none⟩), .int .i64 i] w fun e w' => e = .returned (.int .i64 0) ∧ BagAt w' base p m most A (n - 1) cap (L.eraseIdx i) ∧ Only w w' p A := by
  have hmc := (hB.nil C (List.mem_of_getElem? hC)).msg
  have T := Lib.hid (take_yes base p m k most A n cap L f i C x y w hB hC hS hf)
  have HB := Lib.hid hB
  clear hB hC hS hf
  generalize (!(f x).isSome && !(f y).isSome) = bb at T
  go_enter Try.func46, Try.ntmps46
  go_wp2_with fail
  refine T.out.mono ?_
  rintro e w1 ⟨rfl, hB1, hO1⟩
  have B1 := Lib.hid hB1
  have O1 := Lib.hid hO1
  have rz : RoomMsg (w1.alloc (.cells zeroC 73)) w1.heap.size 0 := (Blk.new w1 73 zeroC).there
  unfold zeroC at rz
  clear hB1 hO1
  go_wp2_with fail
  go_ret
  refine ⟨rfl, bag_setCells (bag_alloc B1.out _) _ _ (by have := B1.out.blk.lt; omega) (fun a ha => ?_) _, only_setCells (O1.out.trans (Only.ofBelow p none ((Below.refl _ _).alloc (Nat.le_refl _) _)) (fun z hz => nomatch hz)) _ _ O1.out.size _⟩
  subst ha
  have := (B1.out.own.lt a.block rfl).2
  omega
end Go.Proofs.Ytmmaolhmhdjldaa.BagS
