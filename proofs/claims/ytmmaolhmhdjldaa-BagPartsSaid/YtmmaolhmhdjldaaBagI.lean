/- The chapter's example of a bag, walked. -/
import Derived.Test.YtmmaolhmhdjldaaBagH
namespace Go.Proofs.Ytmmaolhmhdjldaa.BagS
open Go.RowKit Go.Proofs.Ytmmaolhmhdjldaa.MapF Go.Maps

/-- A message with a number and a sender. -/
def msgS (s a b : Int) : Array Value := #[.int .i64 0, .int .i64 a, .int .i64 b, .int .i64 0, .int .i64 0, .int .i64 0, .int .i64 0, .int .i64 0, .int .i64 0, .bool false, .slice none 0 0, .slice none 0 0,
   .int .i64 s, .int .i64 0, .int .i64 0, .int .i64 0, .string ⟨#[]⟩, .int .i64 0, .slice none 0 0, .slice none 0 0, .int .i64 0, .int .i64 0, .int .i64 0, .int .i64 0, .bool false, .string ⟨#[]⟩]
theorem nilS (s a b : Int) : NilC (msgS s a b) where
  size := rfl
  one := by
    intro u hu
    simp only [msgS, List.mem_cons, List.not_mem_nil, or_false] at hu
    rcases hu with rfl | rfl | rfl | rfl | rfl | rfl | rfl | rfl | rfl | rfl | rfl | rfl | rfl | rfl | rfl | rfl | rfl | rfl | rfl | rfl | rfl | rfl | rfl | rfl | rfl | rfl <;> rfl
  n10 := rfl
  n11 := rfl
  n18 := rfl
  n19 := rfl
def ad0 : Ad := ⟨(0, 0), by decide, by decide⟩
theorem sentS (s : Int) (x : Ad) : Sent (msgS s x.1.1 x.1.2) x ad0 := ⟨rfl, rfl, rfl, rfl⟩

theorem new_bag (most : Int) (w : World) :
    Calls Try.prog 42 #[.int .i64 most] w fun e w' => e = .returned (.pointer (some ⟨w.heap.size + 1, 0, none⟩)) ∧ BagAt w' w.heap.size (w.heap.size + 1) w.heap.size (max 0 (min most 256)) none 0 0 [] ∧ IsF adMap w' w.heap.size 0 (fun _ => none) ∧ Below w.heap.size w w' := by
  refine (new_any most w).mono ?_
  rintro e w' ⟨rfl, rfl⟩
  have hf : IsF adMap (w.alloc (.map #[] 0)) w.heap.size 0 (fun _ => none) := IsF.made w
  refine ⟨rfl, ⟨?_, ⟨rfl, .inl ⟨rfl, rfl⟩⟩, rfl, (fun C hC => nomatch hC), by omega, by simp; omega, by omega, by omega⟩, same_f hf (heap_alloc_old _ _ (by simp)), ((Below.refl _ _).alloc (Nat.le_refl _) _).alloc (by simp) _⟩
  have h := Blk.new (w.alloc (.map #[] 0)) 149 #[.int .i64 (max 0 (min most 256)), .slice none 0 0, .map (some w.heap.size)]
  simpa using h

/-- A row lies in another block. -/
def Apart (A : Option Addr) (b : Nat) : Prop := ∀ a, A = some a → a.block ≠ b
theorem Apart.next {A : Option Addr} {b g : Nat} {w : World} (h : Apart A b) (hb : b < w.heap.size) (hg : A.map (·.block) = some g ∨ w.heap.size ≤ g) : Apart (some ⟨g, 0, none⟩) b := by
  intro a ha
  cases ha
  show g ≠ b
  rcases hg with e | e
  · cases A with
    | none => simp at e
    | some a => simp only [Option.map_some, Option.some.injEq] at e; rw [← e]; exact h a rfl
  · omega
/-- A variable's message lies there still. -/
structure Var (w : World) (p : Nat) (A : Option Addr) (b : Nat) (C : Array Value) : Prop where
  r : w.rangeAt b 0 C.toList
  lt : b < w.heap.size
  ne : b ≠ p
  ap : Apart A b
theorem range_only {w w' : World} {p b : Nat} {A : Option Addr} {cs : List Value} (h : w.rangeAt b 0 cs) (hb : b < w.heap.size) (hp : b ≠ p) (hA : Apart A b) (hO : Only w w' p A) : w'.rangeAt b 0 cs := fun j v hv =>
  (World.cell?_of_block (a := ⟨b, 0 + j, none⟩) (hO.block b hb hp hA)).trans (h j v hv)
theorem Var.below {w w' : World} {p b : Nat} {A : Option Addr} {C : Array Value} (h : Var w p A b C) (hB : Below w.heap.size w w') : Var w' p A b C := ⟨range_below h.r hB, Nat.lt_of_lt_of_le h.lt hB.size, h.ne, h.ap⟩
theorem Var.sent {w w' : World} {p b g : Nat} {A : Option Addr} {C : Array Value} (h : Var w p A b C) (hO : Only w w' p A) (hg : A.map (·.block) = some g ∨ w.heap.size ≤ g) : Var w' p (some ⟨g, 0, none⟩) b C :=
  ⟨range_only h.r h.lt h.ne h.ap hO, Nat.lt_of_lt_of_le h.lt hO.size, h.ne, h.ap.next h.lt hg⟩
theorem Var.only {w w' : World} {p b : Nat} {A : Option Addr} {C : Array Value} (h : Var w p A b C) (hO : Only w w' p A) : Var w' p A b C :=
  ⟨range_only h.r h.lt h.ne h.ap hO, Nat.lt_of_lt_of_le h.lt hO.size, h.ne, h.ap⟩

attribute [local go_sem ↓] loadMsg_eq storeMsg_eq buildMsg_eq
attribute [local go_sem] run_loadMsg run_storeMsg run_buildMsg

set_option maxRecDepth 100000 in
set_option maxHeartbeats 4000000 in
theorem works_bag (w : World) : Calls Try.prog 41 #[] w fun e w' => e = .returned (.bool true) ∧ Below w.heap.size w w' := by
  go_enter Try.func41, Try.ntmps41
  go_wp2_with fail
  refine (new_bag 2 w).mono ?_
  rintro e W ⟨rfl, hB, hF, hb⟩
  have HB := Lib.hid hB
  have HF := Lib.hid hF
  have BW := Lib.hid hb
  clear hB hF hb
  have rA : RoomMsg ((W.alloc (.cells zeroC 73)).alloc (.cells zeroC 73)) W.heap.size 0 := ((Blk.new W 73 zeroC).alloc _).there
  have rB : ∀ l, RoomMsg (((W.alloc (.cells zeroC 73)).alloc (.cells zeroC 73)).setCells W.heap.size 0 l) (W.heap.size + 1) 0 := fun l => World.there_setCells (Blk.new2 W 73 zeroC 73 zeroC).there _ _ _
  have mA := (nilS 1 0 0).msg
  have mB := (nilS 2 0 0).msg
  unfold msgS at mA mB
  unfold zeroC at rA rB
  go_upto_region 5 with (fail)
  have VW := HB.out.blk.lt
  refine world_out (fun W5 hW5 => ?_)
  have F5 : Hid (Below W.heap.size W W5 ∧ Var W5 (w.heap.size + 1) none W.heap.size (msgS 1 0 0) ∧ Var W5 (w.heap.size + 1) none (W.heap.size + 1) (msgS 2 0 0)) := Lib.hid (by
    have hz : W5.heap.size = W.heap.size + 2 := by rw [hW5, setCells_size, setCells_size]; simp
    refine ⟨?_, ⟨?_, by omega, by omega, fun a ha => nomatch ha⟩, ⟨?_, by omega, by omega, fun a ha => nomatch ha⟩⟩
    · rw [hW5]
      exact below_setCells (below_setCells (((Below.refl _ _).alloc (Nat.le_refl _) _).alloc (by simp) _) _ _ (Nat.le_refl _) _) _ _ (by omega) _
    · rw [hW5]
      exact World.rangeAt_setCells_apart (World.rangeAt_setCells_same _ _ _ (msgS 1 0 0).toList rA) _ _ _ (.inl (by omega))
    · rw [hW5]
      exact World.rangeAt_setCells_same _ _ _ (msgS 2 0 0).toList (rB _))
  clear hW5 rA rB mA mB
  have B5 := Lib.hid (HB.out.below F5.out.1)
  have BW5 : Hid (Below w.heap.size w W5) := Lib.hid (BW.out.trans (F5.out.1.mono BW.out.size))
  obtain ⟨p, hp⟩ : ∃ p, p = w.heap.size + 1 := ⟨_, rfl⟩
  obtain ⟨b2, hb2⟩ : ∃ b, b = W.heap.size := ⟨_, rfl⟩
  have IF5 : Hid (IsF adMap W5 w.heap.size 0 (fun _ => none)) := Lib.hid (same_f HF.out (F5.out.1.block _ (HF.out.lt)))
  have V2 := Lib.hid F5.out.2.1
  have V3 := Lib.hid F5.out.2.2
  rw [← hp, ← hb2] at V2 V3
  rw [← hp] at B5
  rw [← hp, ← hb2]
  clear F5 HB HF BW VW hp hb2 W
  have r2 := msgAt_eq rfl V2.out.r
  obtain ⟨r20, r21⟩ := r2
  go_wp2_with fail
  refine (send_room _ p _ 2 none 0 0 [] (msgS 1 0 0) W5 B5.out (nilS _ _ _) (by decide)).mono ?_
  rintro e W6 ⟨g6, c6, rfl, hB6, hO6, hg6⟩
  have B6 := Lib.hid hB6
  have O6 := Lib.hid hO6
  have V26 := Lib.hid (V2.out.sent hO6 hg6)
  have V36 := Lib.hid (V3.out.sent hO6 hg6)
  have IF6 := Lib.hid (only_isF B5.out hO6 IF5.out)
  have BW6 : Hid (Below w.heap.size w W6) := Lib.hid (BW5.out.trans (hO6.base B5.out))
  clear hB6 hO6 hg6 r20 r21 V2 V3 B5 O6 IF5 BW5
  obtain ⟨r20, r21⟩ := msgAt_eq rfl V36.out.r
  go_wp2_with fail
  refine (send_room _ p _ 2 _ _ c6 _ (msgS 2 0 0) W6 B6.out (nilS _ _ _) (by decide)).mono ?_
  rintro e W7 ⟨g7, c7, rfl, hB7, hO7, hg7⟩
  have B7 := Lib.hid hB7
  have V27 := Lib.hid (V26.out.sent hO7 hg7)
  have IF7 := Lib.hid (only_isF B6.out hO7 IF6.out)
  have BW7 : Hid (Below w.heap.size w W7) := Lib.hid (BW6.out.trans (hO7.base B6.out))
  clear hB7 hO7 hg7 r20 r21 V26 V36 B6 IF6 BW6
  obtain ⟨r20, r21⟩ := msgAt_eq rfl V27.out.r
  go_wp2_with fail
  refine (send_full _ p _ 2 _ _ c7 _ (msgS 1 0 0) W7 B7.out (by decide)).mono ?_
  rintro e W8 ⟨rfl, hb8⟩
  have B8 := Lib.hid (B7.out.below hb8)
  have IF8 := Lib.hid (same_f IF7.out (hb8.block _ IF7.out.lt))
  have BW8 : Hid (Below w.heap.size w W8) := Lib.hid (BW7.out.trans (hb8.mono BW7.out.size))
  clear hb8 r20 r21 V27 B7 IF7 BW7
  go_wp2_with fail
  refine (show Calls Try.prog 45 #[.pointer (some ⟨p, 0, none⟩), .int .i64 0] W8 _ from double_full _ p _ 2 _ _ c7 _ 0 (msgS 1 0 0) W8 B8.out rfl (by decide)).mono ?_
  rintro e W9 ⟨rfl, hb9⟩
  have B9 := Lib.hid (B8.out.below hb9)
  have IF9 := Lib.hid (same_f IF8.out (hb9.block _ IF8.out.lt))
  have BW9 : Hid (Below w.heap.size w W9) := Lib.hid (BW8.out.trans (hb9.mono BW8.out.size))
  clear hb9 B8 IF8 BW8
  go_wp2_with fail
  refine (num_any 4 _).mono ?_
  rintro e w9 ⟨rfl, rfl⟩
  go_wp2_with fail
  refine (show Calls Try.prog 48 #[.pointer (some ⟨p, 0, none⟩), .int .i64 0] W9 _ from take_yes _ p _ _ 2 _ _ c7 _ _ 0 (msgS 1 0 0) ad0 ad0 W9 B9.out rfl (sentS 1 ad0) IF9.out).mono ?_
  rintro e W10 ⟨rfl, hB10, hO10⟩
  have B10 := Lib.hid hB10
  have IF10 := Lib.hid (only_isF B9.out hO10 IF9.out)
  have BW10 : Hid (Below w.heap.size w W10) := Lib.hid (BW9.out.trans (hO10.base B9.out))
  clear hB10 hO10 B9 IF9 BW9
  have rz : RoomMsg (W10.alloc (.cells zeroC 73)) W10.heap.size 0 := (Blk.new W10 73 zeroC).there
  unfold zeroC at rz
  have m1 := (nilS 1 0 0).msg
  go_upto_region 8 with (fail)
  refine world_out (fun W11 hW11 => ?_)
  have F11 : Hid (Below W10.heap.size W10 W11 ∧ W11.rangeAt W10.heap.size 0 (msgS 1 0 0).toList ∧ W10.heap.size < W11.heap.size) := Lib.hid (by
    rw [hW11]
    refine ⟨below_setCells ((Below.refl _ _).alloc (Nat.le_refl _) _) _ _ (Nat.le_refl _) _, World.rangeAt_setCells_same _ _ _ (msgS 1 0 0).toList rz, by rw [setCells_size]; simp⟩)
  clear hW11 rz m1
  have B11 := Lib.hid (B10.out.below F11.out.1)
  have IF11 := Lib.hid (same_f IF10.out (F11.out.1.block _ IF10.out.lt))
  have BW11 : Hid (Below w.heap.size w W11) := Lib.hid (BW10.out.trans (F11.out.1.mono BW10.out.size))
  have R4 : Hid (W11.cell? ⟨W10.heap.size, 12, none⟩ = some (.int .i64 1)) := Lib.hid (F11.out.2.1 12 _ rfl)
  have L4 := Lib.hid F11.out.2.2
  obtain ⟨b4, hb4⟩ : ∃ b, b = W10.heap.size := ⟨_, rfl⟩
  rw [← hb4] at R4 L4
  rw [← hb4]
  clear F11 B10 IF10 BW10 hb4 W10
  go_wp2_with fail
  refine (show Calls Try.prog 51 #[.pointer (some ⟨p, 0, none⟩), .int .i64 0] W11 _ from at_yes _ p _ 2 _ _ c7 _ 0 (msgS 2 0 0) W11 B11.out rfl).mono ?_
  rintro e W12 ⟨rfl, hb12⟩
  have B12 := Lib.hid (B11.out.below hb12)
  have IF12 := Lib.hid (same_f IF11.out (hb12.block _ IF11.out.lt))
  have BW12 : Hid (Below w.heap.size w W12) := Lib.hid (BW11.out.trans (hb12.mono BW11.out.size))
  have R412 : Hid (W12.cell? ⟨b4, 12, none⟩ = some (.int .i64 1)) := Lib.hid ((hb12.cell (p := ⟨b4, 12, none⟩) L4.out).trans R4.out)
  have L412 : Hid (b4 < W12.heap.size) := Lib.hid (Nat.lt_of_lt_of_le L4.out hb12.size)
  clear hb12 B11 IF11 BW11 R4 L4
  have rz : RoomMsg (W12.alloc (.cells zeroC 73)) W12.heap.size 0 := (Blk.new W12 73 zeroC).there
  unfold zeroC at rz
  have m1 := (nilS 2 0 0).msg
  go_upto_region 9 with (fail)
  refine world_out (fun W13 hW13 => ?_)
  have F13 : Hid (Below W12.heap.size W12 W13 ∧ W13.rangeAt W12.heap.size 0 (msgS 2 0 0).toList ∧ W12.heap.size < W13.heap.size) := Lib.hid (by
    rw [hW13]
    refine ⟨below_setCells ((Below.refl _ _).alloc (Nat.le_refl _) _) _ _ (Nat.le_refl _) _, World.rangeAt_setCells_same _ _ _ (msgS 2 0 0).toList rz, by rw [setCells_size]; simp⟩)
  clear hW13 rz m1
  have B13 := Lib.hid (B12.out.below F13.out.1)
  have BW13 : Hid (Below w.heap.size w W13) := Lib.hid (BW12.out.trans (F13.out.1.mono BW12.out.size))
  have c4 : W13.cell? ⟨b4, 12, none⟩ = some (.int .i64 1) := (F13.out.1.cell (p := ⟨b4, 12, none⟩) L412.out).trans R412.out
  have c7' : W13.cell? ⟨W12.heap.size, 12, none⟩ = some (.int .i64 2) := F13.out.2.1 12 _ rfl
  clear F13 B12 IF12 BW12 R412 L412
  go_wp2_with fail
  refine (num_any 0 _).mono ?_
  rintro e w13 ⟨rfl, rfl⟩
  go_wp2_with fail
  refine (num_any 0 _).mono ?_
  rintro e w13 ⟨rfl, rfl⟩
  go_wp2_with fail
  refine (show Calls Try.prog 45 #[.pointer (some ⟨p, 0, none⟩), .int .i64 0] W13 _ from double_room _ p _ 2 _ _ c7 _ 0 (msgS 2 0 0) W13 B13.out rfl (by decide)).mono ?_
  rintro e W14 ⟨g14, c14, rfl, hB14, hO14, _⟩
  have B14 := Lib.hid hB14
  have BW14 : Hid (Below w.heap.size w W14) := Lib.hid (BW13.out.trans (hO14.base B13.out))
  clear hB14 hO14 B13 BW13 c4 c7'
  go_wp2_with fail
  refine (num_any 0 _).mono ?_
  rintro e w13 ⟨rfl, rfl⟩
  go_wp2_with fail
  refine (len_any p _ 2 _ _ c14 _ B14.out.blk).mono ?_
  rintro e w13 ⟨rfl, rfl⟩
  go_wp2_with fail
  go_ret
  exact ⟨rfl, BW14.out⟩
end Go.Proofs.Ytmmaolhmhdjldaa.BagS
