/- A bag: At, walked. -/
import Derived.Test.YtmmaolhmhdjldaaBagE
namespace Go.Proofs.Ytmmaolhmhdjldaa.BagS
open Go.RowKit Go.Proofs.Ytmmaolhmhdjldaa.MapF Go.Maps

theorem world_out2 {P : Program} {f : FuncId} {args : Array Value} {w0 : World} {R : Ending → World → Prop} (h : ∀ w, w = w0 → Calls P f args w R) : Calls P f args w0 R := h w0 rfl
theorem BagAt.form {w : World} {base p m : Nat} {most : Int} {A : Option Addr} {n cap : Nat} {L : List (Array Value)} (h : BagAt w base p m most A n cap L) (hn : 0 < n) : ∃ g, A = some ⟨g, 0, none⟩ ∧ n ≤ cap ∧ cap ≤ maxLen ∧ g < w.heap.size ∧ base ≤ g ∧ w.ownsRow base 73 26 (.slice (some ⟨g, 0, none⟩) n cap) n (cellsOf L) := by
  obtain ⟨g, c, hv, hb, hlt⟩ := h.own.form hn
  simp only [Value.slice.injEq, true_and] at hv
  obtain ⟨rfl, rfl⟩ := hv
  have hb := own_bounds h.own
  exact ⟨g, rfl, hb.2.2.1, hb.2.2.2, hb.2.1, hb.1, h.own⟩

theorem zeroMC : MsgC zeroC := ⟨rfl, Array.all_eq_true_iff_forall_mem.2 fun u hu => zeroOne u (by simpa using hu)⟩
/-- A variable that holds a message is read. -/
theorem load_var {w : World} {b : Nat} {C : Array Value} (hs : C.size = 26) (h : w.rangeAt b 0 C.toList) : (loadVar 73 ⟨b, 0, none⟩).run Try.prog w = .ok (.agg C) w := by
  have := run_loadVar_mid (P := Try.prog) w b 0 73 C.toList _ h Try.underlying73 rfl (size26.trans (by rw [Array.length_toList, hs]))
  rwa [Array.toArray_toList] at this

attribute [local go_sem ↓] loadMsg_eq storeMsg_eq buildMsg_eq
attribute [local go_sem] run_loadMsg run_storeMsg run_buildMsg

set_option maxRecDepth 100000 in
set_option maxHeartbeats 2000000 in
theorem at_no (base p m : Nat) (most : Int) (A : Option Addr) (n cap : Nat) (L : List (Array Value)) (i : Int) (w : World) (hB : BagAt w base p m most A n cap L) (hi : ¬ (0 ≤ i ∧ i < (n : Int))) :
    Calls Try.prog 51 #[.pointer (some ⟨p, 0, none⟩), .int .i64 i] w fun e w' => e = .returned (.tuple #[.agg zeroC, .int .i64 2]) ∧ Below w.heap.size w w' := by
  have HI : Hid ((decide (0 ≤ i) && decide (i < (n : Int))) = false) := Lib.hid (by simp; omega)
  have HB := Lib.hid hB
  clear hB hi
  go_enter Try.func51, Try.ntmps51
  go_wp2_with fail
  refine world_out2 (fun W hW => ?_)
  have BW : Hid (Below w.heap.size w W) := Lib.hid (by rw [hW]; exact (Below.refl _ _).alloc (Nat.le_refl _) _)
  have BZ : Hid (∃ Z, Blk W w.heap.size 73 Z ∧ Z.size = 26) := Lib.hid ⟨_, by rw [hW]; exact Blk.new w 73 _, rfl⟩
  clear hW
  refine (has_any p m most A n cap i _ (HB.out.below BW.out).blk).mono ?_
  rintro e w1 ⟨rfl, rfl⟩
  rw [HI.out]
  have rm : RoomMsg W w.heap.size 0 := by
    obtain ⟨Z, hZ, hs⟩ := BZ.out
    have := hZ.there
    rwa [hs] at this
  have hmz := zeroMC
  unfold zeroC at hmz
  go_wp2_with fail
  have hl := load_var (w := W.setCells w.heap.size 0 zeroC.toList) zeroMC.1 (World.rangeAt_setCells_same W _ _ _ (by rw [Array.length_toList, zeroMC.1]; exact rm))
  refine bodyPost_ret (v := .tuple #[.agg zeroC, .int .i64 2]) ?_ rfl ⟨rfl, below_setCells BW.out _ _ (Nat.le_refl _) _⟩
  show Sem.run _ _ (W.setCells w.heap.size 0 zeroC.toList) = _
  simp [results, Try.results51, asAddr, hl]
  rfl

set_option maxRecDepth 100000 in
set_option maxHeartbeats 2000000 in
theorem at_yes (base p m : Nat) (most : Int) (A : Option Addr) (n cap : Nat) (L : List (Array Value)) (i : Nat) (C : Array Value) (w : World) (hB : BagAt w base p m most A n cap L) (hC : L[i]? = some C) :
    Calls Try.prog 51 #[.pointer (some ⟨p, 0, none⟩), .int .i64 i] w fun e w' => e = .returned (.tuple #[.agg C, .int .i64 0]) ∧ Below w.heap.size w w' := by
  have hin : i < n := by rw [← hB.len]; exact (List.getElem?_eq_some_iff.1 hC).1
  have HI : Hid ((decide (0 ≤ (i : Int)) && decide ((i : Int) < (n : Int))) = true) := Lib.hid (by simp; omega)
  have hnil := hB.nil C (List.mem_of_getElem? hC)
  have CP : Hid (∀ W, Calls Try.prog 81 #[.agg C] W fun e w' => e = .returned (.agg C) ∧ Below W.heap.size W w') := Lib.hid (fun W => copied_nil C hnil W)
  obtain ⟨g, rfl, hnc, hcm, hg, _, hown⟩ := hB.form (by omega)
  unfold maxLen at hcm
  have HB := Lib.hid hB
  have HC := Lib.hid hC
  have HN := Lib.hid hnil
  have hmc := hnil.msg
  have i0 : (0 : Int) ≤ (i : Int) := by omega
  have i1 : (i : Int) < (n : Int) := by omega
  clear hB hC hnil hown
  go_enter Try.func51, Try.ntmps51
  go_wp2_with fail
  refine world_out2 (fun W hW => ?_)
  have BW : Hid (Below w.heap.size w W) := Lib.hid (by rw [hW]; exact (Below.refl _ _).alloc (Nat.le_refl _) _)
  have BZ : Hid (∃ Z, Blk W w.heap.size 73 Z ∧ Z.size = 26) := Lib.hid ⟨_, by rw [hW]; exact Blk.new w 73 _, rfl⟩
  clear hW
  refine (has_any p m most (some ⟨g, 0, none⟩) n cap i _ (HB.out.below BW.out).blk).mono ?_
  rintro e w1 ⟨rfl, rfl⟩
  rw [HI.out]
  have hk := (HB.out.below BW.out)
  have q1 : W.cell? ⟨p, 1, none⟩ = some (.slice (some ⟨g, 0, none⟩) n cap) := hk.blk.cell 1
  have r := msgAt_eq HN.out.size (own_range hk.own hk.len hk.all26 HC.out)
  obtain ⟨r0, r1⟩ := r
  clear hk
  go_wp2_with fail
  refine (CP.out _).mono ?_
  rintro e W1 ⟨rfl, hb1⟩
  have HB1 := Lib.hid hb1
  have rm : RoomMsg W1 w.heap.size 0 := by
    obtain ⟨Z, hZ, hs⟩ := BZ.out
    have := (hZ.below HB1.out hZ.lt).there
    rwa [hs] at this
  clear hb1
  go_wp2_with fail
  have hl := load_var (w := W1.setCells w.heap.size 0 C.toList) HN.out.size (World.rangeAt_setCells_same W1 _ _ _ (by rw [Array.length_toList, HN.out.size]; exact rm))
  refine bodyPost_ret (v := .tuple #[.agg C, .int .i64 0]) (by simp [results, Try.results51, asAddr, hl]) rfl ⟨rfl, below_setCells (BW.out.trans (HB1.out.mono BW.out.size)) _ _ (Nat.le_refl _) _⟩
end Go.Proofs.Ytmmaolhmhdjldaa.BagS
