/- A bag: Take, walked. -/
import Derived.Test.YtmmaolhmhdjldaaBagF
import Derived.Deep.Cut
namespace Go.Proofs.Ytmmaolhmhdjldaa.BagS
open Go.RowKit Go.Proofs.Ytmmaolhmhdjldaa.MapF Go.Maps

attribute [local go_sem ↓] loadMsg_eq storeMsg_eq buildMsg_eq
attribute [local go_sem] run_loadMsg run_storeMsg run_buildMsg

set_option maxRecDepth 100000 in
set_option maxHeartbeats 2000000 in
theorem take_no (base p m : Nat) (most : Int) (A : Option Addr) (n cap : Nat) (L : List (Array Value)) (i : Int) (w : World) (hB : BagAt w base p m most A n cap L) (hi : ¬ (0 ≤ i ∧ i < (n : Int))) :
    Calls Try.prog 48 #[.pointer (some ⟨p, 0, none⟩), .int .i64 i] w fun e w' => e = .returned (.tuple #[.agg zeroC, .bool false, .int .i64 2]) ∧ Below w.heap.size w w' := by
  have HI : Hid ((decide (0 ≤ i) && decide (i < (n : Int))) = false) := Lib.hid (by simp; omega)
  have HB := Lib.hid hB
  clear hB hi
  go_enter Try.func48, Try.ntmps48
  go_wp2_with fail
  refine world_out2 (fun W hW => ?_)
  have BW : Hid (Below w.heap.size w W) := Lib.hid (by rw [hW]; exact (Below.refl _ _).alloc (Nat.le_refl _) _)
  have BZ : Hid (∃ Z, Blk W w.heap.size 73 Z ∧ Z.size = 26) := Lib.hid ⟨_, by rw [hW]; exact Blk.new w 73 _, rfl⟩
  clear hW
  refine (has_any p m most A n cap i _ (HB.out.below BW.out).blk).mono ?_
  rintro e w1 ⟨rfl, rfl⟩
  rw [HI.out]
  have rm : RoomMsg W w.heap.size 0 := by
    obtain ⟨Z, hZ, hs⟩ := BZ.out
    have := hZ.there
    rwa [hs] at this
  have hmz := zeroMC
  unfold zeroC at hmz
  go_wp2_with fail
  have hl := load_var (w := W.setCells w.heap.size 0 zeroC.toList) zeroMC.1 (World.rangeAt_setCells_same W _ _ _ (by rw [Array.length_toList, zeroMC.1]; exact rm))
  refine bodyPost_ret (v := .tuple #[.agg zeroC, .bool false, .int .i64 2]) ?_ rfl ⟨rfl, below_setCells BW.out _ _ (Nat.le_refl _) _⟩
  show Sem.run _ _ (W.setCells w.heap.size 0 zeroC.toList) = _
  simp [results, Try.results48, asAddr, hl]
  rfl

/-- What Take leaves of a bag. -/
theorem take_fin {w W W4 : World} {base p m g n cap i : Nat} {most : Int} {L : List (Array Value)} (hB : BagAt w base p m most (some ⟨g, 0, none⟩) n cap L) (hw : Below w.heap.size w W) (hi : i < n)
    (hO : W4.ownsRow base 73 26 (.slice (some ⟨g, 0, none⟩) (n - 1) cap) (n - 1) (cellsOf (L.eraseIdx i))) (hG : W.grownBy W4 (some g)) :
    BagAt (W4.setCell ⟨p, 1, none⟩ (.slice (some ⟨g, 0, none⟩) (n - 1) cap)) base p m most (some ⟨g, 0, none⟩) (n - 1) cap (L.eraseIdx i) ∧ Only w (W4.setCell ⟨p, 1, none⟩ (.slice (some ⟨g, 0, none⟩) (n - 1) cap)) p (some ⟨g, 0, none⟩) := by
  have b2 := hB.below hw
  have hne : (Value.slice (some ⟨g, 0, none⟩) n cap).ownBlock ≠ some p := own_blk_ne hB.own hB.blk (by decide)
  have hgp : g ≠ p := fun e => hne (by rw [e]; rfl)
  have blk4 : Blk W4 p 149 #[.int .i64 most, .slice (some ⟨g, 0, none⟩) n cap, .map (some m)] := b2.blk.grown hG (fun e => hgp (by injection e with e; exact e.symm))
  have hs := hG.size
  have hs1 := hw.size
  have h4 : ∀ u, (W4.setCell ⟨p, 1, none⟩ u).heap.size = W4.heap.size := fun u => by simp [World.setCell]
  have hl := hB.len
  refine ⟨⟨blk4.set_ 1 _, ?_, by rw [List.length_eraseIdx, if_pos (by omega), hl], fun C hC => hB.nil C (List.mem_of_mem_eraseIdx hC), hB.hp, ?_, by have := hB.hn; omega, hB.hm⟩, ⟨hG.os.trans hw.os, hG.tape.trans hw.tape, hG.output.trans hw.output, ?_, ?_⟩⟩
  · exact hO.kept (row := some p) ⟨rfl, rfl, rfl, by simp [World.setCell], fun j _ hj => Below.heap_setCell _ _ _ _ (fun e => hj (by rw [e]))⟩ (.inr (fun e => hgp (by simpa [Value.ownBlock] using e)))
  · rw [h4]; have := hB.hb; omega
  · rw [h4]; omega
  · intro j hj hjp hA
    have e1 : (W4.setCell ⟨p, 1, none⟩ (.slice (some ⟨g, 0, none⟩) (n - 1) cap)).heap[j]? = W4.heap[j]? := Below.heap_setCell _ _ _ _ hjp
    rw [e1, hG.block j (by omega) (fun e => hA _ rfl (by injection e with e; exact e.symm))]
    exact hw.block j hj

theorem only_isF {w w' : World} {base p m k : Nat} {most : Int} {A : Option Addr} {n cap : Nat} {L : List (Array Value)} {f : Ad → Option Unit} (hB : BagAt w base p m most A n cap L) (hO : Only w w' p A) (hf : IsF adMap w m k f) : IsF adMap w' m k f := by
  refine same_f hf (hO.block m hf.lt ?_ ?_)
  · rintro rfl
    obtain ⟨D, ⟨es, clock, e1, _⟩, _⟩ := hf
    have := hB.blk
    unfold Blk at this
    rw [this] at e1
    cases e1
  · rintro a rfl rfl
    obtain ⟨D, ⟨es, clock, e1, _⟩, _⟩ := hf
    rcases hB.own.2 with ⟨h', _⟩ | ⟨g', cap', cur, h', _, hg, _⟩
    · cases h'
    · simp only [Value.slice.injEq, Option.some.injEq, true_and] at h'
      obtain ⟨rfl, _⟩ := h'
      rw [hg] at e1
      cases e1
theorem setCells_heap {g i : Nat} (h : i ≠ g) : ∀ (l : List Value) (w : World) (o : Nat), (w.setCells g o l).heap[i]? = w.heap[i]?
  | [], _, _ => rfl
  | u :: r, w, o => (setCells_heap h r (w.setCell ⟨g, o, none⟩ u) (o + 1)).trans (Below.heap_setCell w ⟨g, o, none⟩ u i h)
theorem setCells_size {g : Nat} : ∀ (l : List Value) (w : World) (o : Nat), (w.setCells g o l).heap.size = w.heap.size
  | [], _, _ => rfl
  | u :: r, w, o => (setCells_size r (w.setCell ⟨g, o, none⟩ u) (o + 1)).trans (by simp [World.setCell])
theorem setCells_os {g : Nat} : ∀ (l : List Value) (w : World) (o : Nat), (w.setCells g o l).os = w.os ∧ (w.setCells g o l).tape = w.tape ∧ (w.setCells g o l).output = w.output
  | [], _, _ => ⟨rfl, rfl, rfl⟩
  | u :: r, w, o => setCells_os r (w.setCell ⟨g, o, none⟩ u) (o + 1)
/-- A bag where other blocks have turned. -/
theorem BagAt.far {w w' : World} {base p m : Nat} {most : Int} {A : Option Addr} {n cap : Nat} {L : List (Array Value)} (h : BagAt w base p m most A n cap L) (hs : w.heap.size ≤ w'.heap.size) (hp : w'.heap[p]? = w.heap[p]?) (hA : ∀ a, A = some a → w'.heap[a.block]? = w.heap[a.block]?) : BagAt w' base p m most A n cap L := by
  refine ⟨hp.trans h.blk, ⟨h.own.1, ?_⟩, h.len, h.nil, h.hp, Nat.le_trans h.hb hs, h.hn, h.hm⟩
  rcases h.own.2 with h0 | ⟨g, c, cur, h1, h2, h3, h4⟩
  · exact .inl h0
  · simp only [Value.slice.injEq, true_and] at h1
    obtain ⟨rfl, rfl⟩ := h1
    exact .inr ⟨g, _, cur, rfl, h2, (hA _ rfl).trans h3, h4⟩
theorem bag_setCells {w : World} {base p m : Nat} {most : Int} {A : Option Addr} {n cap : Nat} {L : List (Array Value)} (h : BagAt w base p m most A n cap L) (c o : Nat) (hp : p ≠ c) (hA : ∀ a, A = some a → a.block ≠ c) (l : List Value) : BagAt (w.setCells c o l) base p m most A n cap L :=
  h.far (Nat.le_of_eq (setCells_size l w o).symm) (setCells_heap hp l w o) (fun a ha => setCells_heap (hA a ha) l w o)
theorem only_setCells {w w' : World} {p : Nat} {A : Option Addr} (h : Only w w' p A) (c o : Nat) (hc : w.heap.size ≤ c) (l : List Value) : Only w (w'.setCells c o l) p A := by
  obtain ⟨a1, a2, a3⟩ := setCells_os l w' o (g := c)
  exact ⟨a1.trans h.os, a2.trans h.tape, a3.trans h.output, by rw [setCells_size]; exact h.size, fun i hi hp hA => (setCells_heap (by omega) l w' o).trans (h.block i hi hp hA)⟩
/-- What Take's end reads and writes. -/
def TakeS (v : World) (b c : Nat) (C : Array Value) : Prop := HasMsg v b 0 ∧ msgAt v b 0 = C ∧ RoomMsg v c 0
theorem there_below {w w' : World} {b o n : Nat} (h : w.there b o n) (hB : Below w.heap.size w w') : w'.there b o n := fun j hj => by
  obtain ⟨h1, h2⟩ := h j hj
  obtain ⟨u, hu⟩ := Option.isSome_iff_exists.1 h1
  have hb := World.block_lt_of_cell? w _ hu
  exact ⟨by rw [hB.cell (p := ⟨b, o + j, none⟩) hb]; exact h1, by rw [hB.frozen (p := ⟨b, o + j, none⟩) hb]; exact h2⟩
theorem TakeS.below {w w' : World} {b c : Nat} {C : Array Value} (h : TakeS w b c C) (hC : C.size = 26) (hB : Below w.heap.size w w') : TakeS w' b c C := by
  have hr := (hasMsg_range h.1).2
  rw [h.2.1] at hr
  have := msgAt_eq hC (range_below hr hB)
  exact ⟨this.1, this.2, there_below h.2.2 hB⟩
theorem TakeS.set {w : World} {b c : Nat} {C : Array Value} (h : TakeS w b c C) (hC : C.size = 26) (hbc : b ≠ c) (l : List Value) : TakeS (w.setCells c 0 l) b c C := by
  have hr := (hasMsg_range h.1).2
  rw [h.2.1] at hr
  have := msgAt_eq hC (World.rangeAt_setCells_apart hr c 0 l (.inl hbc))
  exact ⟨this.1, this.2, World.there_setCells h.2.2 c 0 l⟩

set_option maxRecDepth 100000 in
set_option maxHeartbeats 2000000 in
theorem take_yes (base p m k : Nat) (most : Int) (A : Option Addr) (n cap : Nat) (L : List (Array Value)) (f : Ad → Option Unit) (i : Nat) (C : Array Value) (x y : Ad) (w : World) (hB : BagAt w base p m most A n cap L) (hC : L[i]? = some C) (hS : Sent C x y) (hf : IsF adMap w m k f) :
    Calls Try.prog 48 #[.pointer (some ⟨p, 0, none⟩), .int .i64 i] w fun e w' => e = .returned (.tuple #[.agg C, .bool (!(f x).isSome && !(f y).isSome), .int .i64 0]) ∧ BagAt w' base p m most A (n - 1) cap (L.eraseIdx i) ∧ Only w w' p A := by
  have hin : i < n := by rw [← hB.len]; exact (List.getElem?_eq_some_iff.1 hC).1
  have HI : Hid ((decide (0 ≤ (i : Int)) && decide ((i : Int) < (n : Int))) = true) := Lib.hid (by simp; omega)
  have hnil := hB.nil C (List.mem_of_getElem? hC)
  obtain ⟨g, rfl, hnc, hcm, hg, _, hown⟩ := hB.form (by omega)
  unfold maxLen at hcm
  have HB := Lib.hid hB
  have HC := Lib.hid hC
  have HN := Lib.hid hnil
  have HS := Lib.hid hS
  have HF := Lib.hid hf
  have hmc := hnil.msg
  have hn256 : n ≤ 256 := by have := hB.hm; have := hB.hn; omega
  have i0 : (0 : Int) ≤ (i : Int) := by omega
  have i1 : (i : Int) < (n : Int) := by omega
  clear hB hC hnil hown hS hf
  go_enter Try.func48, Try.ntmps48
  go_wp2_with fail
  refine world_out2 (fun W hW => ?_)
  have BW : Hid (Below w.heap.size w W) := Lib.hid (by rw [hW]; exact (Below.refl _ _).alloc (Nat.le_refl _) _)
  have BZ : Hid (∃ Z, Blk W w.heap.size 73 Z ∧ Z.size = 26) := Lib.hid ⟨_, by rw [hW]; exact Blk.new w 73 _, rfl⟩
  clear hW
  refine (has_any p m most (some ⟨g, 0, none⟩) n cap i _ (HB.out.below BW.out).blk).mono ?_
  rintro e w1 ⟨rfl, rfl⟩
  rw [HI.out]
  have hk := (HB.out.below BW.out)
  have q1 : W.cell? ⟨p, 1, none⟩ = some (.slice (some ⟨g, 0, none⟩) n cap) := hk.blk.cell 1
  have r := msgAt_eq HN.out.size (own_range hk.own hk.len hk.all26 HC.out)
  obtain ⟨r0, r1⟩ := r
  clear hk
  have rz : RoomMsg (W.alloc (.cells zeroC 73)) W.heap.size 0 := (Blk.new W 73 zeroC).there
  unfold zeroC at rz
  go_upto_region 4 with (fail)
  refine world_out (fun W2 hW2 => ?_)
  have hmr : (zeroC.toList.length = 26) := rfl
  have BW2 : Hid (Below W.heap.size W W2) := Lib.hid (by rw [hW2]; exact below_setCells ((Below.refl _ _).alloc (Nat.le_refl _) _) _ _ (Nat.le_refl _) _)
  have R7 : Hid (W2.rangeAt W.heap.size 0 C.toList) := Lib.hid (by rw [hW2]; exact World.rangeAt_setCells_same _ _ _ _ (by rw [Array.length_toList, HN.out.size]; exact rz))
  clear hW2 rz r0 r1 hmr
  have q2 : W2.cell? ⟨p, 1, none⟩ = some (.slice (some ⟨g, 0, none⟩) n cap) := ((HB.out.below BW.out).below BW2.out).blk.cell 1
  have hw1 : IntKind.i64.wrap ((i : Int) + 1) = (i : Int) + 1 := IntWalk.i64_in _ (by omega)
  go_wp2_with fail
  have B2 : Hid (BagAt W2 base p m most (some ⟨g, 0, none⟩) n cap L) := Lib.hid ((HB.out.below BW.out).below BW2.out)
  have BW02 : Hid (Below w.heap.size w W2) := Lib.hid (BW.out.trans (BW2.out.mono BW.out.size))
  refine (delete_any W2 base g n cap L i B2.out.own B2.out.len B2.out.all26 (fun D hD => (B2.out.nil D hD).one) hin).mono ?_
  rintro e W4 ⟨rfl, hO, hG⟩
  have FIN := Lib.hid (take_fin HB.out BW02.out hin hO hG)
  have hgp : g ≠ p := fun e => own_blk_ne HB.out.own HB.out.blk (by decide) (by rw [e]; rfl)
  have hp : p < W.heap.size := Nat.lt_of_lt_of_le HB.out.blk.lt BW.out.size
  have hgW : g < W.heap.size := Nat.lt_of_lt_of_le hg BW.out.size
  have hWW : W.heap.size < W2.heap.size := World.block_lt_of_cell? W2 ⟨W.heap.size, 0 + 10, none⟩ (R7.out 10 _ (by rw [Array.getElem?_toList]; exact HN.out.n10))
  have hwW : w.heap.size < W.heap.size := by obtain ⟨Z, hZ, _⟩ := BZ.out; exact hZ.lt
  have b4 : Blk W4 p 149 #[.int .i64 most, .slice (some ⟨g, 0, none⟩) n cap, .map (some m)] := B2.out.blk.grown hG (fun e => hgp (by injection e with e; exact e.symm))
  have q4 : W4.cell? ⟨p, 1, none⟩ = some (.slice (some ⟨g, 0, none⟩) n cap) := b4.cell 1
  have f4 : W4.frozen? ⟨p, 1, none⟩ = false := b4.frozen 1
  have R74 : Hid (W4.rangeAt W.heap.size 0 C.toList) := Lib.hid (range_grown R7.out hG (fun e => by injection e; omega))
  have Z4 : Hid (∃ Z, Blk W4 w.heap.size 73 Z ∧ Z.size = 26) := Lib.hid (by
    obtain ⟨Z, hZ, hz⟩ := BZ.out
    exact ⟨Z, (hZ.below BW2.out hZ.lt).grown hG (fun e => by injection e; omega), hz⟩)
  clear hO hG b4 q1 q2 hw1
  go_wp2_with fail
  refine world_out (fun W5 hW5 => ?_)
  have F5 : Hid (BagAt W5 base p m most (some ⟨g, 0, none⟩) (n - 1) cap (L.eraseIdx i) ∧ Only w W5 p (some ⟨g, 0, none⟩)) := Lib.hid (by rw [hW5]; exact FIN.out)
  have R75 : Hid (W5.rangeAt W.heap.size 0 C.toList) := Lib.hid (by
    rw [hW5]
    intro j v hv
    rw [World.cell?_setCell_other _ _ _ _ (fun e => by injection e; omega)]
    exact R74.out j v hv)
  have Z5 : Hid (RoomMsg W5 w.heap.size 0) := Lib.hid (by
    obtain ⟨Z, hZ, hz⟩ := Z4.out
    have h := (hZ.far (p := ⟨p, 1, none⟩) (by have := HB.out.blk.lt; show w.heap.size ≠ p; omega) (.slice (some ⟨g, 0, none⟩) (n - 1) cap)).there
    rw [hz] at h
    rw [hW5]
    exact h)
  clear hW5 q4 f4 FIN R74 Z4
  have AR := Lib.hid (arrives_any p m k most (some ⟨g, 0, none⟩) (n - 1) cap f C x y W5.drew (bag_drew F5.out.1 1).blk HS.out (same_f (only_isF HB.out F5.out.2 HF.out) rfl))
  have S0 : Hid (TakeS W5.drew W.heap.size w.heap.size C) := Lib.hid ⟨(msgAt_eq HN.out.size R75.out).1, (msgAt_eq HN.out.size R75.out).2, Z5.out⟩
  go_region_held3 (fun v => HasMsg v W.heap.size 0 ∧ msgAt v W.heap.size 0 = C ∧ RoomMsg v w.heap.size 0)
    (first
      | exact S0.out
      | exact S1.out
      | exact S2.out)
    (first
      | (go_at_call 84; refine AR.out.mono ?_; rintro e W6 ⟨rfl, hb0⟩
         have S1 : Hid (TakeS W6 W.heap.size w.heap.size C) := Lib.hid (S0.out.below HN.out.size hb0)
         have S2 : Hid (TakeS (W6.setCells w.heap.size 0 C.toList) W.heap.size w.heap.size C) := Lib.hid (S1.out.set HN.out.size (by omega) _)
         have HB0 := Lib.hid hb0
         clear hb0))
  go_wp2_with fail
  have rm := S1.out.2.2
  have hl := load_var (w := W6.setCells w.heap.size 0 C.toList) HN.out.size (World.rangeAt_setCells_same W6 _ _ _ (by rw [Array.length_toList, HN.out.size]; exact rm))
  have B6 : BagAt W6 base p m most (some ⟨g, 0, none⟩) (n - 1) cap (L.eraseIdx i) := (bag_drew F5.out.1 1).below HB0.out
  have O6 : Only w W6 p (some ⟨g, 0, none⟩) := F5.out.2.trans (Only.ofBelow p none ⟨HB0.out.os, HB0.out.tape, HB0.out.output, HB0.out.size, HB0.out.block⟩) (fun z hz => nomatch hz)
  refine bodyPost_ret (v := .tuple #[.agg C, .bool (!(f x).isSome && !(f y).isSome), .int .i64 0]) (by simp [results, Try.results48, asAddr, hl]) rfl ⟨rfl, ?_, ?_⟩
  · exact bag_setCells B6 _ _ (by have := HB.out.blk.lt; omega) (fun a ha => by cases ha; show g ≠ w.heap.size; omega) _
  · exact only_setCells O6 _ _ (Nat.le_refl _) _
end Go.Proofs.Ytmmaolhmhdjldaa.BagS
