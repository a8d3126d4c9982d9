/- aimed, walked. -/
import Derived.Test.YtpaihfdmjkfegaaCpB
import Derived.Deep.Cut
import Derived.Deep.RegionLaw
namespace Go.Proofs.Ytpaihfdmjkfegaa.Cl
open Go.RowKit Go.Proofs.Ytpaihfdmjkfegaa.Msg Go.Proofs.Ytpaihfdmjkfegaa.Cls

attribute [local go_sem ↓] loadMsg_eq storeMsg_eq buildMsg_eq
attribute [local go_sem] run_loadMsg run_storeMsg run_buildMsg

theorem cloneW_nil (w : World) : Calls Try.prog 46 #[.slice none 0 0] w fun e w' => e = .returned (.slice none 0 0) ∧ w' = w := by
  have hne := fun w => Lib.run_eql_slice_nil (P := Try.prog) w 53 63 none 0 0 0 0 Try.underlying53
  simp only [Option.isNone_none] at hne
  go_enter Try.func46, Try.ntmps46
  go_wp2
  go_ret
  exact ⟨rfl, rfl⟩
theorem cloneI_nil (w : World) : Calls Try.prog 47 #[.slice none 0 0] w fun e w' => e = .returned (.slice none 0 0) ∧ w' = w := by
  have hne := fun w => Lib.run_eql_slice_nil (P := Try.prog) w 23 3 none 0 0 0 0 Try.underlying23
  simp only [Option.isNone_none] at hne
  go_enter Try.func47, Try.ntmps47
  go_wp2
  go_ret
  exact ⟨rfl, rfl⟩

theorem room_new (w : World) (Z : Array Value) (h : Z.size = 26) : RoomMsg (w.alloc (.cells Z 55)) w.heap.size 0 := by
  have := (Blk.new w 55 Z).there
  rw [h] at this
  exact this

theorem load_var {w : World} {b : Nat} {C : Array Value} (hs : C.size = 26) (h : w.rangeAt b 0 C.toList) : (loadVar 55 ⟨b, 0, none⟩).run Try.prog w = .ok (.agg C) w := by
  have := run_loadVar_mid (P := Try.prog) w b 0 55 C.toList _ h Try.underlying55 rfl (size26.trans (by rw [Array.length_toList, hs]))
  rwa [Array.toArray_toList] at this
theorem blk_fill {w : World} {g : Nat} {t : TypeId} {Z C : Array Value} (h : Blk w g t Z) (hs : Z.size = C.size) : Blk (w.setCells g 0 C.toList) g t C := by
  have := blk_sets C.toList 0 h
  rw [over_eq _ _ _ (by simp [hs])] at this
  rw [List.drop_eq_nil_of_le (by simp [hs])] at this
  simpa using this
theorem blk_has {w : World} {g : Nat} {C : Array Value} (h : Blk w g 55 C) (hs : C.size = 26) : HasMsg w g 0 ∧ msgAt w g 0 = C := msgAt_eq hs h.range
theorem blk_room {w : World} {g : Nat} {C : Array Value} (h : Blk w g 55 C) (hs : C.size = 26) : RoomMsg w g 0 := by
  have := h.there
  rw [hs] at this
  exact this
theorem msgC_set {C : Array Value} (h : MsgC C) (i : Nat) {u : Value} (hu : u.oneCell' = true) : MsgC (C.setIfInBounds i u) := by
  refine ⟨by rw [Array.size_setIfInBounds]; exact h.1, ?_⟩
  have h2 := h.2
  rw [Array.all_eq_true] at h2 ⊢
  intro j hj
  rw [Array.size_setIfInBounds] at hj
  rw [Array.getElem_setIfInBounds]
  split
  · exact hu
  · exact h2 j hj

theorem set_self {C : Array Value} {i : Nat} {u : Value} (h : C[i]? = some u) : C.setIfInBounds i u = C := by
  apply Array.ext_getElem?
  intro j
  rw [Array.getElem?_setIfInBounds]
  split
  · rename_i e
    subst e
    rw [h, if_pos (Array.getElem?_eq_some_iff.1 h).1]
  · rfl

def aimedM (M : Array Value) (k node : Int) : Array Value := (M.setIfInBounds 3 (.int .i64 k)).setIfInBounds 4 (.int .i64 node)

set_option maxRecDepth 100000 in
set_option maxHeartbeats 2000000 in
theorem aimed_any (p : Nat) (c : Client) (gb go n cap k : Nat) (node : Int) (w : World) (hC : ClAt w p c) (hg : c.vg = .slice (some ⟨gb, go, none⟩) n cap) (hk : c.grp = (k : Int)) (hkn : k < n)
    (hc : w.cell? ⟨gb, go + k, none⟩ = some (.int .i64 node)) (h18 : c.M[18]? = some (.slice none 0 0)) (h19 : c.M[19]? = some (.slice none 0 0)) :
    Calls Try.prog 30 #[.pointer (some ⟨p, 0, none⟩)] w fun e w' => e = .returned (.agg (aimedM c.M k node)) ∧ Below w.heap.size w w' := by
  have HC := Lib.hid hC
  have hp := hC.blk.lt
  have H18 := Lib.hid h18
  have H19 := Lib.hid h19
  have kn : (k : Int) < (n : Int) := by omega
  have HX := Lib.hid hc
  have gbl : gb < w.heap.size := World.block_lt_of_cell? w _ hc
  clear hC h18 h19 hc
  go_enter Try.func30, Try.ntmps30
  go_upto_region 1 with (fail)
  refine world_out (fun W hW => ?_)
  have BW : Hid (Below w.heap.size w W) := Lib.hid (by rw [hW]; exact (Below.refl _ _).alloc (Nat.le_refl _) _)
  have BZ : Hid (∃ Z, Blk W w.heap.size 55 Z ∧ Z.size = 26) := Lib.hid ⟨_, by rw [hW]; exact Blk.new w 55 _, rfl⟩
  have C1 := Lib.hid (HC.out.below BW.out hp)
  obtain ⟨hh, hm⟩ := C1.out.has
  have mc := C1.out.msg
  have rm := room_new W zeroC rfl
  unfold zeroC at rm
  clear hW
  go_upto_region 2 with (fail)
  refine world_out (fun W2 hW2 => ?_)
  have BW2 : Hid (Below W.heap.size W W2) := Lib.hid (by rw [hW2]; exact below_setCells ((Below.refl _ _).alloc (Nat.le_refl _) _) _ _ (Nat.le_refl _) _)
  have B1 : Hid (Blk W2 W.heap.size 55 c.M) := Lib.hid (by rw [hW2]; exact blk_fill (Blk.new W 55 _) mc.1.symm)
  have Z0 : Hid (∃ Z, Blk W2 w.heap.size 55 Z ∧ Z.size = 26) := Lib.hid (by obtain ⟨Z, h1, h2⟩ := BZ.out; exact ⟨Z, h1.below BW2.out h1.lt, h2⟩)
  have C2 := Lib.hid (C1.out.below BW2.out (by have := BW.out.size; omega))
  have BA : Hid (Below w.heap.size w W2) := Lib.hid (BW.out.trans (BW2.out.mono BW.out.size))
  have hb01 : w.heap.size < W.heap.size := by obtain ⟨Z, h1, h2⟩ := BZ.out; exact h1.lt
  have X2 : W2.cell? ⟨gb, go + k, none⟩ = some (.int .i64 node) := (BA.out.cell (p := ⟨gb, go + k, none⟩) gbl).trans HX.out
  clear hW2 hh hm rm BW2 C1 BW BZ
  have hpb : p ≠ W.heap.size := by omega
  have hgb : gb ≠ W.heap.size := by omega
  generalize W.heap.size = b1 at *
  have g2 := C2.out.grp
  have v2 := C2.out.vg
  rw [hk] at g2
  rw [hg] at v2
  obtain ⟨u3, n3⟩ : ∃ u, W2.cell? ⟨b1, 3, none⟩ = some u := ⟨_, by rw [B1.out.cell, Array.getElem?_eq_getElem (by rw [mc.1]; decide)]⟩
  obtain ⟨u4, n4⟩ : ∃ u, W2.cell? ⟨b1, 4, none⟩ = some u := ⟨_, by rw [B1.out.cell, Array.getElem?_eq_getElem (by rw [mc.1]; decide)]⟩
  have f3 := B1.out.frozen 3
  have f4 := B1.out.frozen 4
  have S1 : Hid (W2.cell? ⟨p, 10, none⟩ = some (.int .i64 (k : Int)) ∧ W2.cell? ⟨p, 4, none⟩ = some (.slice (some ⟨gb, go, none⟩) n cap) ∧ W2.cell? ⟨gb, go + k, none⟩ = some (.int .i64 node)) := Lib.hid ⟨g2, v2, X2⟩
  have S2 : Hid (((W2.setCell ⟨b1, 3, none⟩ (.int .i64 (k : Int))).setCell ⟨b1, 4, none⟩ (.int .i64 node)).cell? ⟨p, 10, none⟩ = some (.int .i64 (k : Int)) ∧ ((W2.setCell ⟨b1, 3, none⟩ (.int .i64 (k : Int))).setCell ⟨b1, 4, none⟩ (.int .i64 node)).cell? ⟨p, 4, none⟩ = some (.slice (some ⟨gb, go, none⟩) n cap) ∧ ((W2.setCell ⟨b1, 3, none⟩ (.int .i64 (k : Int))).setCell ⟨b1, 4, none⟩ (.int .i64 node)).cell? ⟨gb, go + k, none⟩ = some (.int .i64 node)) := Lib.hid (by
    refine ⟨?_, ?_, ?_⟩
    · rw [World.cell?_setCell_other _ _ _ _ (fun e => by injection e; omega), World.cell?_setCell_other _ _ _ _ (fun e => by injection e; omega)]; exact g2
    · rw [World.cell?_setCell_other _ _ _ _ (fun e => by injection e; omega), World.cell?_setCell_other _ _ _ _ (fun e => by injection e; omega)]; exact v2
    · rw [World.cell?_setCell_other _ _ _ _ (fun e => by injection e; omega), World.cell?_setCell_other _ _ _ _ (fun e => by injection e; omega)]; exact X2)
  go_region_held3 (fun v => v.cell? ⟨p, 10, none⟩ = some (.int .i64 (k : Int)) ∧ v.cell? ⟨p, 4, none⟩ = some (.slice (some ⟨gb, go, none⟩) n cap) ∧ v.cell? ⟨gb, go + k, none⟩ = some (.int .i64 node)) (first | exact S1.out | exact S2.out) (fail)
  clear S1 S2
  go_upto_region 3 with (fail)
  refine world_out (fun W3 hW3 => ?_)
  have B3 : Hid (Blk W3 b1 55 (aimedM c.M k node)) := Lib.hid (by rw [hW3]; exact (B1.out.set_ 3 _).set_ 4 _)
  have Z3 : Hid (∃ Z, Blk W3 w.heap.size 55 Z ∧ Z.size = 26) := Lib.hid (by obtain ⟨Z, h1, h2⟩ := Z0.out; rw [hW3]; exact ⟨Z, (h1.far (p := ⟨b1, 3, none⟩) (Nat.ne_of_lt hb01) _).far (p := ⟨b1, 4, none⟩) (Nat.ne_of_lt hb01) _, h2⟩)
  have BA3 : Hid (Below w.heap.size w W3) := Lib.hid (by rw [hW3]; exact ((BA.out.setCell (p := ⟨b1, 3, none⟩) (Nat.le_of_lt hb01) _).setCell (p := ⟨b1, 4, none⟩) (Nat.le_of_lt hb01) _).drew)
  have MA : Hid (MsgC (aimedM c.M k node)) := Lib.hid (msgC_set (msgC_set mc 3 rfl) 4 rfl)
  have a18 : W3.cell? ⟨b1, 18, none⟩ = some (.slice none 0 0) := by
    rw [B3.out.cell]
    unfold aimedM
    rw [Array.getElem?_setIfInBounds_ne (by decide), Array.getElem?_setIfInBounds_ne (by decide)]
    exact H18.out
  have a19 : W3.cell? ⟨b1, 19, none⟩ = some (.slice none 0 0) := by
    rw [B3.out.cell]
    unfold aimedM
    rw [Array.getElem?_setIfInBounds_ne (by decide), Array.getElem?_setIfInBounds_ne (by decide)]
    exact H19.out
  have f18 := B3.out.frozen 18
  have f19 := B3.out.frozen 19
  clear hW3 B1 Z0 BA C2 X2 n3 n4 f3 f4 g2 v2 mc hg hk
  have S1 : Hid (W3.cell? ⟨b1, 18, none⟩ = some (.slice none 0 0) ∧ W3.cell? ⟨b1, 19, none⟩ = some (.slice none 0 0)) := Lib.hid ⟨a18, a19⟩
  have S2 : Hid ((W3.setCell ⟨b1, 18, none⟩ (.slice none 0 0)).cell? ⟨b1, 18, none⟩ = some (.slice none 0 0) ∧ (W3.setCell ⟨b1, 18, none⟩ (.slice none 0 0)).cell? ⟨b1, 19, none⟩ = some (.slice none 0 0)) := Lib.hid
    ⟨World.cell?_setCell_same _ _ _ a18, by rw [World.cell?_setCell_other _ _ _ _ (fun e => by injection e; omega)]; exact a19⟩
  have S3 : Hid (((W3.setCell ⟨b1, 18, none⟩ (.slice none 0 0)).setCell ⟨b1, 19, none⟩ (.slice none 0 0)).cell? ⟨b1, 18, none⟩ = some (.slice none 0 0) ∧ ((W3.setCell ⟨b1, 18, none⟩ (.slice none 0 0)).setCell ⟨b1, 19, none⟩ (.slice none 0 0)).cell? ⟨b1, 19, none⟩ = some (.slice none 0 0)) := Lib.hid
    ⟨by rw [World.cell?_setCell_other _ _ _ _ (fun e => by injection e; omega)]; exact S2.out.1, World.cell?_setCell_same _ _ _ S2.out.2⟩
  go_region_held3 (fun v => v.cell? ⟨b1, 18, none⟩ = some (.slice none 0 0) ∧ v.cell? ⟨b1, 19, none⟩ = some (.slice none 0 0)) (first | exact S1.out | exact S2.out | exact S3.out) (first
    | (go_at_call 46; refine (cloneW_nil _).mono ?_; rintro e w4 ⟨rfl, rfl⟩)
    | (go_at_call 47; refine (cloneI_nil _).mono ?_; rintro e w4 ⟨rfl, rfl⟩))
  go_upto_region 4 with (fail)
  refine world_out (fun W4 hW4 => ?_)
  have B4 : Hid (Blk W4 b1 55 (aimedM c.M k node)) := Lib.hid (by
    have e18 : (aimedM c.M k node)[18]? = some (.slice none 0 0) := by rw [← B3.out.cell]; exact S1.out.1
    have e19 : (aimedM c.M k node)[19]? = some (.slice none 0 0) := by rw [← B3.out.cell]; exact S1.out.2
    have := (B3.out.set_ 18 (.slice none 0 0)).set_ 19 (.slice none 0 0)
    rw [set_self e18, set_self e19] at this
    rw [hW4]
    exact this)
  have Z4 : Hid (∃ Z, Blk W4 w.heap.size 55 Z ∧ Z.size = 26) := Lib.hid (by obtain ⟨Z, h1, h2⟩ := Z3.out; rw [hW4]; exact ⟨Z, (h1.far (p := ⟨b1, 18, none⟩) (Nat.ne_of_lt hb01) _).far (p := ⟨b1, 19, none⟩) (Nat.ne_of_lt hb01) _, h2⟩)
  have BA4 : Hid (Below w.heap.size w W4) := Lib.hid (by rw [hW4]; exact ((BA3.out.setCell (p := ⟨b1, 18, none⟩) (Nat.le_of_lt hb01) _).setCell (p := ⟨b1, 19, none⟩) (Nat.le_of_lt hb01) _).drew)
  clear hW4 B3 Z3 BA3 S1 S2 S3 a18 a19 f18 f19 H18 H19
  obtain ⟨hh, hm⟩ := blk_has B4.out MA.out.1
  have mc := MA.out
  obtain ⟨Z, hZ, hzs⟩ := Z4.out
  have rm := blk_room hZ hzs
  go_wp2_with fail
  have hl := load_var (w := W4.setCells w.heap.size 0 (aimedM c.M k node).toList) mc.1 (World.rangeAt_setCells_same W4 _ _ _ (by rw [Array.length_toList, mc.1]; exact rm))
  refine bodyPost_ret (v := .agg (aimedM c.M k node)) ?_ rfl ⟨rfl, below_setCells BA4.out _ _ (Nat.le_refl _) _⟩
  show Sem.run _ _ (W4.setCells w.heap.size 0 (aimedM c.M k node).toList) = _
  simp [results, Try.results30, asAddr, hl]
end Go.Proofs.Ytpaihfdmjkfegaa.Cl
