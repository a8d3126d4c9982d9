/- A bag: Send, walked. -/
import Derived.Test.YtmmaolhmhdjldaaBagM
import Derived.Deep.RegionHeldLaw
namespace Go.Proofs.Ytmmaolhmhdjldaa.BagS
open Go.RowKit Go.Proofs.Ytmmaolhmhdjldaa.MapF Go.Maps

attribute [local go_sem ↓] loadMsg_eq storeMsg_eq buildMsg_eq
attribute [local go_sem] run_loadMsg run_storeMsg run_buildMsg

/-- A bag: its block, its row, its messages. -/
structure BagAt (w : World) (base p m : Nat) (most : Int) (A : Option Addr) (n cap : Nat) (L : List (Array Value)) : Prop where
  blk : Blk w p 149 #[.int .i64 most, .slice A n cap, .map (some m)]
  own : w.ownsRow base 73 26 (.slice A n cap) n (cellsOf L)
  len : L.length = n
  nil : ∀ C ∈ L, NilC C
  hp : base ≤ p
  hb : base ≤ w.heap.size
  hn : (n : Int) ≤ most
  hm : most ≤ 256

/-- But for a bag's block and its row all is as it was. -/
structure Only (w w' : World) (p : Nat) (A : Option Addr) : Prop where
  os : w'.os = w.os
  tape : w'.tape = w.tape
  output : w'.output = w.output
  size : w.heap.size ≤ w'.heap.size
  block : ∀ i, i < w.heap.size → i ≠ p → (∀ a, A = some a → a.block ≠ i) → w'.heap[i]? = w.heap[i]?

theorem BagAt.all26 {w : World} {base p m : Nat} {most : Int} {A : Option Addr} {n cap : Nat} {L : List (Array Value)} (h : BagAt w base p m most A n cap L) : All26 L := fun C hC => (h.nil C hC).size
theorem BagAt.below {w w' : World} {base p m : Nat} {most : Int} {A : Option Addr} {n cap : Nat} {L : List (Array Value)} (h : BagAt w base p m most A n cap L) (hB : Below w.heap.size w w') : BagAt w' base p m most A n cap L :=
  ⟨h.blk.below hB h.blk.lt, h.own.kept (row := none) ⟨hB.os, hB.tape, hB.output, hB.size, fun j hj _ => hB.block j hj⟩ (by cases (Value.slice A n cap).ownBlock <;> simp), h.len, h.nil, h.hp, Nat.le_trans h.hb hB.size, h.hn, h.hm⟩
theorem Only.ofBelow {w w' : World} (p : Nat) (A : Option Addr) (hB : Below w.heap.size w w') : Only w w' p A := ⟨hB.os, hB.tape, hB.output, hB.size, fun i hi _ _ => hB.block i hi⟩
theorem Only.base {w w' : World} {base p m : Nat} {most : Int} {A : Option Addr} {n cap : Nat} {L : List (Array Value)} (h : Only w w' p A) (hA : BagAt w base p m most A n cap L) : Below base w w' :=
  ⟨h.os, h.tape, h.output, h.size, fun i hi => h.block i (Nat.lt_of_lt_of_le hi hA.hb) (by have := hA.hp; omega) (fun a ha => by
    subst ha
    have := (hA.own.lt a.block rfl).1
    omega)⟩
theorem Only.trans {a b c : World} {p : Nat} {A B : Option Addr} (h : Only a b p A) (h' : Only b c p B) (hB : ∀ x, B = some x → x.block < a.heap.size → ∃ y, A = some y ∧ y.block = x.block) : Only a c p A :=
  ⟨h'.os.trans h.os, h'.tape.trans h.tape, h'.output.trans h.output, Nat.le_trans h.size h'.size, fun i hi hp hA => (h'.block i (Nat.lt_of_lt_of_le hi h.size) hp (fun x hx e => by
    obtain ⟨y, hy, hxy⟩ := hB x hx (by omega)
    exact hA y hy (by omega))).trans (h.block i hi hp hA)⟩
theorem msg_cells (w : World) (C : Array Value) : ∀ j u, C.toList[j]? = some u → (w.alloc (.cells C 73)).cell? ((⟨w.heap.size, 0, none⟩ : Addr).add j) = some u := fun j u h => by
  rw [Addr.add_lit, Nat.zero_add, (Blk.new w 73 C).cell]
  rwa [Array.getElem?_toList] at h

/-- What the loads of Send's append read. -/
def SendS (v : World) (p b n cap : Nat) (A : Option Addr) (C : Array Value) : Prop := v.cell? ⟨p, 1, none⟩ = some (.slice A n cap) ∧ v.frozen? ⟨p, 1, none⟩ = false ∧ HasMsg v b 0 ∧ msgAt v b 0 = C
theorem SendS.of {w : World} {base p m b : Nat} {most : Int} {A : Option Addr} {n cap : Nat} {L : List (Array Value)} {C : Array Value} (h : BagAt w base p m most A n cap L) (hC : C.size = 26) (hr : w.rangeAt b 0 C.toList) : SendS w p b n cap A C :=
  ⟨h.blk.cell 1, h.blk.frozen 1, msgAt_eq hC hr⟩
theorem bag_alloc {w : World} {base p m : Nat} {most : Int} {A : Option Addr} {n cap : Nat} {L : List (Array Value)} (h : BagAt w base p m most A n cap L) (o : Obj) : BagAt (w.alloc o) base p m most A n cap L := h.below ((Below.refl _ _).alloc (Nat.le_refl _) _)
theorem bag_drew {w : World} {base p m : Nat} {most : Int} {A : Option Addr} {n cap : Nat} {L : List (Array Value)} (h : BagAt w base p m most A n cap L) (q : Nat) : BagAt (w.drewN q) base p m most A n cap L := h.below (below_drewN (Below.refl _ _) q)
theorem SendS.grown {w w' : World} {p b n cap : Nat} {A : Option Addr} {C : Array Value} {row : Option Nat} (h : SendS w p b n cap A C) (hC : C.size = 26) (hg : w.grownBy w' row) (hp : p < w.heap.size) (h1 : row ≠ some p) (h2 : row ≠ some b) : SendS w' p b n cap A C := by
  obtain ⟨a1, a2, a3, a4⟩ := h
  refine ⟨(hg.cell_far ⟨p, 1, none⟩ hp (fun e => h1 e.symm)).trans a1, (hg.frozen_far ⟨p, 1, none⟩ hp (fun e => h1 e.symm)).trans a2, ?_⟩
  have hr := hasMsg_range a3
  rw [a4] at hr
  exact msgAt_eq hC (range_grown hr.2 hg h2)

theorem SendS.set {w : World} {p b n cap : Nat} {A : Option Addr} {C : Array Value} (h : SendS w p b n cap A C) (hC : C.size = 26) (hpb : p ≠ b) : ∀ u, (w.setCell ⟨p, 1, none⟩ u).cell? ⟨p, 1, none⟩ = some u ∧ (w.setCell ⟨p, 1, none⟩ u).frozen? ⟨p, 1, none⟩ = false ∧ HasMsg (w.setCell ⟨p, 1, none⟩ u) b 0 ∧ msgAt (w.setCell ⟨p, 1, none⟩ u) b 0 = C := fun u => by
  obtain ⟨a1, a2, a3, a4⟩ := h
  refine ⟨World.cell?_setCell_same _ _ _ a1, by rw [World.frozen?_setCell]; exact a2, ?_⟩
  have hr := hasMsg_range a3
  rw [a4] at hr
  exact msgAt_eq hC (fun j v hv => by
    rw [World.cell?_setCell_other _ _ _ _ (fun e => hpb (by injection e))]
    exact hr.2 j v hv)

theorem below_drewN_trans {w W W1 : World} {q : Nat} (h : Below w.heap.size w W) (h' : Below (W.drewN q).heap.size (W.drewN q) W1) : Below w.heap.size w W1 :=
  (below_drewN h q).trans (h'.mono (below_drewN h q).size)

/-- What Send leaves. -/
theorem send_fin {w W1 W3 : World} {base p m : Nat} {most : Int} {A : Option Addr} {n cap g capn : Nat} {L : List (Array Value)} {C : Array Value} (hB : BagAt w base p m most A n cap L) (hw : Below w.heap.size w W1) (hC : NilC C) (hn : (n : Int) < most)
    (hO : W3.ownsRow base 73 26 (.slice (some ⟨g, 0, none⟩) (n + 1) capn) (n + 1) (cellsOf L ++ C.toList)) (hG : (W1.alloc (.cells C 73)).grownBy W3 (Value.slice A n cap).ownBlock) (hat : (Value.slice A n cap).ownBlock = some g ∨ g = (W1.alloc (.cells C 73)).heap.size) :
    BagAt (W3.setCell ⟨p, 1, none⟩ (.slice (some ⟨g, 0, none⟩) (n + 1) capn)) base p m most (some ⟨g, 0, none⟩) (n + 1) capn (L ++ [C]) ∧ Only w (W3.setCell ⟨p, 1, none⟩ (.slice (some ⟨g, 0, none⟩) (n + 1) capn)) p A ∧ (A.map (·.block) = some g ∨ w.heap.size ≤ g) := by
  have hp := hB.blk.lt
  have h1 := hw.size
  have hba : Below w.heap.size w (W1.alloc (.cells C 73)) := hw.alloc h1 _
  have b2 := hB.below hba
  have hne : (Value.slice A n cap).ownBlock ≠ some p := own_blk_ne hB.own hB.blk (by decide)
  have blk3 : Blk W3 p 149 #[.int .i64 most, .slice A n cap, .map (some m)] := b2.blk.grown hG (fun e => hne e.symm)
  have hgp : (Value.slice (some ⟨g, 0, none⟩) (n + 1) capn).ownBlock ≠ some p := own_blk_ne hO blk3 (by decide)
  have hsz := hba.size
  refine ⟨⟨?_, ?_, by rw [List.length_append, hB.len]; rfl, ?_, hB.hp, ?_, by have := hn; omega, hB.hm⟩, ⟨?_, ?_, ?_, ?_, ?_⟩, ?_⟩
  · exact blk3.set_ 1 _
  · have e : cellsOf (L ++ [C]) = cellsOf L ++ C.toList := by rw [cells_append]; show _ ++ (C.toList ++ []) = _; rw [List.append_nil]
    rw [e]
    exact hO.kept (row := some p) ⟨rfl, rfl, rfl, by simp [World.setCell], fun i _ hi => Below.heap_setCell _ _ _ _ (fun e => hi (by rw [e]))⟩ (.inr hgp)
  · intro D hD
    rcases List.mem_append.1 hD with hD | hD
    · exact hB.nil D hD
    · rw [List.mem_singleton] at hD
      rw [hD]
      exact hC
  · have h2 := hG.size
    have h3 := hB.hb
    have h4 : (W3.setCell ⟨p, 1, none⟩ (.slice (some ⟨g, 0, none⟩) (n + 1) capn)).heap.size = W3.heap.size := by simp [World.setCell]
    omega
  · exact hG.os.trans hba.os
  · exact hG.tape.trans hba.tape
  · exact hG.output.trans hba.output
  · have h2 := hG.size
    have h4 : (W3.setCell ⟨p, 1, none⟩ (.slice (some ⟨g, 0, none⟩) (n + 1) capn)).heap.size = W3.heap.size := by simp [World.setCell]
    omega
  · intro i hi hip hA
    have e1 : (W3.setCell ⟨p, 1, none⟩ (.slice (some ⟨g, 0, none⟩) (n + 1) capn)).heap[i]? = W3.heap[i]? := Below.heap_setCell _ _ _ _ hip
    rw [e1, hG.block i (by omega) (fun e => by
      cases A with
      | none => simp [Value.ownBlock] at e
      | some a => exact hA a rfl (by simpa [Value.ownBlock] using e.symm))]
    exact hba.block i hi
  · rcases hat with e | e
    · cases A with
      | none => simp [Value.ownBlock] at e
      | some a => exact .inl (by simpa [Value.ownBlock] using e)
    · right
      omega

set_option maxRecDepth 100000 in
set_option maxHeartbeats 2000000 in
theorem send_full (base p m : Nat) (most : Int) (A : Option Addr) (n cap : Nat) (L : List (Array Value)) (C : Array Value) (w : World) (hB : BagAt w base p m most A n cap L) (hn : (n : Int) = most) :
    Calls Try.prog 43 #[.pointer (some ⟨p, 0, none⟩), .agg C] w fun e w' => e = .returned (.bool false) ∧ Below w.heap.size w w' := by
  have q2 : decide (most ≤ (n : Int)) = true := decide_eq_true (by omega)
  have HB := Lib.hid hB
  clear hB hn
  go_enter Try.func43, Try.ntmps43
  go_wp2_with fail
  refine world_out (fun W hW => ?_)
  have BW : Hid (Below w.heap.size w W) := Lib.hid (by rw [hW]; exact (Below.refl _ _).alloc (Nat.le_refl _) _)
  clear hW
  have hk := (HB.out.below BW.out).blk
  have q0 : W.cell? ⟨p, 0, none⟩ = some (.int .i64 most) := hk.cell 0
  have q1 : W.cell? ⟨p, 1, none⟩ = some (.slice A n cap) := hk.cell 1
  clear hk
  go_quiet (fail)
  go_wp2_with fail
  go_ret
  exact ⟨rfl, below_drewN BW.out _⟩

set_option maxRecDepth 100000 in
set_option maxHeartbeats 2000000 in
theorem send_room (base p m : Nat) (most : Int) (A : Option Addr) (n cap : Nat) (L : List (Array Value)) (C : Array Value) (w : World) (hB : BagAt w base p m most A n cap L) (hC : NilC C) (hn : (n : Int) < most) :
    Calls Try.prog 43 #[.pointer (some ⟨p, 0, none⟩), .agg C] w fun e w' => ∃ g cap', e = .returned (.bool true) ∧ BagAt w' base p m most (some ⟨g, 0, none⟩) (n + 1) cap' (L ++ [C]) ∧ Only w w' p A ∧ (A.map (·.block) = some g ∨ w.heap.size ≤ g) := by
  have q2 : decide (most ≤ (n : Int)) = false := decide_eq_false (by omega)
  obtain ⟨i0, hi0, hz1, hz2⟩ := info_two infoMsg
  have hz0 : i0.zero = some (.agg zeroC) := by
    have h : (Try.prog.info? 73).map (·.zero) = some (some (.agg zeroC)) := by kernel_rfl
    rw [hi0] at h
    simpa using h
  have CP : Hid (∀ W, Calls Try.prog 81 #[.agg C] W fun e w' => e = .returned (.agg C) ∧ Below W.heap.size W w') := Lib.hid (fun W => copied_nil C hC W)
  have HC := Lib.hid hC
  have hmc := hC.msg
  have hn256 : n ≤ 256 := by have := hB.hm; omega
  have HB := Lib.hid hB
  have HN := Lib.hid hn
  clear hB hC hn
  have hp := HB.out.blk.lt
  go_enter Try.func43, Try.ntmps43
  go_wp2_with fail
  refine world_out (fun W hW => ?_)
  have BW : Hid (Below w.heap.size w W) := Lib.hid (by rw [hW]; exact (Below.refl _ _).alloc (Nat.le_refl _) _)
  have hB0 : Hid (Blk W w.heap.size 73 C) := Lib.hid (by rw [hW]; exact Blk.new w 73 _)
  clear hW
  have hk := (HB.out.below BW.out).blk
  have q0 : W.cell? ⟨p, 0, none⟩ = some (.int .i64 most) := hk.cell 0
  have q1 : W.cell? ⟨p, 1, none⟩ = some (.slice A n cap) := hk.cell 1
  clear hk
  go_quiet (fail)
  go_wp2_with fail
  have BB : Hid (BagAt W base p m most A n cap L) := Lib.hid (HB.out.below BW.out)
  have HNE : Hid ((Value.slice A n cap).ownBlock ≠ some p) := Lib.hid (own_blk_ne HB.out.own HB.out.blk (by decide))
  have HNW : Hid ((Value.slice A n cap).ownBlock ≠ some w.heap.size) := Lib.hid (fun e => by have := (HB.out.own.lt _ e).2; omega)
  have HPW : Hid (p ≠ w.heap.size) := Lib.hid (by omega)
  have S0 : Hid (SendS (W.drewN nq).drew p w.heap.size n cap A C) := Lib.hid (SendS.of (bag_drew BB.out (nq + 1)) HC.out.size hB0.out.range)
  have hml : n + 1 ≤ maxLen := by unfold maxLen; omega
  have hl26 : Hid (C.toList.length = 1 * 26) := Lib.hid (by have := HC.out.size; simpa using this)
  have h288 : (n + 1) * 288 ≤ 140737488355328 := by omega
  have h01 : 0 < 1 := by omega
  have m0 : HasMsg (W.drewN (nq + 1)) w.heap.size 0 := S0.out.2.2.1
  have m1 : msgAt (W.drewN (nq + 1)) w.heap.size 0 = C := S0.out.2.2.2
  go_region_law (first
      | (go_simp; go_at_call 81; refine (CP.out _).mono ?_; rintro e W1 ⟨rfl, hb0⟩
         have B1 : Hid (BagAt W1 base p m most A n cap L) := Lib.hid ((bag_drew BB.out (nq + 1)).below hb0)
         have S1 : Hid (SendS W1 p w.heap.size n cap A C) := Lib.hid (SendS.of B1.out HC.out.size (range_below (w := W.drewN (nq + 1)) hB0.out.range hb0))
         have B2 : Hid (BagAt (W1.alloc (.cells C 73)) base p m most A n cap L) := Lib.hid (bag_alloc B1.out _)
         have S2 : Hid (SendS (W1.alloc (.cells C 73)) p w.heap.size n cap A C) := Lib.hid (SendS.of B2.out HC.out.size (World.rangeAt_alloc (range_below (w := W.drewN (nq + 1)) hB0.out.range hb0) _))
         have u1 := S1.out.1
         have u2 := S2.out.1
         have v0 : HasMsg W1 w.heap.size 0 := S1.out.2.2.1
         have v1 : msgAt W1 w.heap.size 0 = C := S1.out.2.2.2
         have HB0 := Lib.hid hb0
         clear hb0)
      | (have tokB := S1
         refine step_append_lies _ (by rfl) (.tmp 19) (.tmp 22) 147 (by rfl) base 73 i0 (.agg zeroC) 26 288 Try.underlying147 hi0 hz0 hz1 hz2 (by rfl) (by decide) (.slice A n cap) n (cellsOf L) (by simp [Act.eval]) B2.out.own ⟨W1.heap.size, 0, none⟩ 1 1 C.toList (by simp [Act.eval]) hl26.out (msg_cells W1 C) HC.out.one h01 hml h288 B2.out.hb _ (by rfl) ?_
         intro g capn W3 hown hgrow hat hlt
         have HG := Lib.hid hgrow
         have HO := Lib.hid hown
         have S3 : Hid (SendS W3 p w.heap.size n cap A C) := Lib.hid (SendS.grown S2.out HC.out.size HG.out B2.out.blk.lt HNE.out HNW.out)
         have S4 : Hid (∀ u, (W3.setCell ⟨p, 1, none⟩ u).cell? ⟨p, 1, none⟩ = some u ∧ (W3.setCell ⟨p, 1, none⟩ u).frozen? ⟨p, 1, none⟩ = false ∧ HasMsg (W3.setCell ⟨p, 1, none⟩ u) w.heap.size 0 ∧ msgAt (W3.setCell ⟨p, 1, none⟩ u) w.heap.size 0 = C) := Lib.hid (SendS.set S3.out HC.out.size HPW.out)
         have u3 := S3.out.1
         have fz : W3.frozen? ⟨p, 1, none⟩ = false := S3.out.2.1
         have HAT := Lib.hid hat
         clear hown hgrow hat tokB))
  all_goals
    have FIN : Hid (_) := Lib.hid (send_fin HB.out (below_drewN_trans BW.out HB0.out) HC.out HN.out HO.out HG.out HAT.out)
    go_wp2_with fail
    go_ret
    exact ⟨g, capn, rfl, FIN.out⟩
end Go.Proofs.Ytmmaolhmhdjldaa.BagS
