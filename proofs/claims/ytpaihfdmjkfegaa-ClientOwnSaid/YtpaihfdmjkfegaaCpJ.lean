/- request, walked. -/
import Derived.Test.YtpaihfdmjkfegaaCpI
import Derived.Test.YtpaihfdmjkfegaaCpG
namespace Go.Proofs.Ytpaihfdmjkfegaa.Cl
open Go.RowKit Go.Lib Go.Proofs.Ytpaihfdmjkfegaa.Msg Go.Proofs.Ytpaihfdmjkfegaa.Cls Go.Proofs.Ytpaihfdmjkfegaa.Ck

attribute [local go_sem ↓] loadMsg_eq storeMsg_eq buildMsg_eq
attribute [local go_sem] run_loadMsg run_storeMsg run_buildMsg
attribute [local go_sem ↓] loadAct_eq storeAct_eq storeCall_eq loadCall_eq
attribute [local go_sem] run_loadAct run_storeAct run_storeCall run_loadCall

theorem Chg.set1 {g : Nat} {a b : World} (h : Chg (fun k => k = g) a b) (i : Nat) (u : Value) : Chg (fun k => k = g) a (b.setCell ⟨g, i, none⟩ u) := h.set (p := ⟨g, i, none⟩) (.inr rfl) u

/-- A message that is asked by a client. -/
def reqM (M : Array Value) (seq n c num : Int) : Array Value := ((((M.setIfInBounds 12 (.int .i64 seq)).setIfInBounds 13 (.int .i64 n)).setIfInBounds 14 (.int .i64 c)).setIfInBounds 1 (.int .i64 (-1))).setIfInBounds 2 (.int .i64 num)
theorem reqM_ok {M : Array Value} (h : MsgC M) (seq n c num : Int) : MsgC (reqM M seq n c num) := msgC_set (msgC_set (msgC_set (msgC_set (msgC_set h 12 rfl) 13 rfl) 14 rfl) 1 rfl) 2 rfl
theorem reqM_get {M : Array Value} {i : Nat} (seq n c num : Int) (h : i ≠ 12 ∧ i ≠ 13 ∧ i ≠ 14 ∧ i ≠ 1 ∧ i ≠ 2) : (reqM M seq n c num)[i]? = M[i]? := by
  unfold reqM
  rw [Array.getElem?_setIfInBounds_ne (by omega), Array.getElem?_setIfInBounds_ne (by omega), Array.getElem?_setIfInBounds_ne (by omega), Array.getElem?_setIfInBounds_ne (by omega), Array.getElem?_setIfInBounds_ne (by omega)]
theorem msg_cell {w : World} {b : Nat} {C : Array Value} (h : Blk w b 55 C) (hC : MsgC C) (i : Nat) (hi : i < 26) : ∃ u, w.cell? ⟨b, i, none⟩ = some u := ⟨_, by rw [h.cell, Array.getElem?_eq_getElem (by rw [hC.1]; exact hi)]⟩

set_option maxRecDepth 100000 in
set_option maxHeartbeats 4000000 in
theorem request_any (p : Nat) (c : Client) (tb : Nat) (T : Array Value) (n cc : Int) (gb go gn cap k : Nat) (node : Int) (M : Array Value) (a : ActV) (w : World) (hC : ClAt w p c) (ht : c.vt = .pointer (some ⟨tb, 0, none⟩)) (hT : Blk w tb 110 T) (h0 : T[0]? = some (.int .i64 n)) (h1 : T[1]? = some (.int .i64 cc))
    (hg : c.vg = .slice (some ⟨gb, go, none⟩) gn cap) (hkn : k < gn) (hpg : p ≠ gb) (hx : w.cell? ⟨gb, go + k, none⟩ = some (.int .i64 node)) (hM : MsgC M) (h18 : M[18]? = some (.slice none 0 0)) (h19 : M[19]? = some (.slice none 0 0)) (hs : 0 ≤ c.seq ∧ c.seq < 1000000) :
    Calls Try.prog 54 #[.pointer (some ⟨p, 0, none⟩), .int .i64 (k : Int), .agg M, .agg a.cs] w fun e w' => ∃ b, e = .returned (.slice (some ⟨b, 0, none⟩) 1 1) ∧ w.heap.size ≤ b ∧ Blk w' b 55 (aimedM (reqM M (c.seq + 1) n cc c.num) k node) ∧
      ClAt w' p { c with seq := c.seq + 1, waits := true, hinted := false, grp := k, M := reqM M (c.seq + 1) n cc c.num, act := a } ∧ Chg (fun b => b = p) w w' := by
  have HC := Lib.hid hC
  have HT := Lib.hid hT
  have HX := Lib.hid hx
  have HM := Lib.hid hM
  have H01 := Lib.hid (And.intro h0 h1)
  have H189 := Lib.hid (And.intro h18 h19)
  have hp := hC.blk.lt
  have htl := hT.lt
  have hpt : p ≠ tb := Blk.ne_ hC.blk hT (by decide)
  have hgl : gb < w.heap.size := World.block_lt_of_cell? w _ hx
  have AC := Lib.hid a.cells
  have HA : Hid (a.cs.size = 11) := Lib.hid rfl
  obtain ⟨A, hA⟩ : ∃ A, A = a.cs := ⟨_, rfl⟩
  rw [← hA] at AC HA ⊢
  have EA := Lib.hid hA
  have w1 : IntKind.i64.wrap (c.seq + 1) = c.seq + 1 := IntWalk.i64_in _ (by omega)
  clear hC hT hx hM h0 h1 h18 h19 hs hA
  go_enter Try.func54, Try.ntmps54
  go_upto_region 1 with (fail)
  refine world_out (fun W hW => ?_)
  obtain ⟨b1, hb1⟩ : ∃ b, b = w.heap.size := ⟨_, rfl⟩
  have BW : Hid (Below w.heap.size w W) := Lib.hid (by rw [hW]; exact ((Below.refl _ _).alloc (Nat.le_refl _) _).alloc (by simp) _)
  have BM : Hid (Blk W b1 55 M) := Lib.hid (by rw [hW, hb1]; exact (Blk.new w 55 M).alloc _)
  have BA : Hid (Blk W (b1 + 1) 43 A) := Lib.hid (by rw [hW, hb1]; exact Blk.new2 w 55 M 43 A)
  have C1 := Lib.hid (HC.out.below BW.out hp)
  have T1 := Lib.hid (HT.out.below BW.out htl)
  have n6 := C1.out.seq
  have f6 := C1.out.frz 6
  rw [← hb1]
  clear hW
  go_upto_region 2 with (fail)
  refine world_out (fun W2 hW2 => ?_)
  have pb1 : p ≠ b1 := by omega
  have pb2 : p ≠ b1 + 1 := by omega
  have tb1 : tb ≠ b1 := by omega
  have C2 : Hid (ClAt W2 p { c with seq := c.seq + 1 }) := Lib.hid (by rw [hW2]; exact C1.out.put 6 _ (by decide) rfl rfl rfl)
  have K2 : Hid (Chg (fun b => b = p) w W2) := Lib.hid (by rw [hW2]; exact Chg.set1 (Chg.of BW.out) 6 _)
  have M2 : Hid (Blk W2 b1 55 M) := Lib.hid (by rw [hW2]; exact BM.out.far (p := ⟨p, 6, none⟩) (Ne.symm pb1) _)
  have A2 : Hid (Blk W2 (b1 + 1) 43 A) := Lib.hid (by rw [hW2]; exact BA.out.far (p := ⟨p, 6, none⟩) (Ne.symm pb2) _)
  have T2 : Hid (Blk W2 tb 110 T) := Lib.hid (by rw [hW2]; exact T1.out.far (p := ⟨p, 6, none⟩) (Ne.symm hpt) _)
  have hbw : w.heap.size ≤ b1 := by omega
  clear hW2 n6 f6 C1 BM BA T1 BW hb1
  obtain ⟨u12, n12⟩ := msg_cell M2.out HM.out 12 (by decide)
  obtain ⟨u13, n13⟩ := msg_cell M2.out HM.out 13 (by decide)
  obtain ⟨u14, n14⟩ := msg_cell M2.out HM.out 14 (by decide)
  have f12 := M2.out.frozen 12
  have f13 := M2.out.frozen 13
  have f14 := M2.out.frozen 14
  have F : Hid (∀ v, Chg (fun b => b = b1) W2 v → v.cell? ⟨p, 6, none⟩ = some (.int .i64 (c.seq + 1)) ∧ v.cell? ⟨p, 7, none⟩ = some (.pointer (some ⟨tb, 0, none⟩)) ∧ v.cell? ⟨tb, 0, none⟩ = some (.int .i64 n) ∧ v.cell? ⟨tb, 1, none⟩ = some (.int .i64 cc)) := Lib.hid (fun v hv => by
    have c7 := C2.out.vt
    simp only [ht] at c7
    exact ⟨hv.cell C2.out.seq pb1, hv.cell c7 pb1, hv.cell (by rw [T2.out.cell]; exact H01.out.1) tb1, hv.cell (by rw [T2.out.cell]; exact H01.out.2) tb1⟩)
  have S1 := Lib.hid (F.out W2 (Chg.refl _ _))
  have S2 := Lib.hid (F.out (W2.setCell ⟨b1, 12, none⟩ (.int .i64 (c.seq + 1))) ((Chg.refl _ _).set1 12 _))
  have S3 := Lib.hid (F.out (((W2.setCell ⟨b1, 12, none⟩ (.int .i64 (c.seq + 1))).setCell ⟨b1, 13, none⟩ (.int .i64 n)).setCell ⟨b1, 14, none⟩ (.int .i64 cc)) ((((Chg.refl _ _).set1 12 _).set1 13 _).set1 14 _))
  go_region_held3 (fun v => v.cell? ⟨p, 6, none⟩ = some (.int .i64 (c.seq + 1)) ∧ v.cell? ⟨p, 7, none⟩ = some (.pointer (some ⟨tb, 0, none⟩)) ∧ v.cell? ⟨tb, 0, none⟩ = some (.int .i64 n) ∧ v.cell? ⟨tb, 1, none⟩ = some (.int .i64 cc)) (first | exact S1.out | exact S2.out | exact S3.out) (fail)
  go_upto_region 3 with (fail)
  refine world_out (fun W3 hW3 => ?_)
  have C3 : Hid (ClAt W3 p { c with seq := c.seq + 1 }) := Lib.hid (by rw [hW3]; exact ⟨(((C2.out.blk.far (p := ⟨b1, 12, none⟩) pb1 _).far (p := ⟨b1, 13, none⟩) pb1 _).far (p := ⟨b1, 14, none⟩) pb1 _).drew, C2.out.msg⟩)
  have K3 : Hid (Chg (fun b => b = p) w W3) := Lib.hid (by rw [hW3]; exact (((K2.out.set (p := ⟨b1, 12, none⟩) (.inl hbw) _).set (p := ⟨b1, 13, none⟩) (.inl hbw) _).set (p := ⟨b1, 14, none⟩) (.inl hbw) _).drew)
  have M3 : Hid (Blk W3 b1 55 (((M.setIfInBounds 12 (.int .i64 (c.seq + 1))).setIfInBounds 13 (.int .i64 n)).setIfInBounds 14 (.int .i64 cc))) := Lib.hid (by rw [hW3]; exact (((M2.out.set_ 12 _).set_ 13 _).set_ 14 _).drew)
  have HM3 : Hid (MsgC (((M.setIfInBounds 12 (.int .i64 (c.seq + 1))).setIfInBounds 13 (.int .i64 n)).setIfInBounds 14 (.int .i64 cc))) := Lib.hid (msgC_set (msgC_set (msgC_set HM.out 12 rfl) 13 rfl) 14 rfl)
  have A3 : Hid (Blk W3 (b1 + 1) 43 A) := Lib.hid (by rw [hW3]; exact (((A2.out.far (p := ⟨b1, 12, none⟩) (by show b1 + 1 ≠ b1; omega) _).far (p := ⟨b1, 13, none⟩) (by show b1 + 1 ≠ b1; omega) _).far (p := ⟨b1, 14, none⟩) (by show b1 + 1 ≠ b1; omega) _).drew)
  clear hW3 n12 n13 n14 f12 f13 f14 C2 K2 M2 A2 T2 F S1 S2 S3
  have c0 := C3.out.num
  simp only at c0
  obtain ⟨u1, n1⟩ := msg_cell M3.out HM3.out 1 (by decide)
  obtain ⟨u2, n2⟩ := msg_cell M3.out HM3.out 2 (by decide)
  have f1 := M3.out.frozen 1
  have f2 := M3.out.frozen 2
  go_upto_region 4 with (fail)
  refine world_out (fun W4 hW4 => ?_)
  obtain ⟨M', hM'⟩ : ∃ M', M' = reqM M (c.seq + 1) n cc c.num := ⟨_, rfl⟩
  have C4 : Hid (ClAt W4 p { c with seq := c.seq + 1 }) := Lib.hid (by rw [hW4]; exact ⟨(C3.out.blk.far (p := ⟨b1, 1, none⟩) pb1 _).far (p := ⟨b1, 2, none⟩) pb1 _, C3.out.msg⟩)
  have K4 : Hid (Chg (fun b => b = p) w W4) := Lib.hid (by rw [hW4]; exact (K3.out.set (p := ⟨b1, 1, none⟩) (.inl hbw) _).set (p := ⟨b1, 2, none⟩) (.inl hbw) _)
  have M4 : Hid (Blk W4 b1 55 M') := Lib.hid (by rw [hW4, hM']; exact (M3.out.set_ 1 _).set_ 2 _)
  have A4 : Hid (Blk W4 (b1 + 1) 43 A) := Lib.hid (by rw [hW4]; exact (A3.out.far (p := ⟨b1, 1, none⟩) (by show b1 + 1 ≠ b1; omega) _).far (p := ⟨b1, 2, none⟩) (by show b1 + 1 ≠ b1; omega) _)
  have HM4 : Hid (MsgC M') := Lib.hid (by rw [hM']; exact reqM_ok HM.out _ _ _ _)
  have EM : Hid (M' = reqM M (c.seq + 1) n cc c.num) := Lib.hid hM'
  clear hW4 n1 n2 f1 f2 c0 C3 K3 M3 A3 HM3 hM'
  have X1 : Hid (ClAt (W4.setCell ⟨p, 8, none⟩ (.bool true)) p { c with seq := c.seq + 1, waits := true }) := Lib.hid (C4.out.put 8 _ (by decide) rfl rfl rfl)
  have X2 : Hid (ClAt ((W4.setCell ⟨p, 8, none⟩ (.bool true)).setCell ⟨p, 9, none⟩ (.bool false)) p { c with seq := c.seq + 1, waits := true, hinted := false }) := Lib.hid (X1.out.put 9 _ (by decide) rfl rfl rfl)
  have X3 : Hid (ClAt (((W4.setCell ⟨p, 8, none⟩ (.bool true)).setCell ⟨p, 9, none⟩ (.bool false)).setCell ⟨p, 10, none⟩ (.int .i64 (k : Int))).drew p { c with seq := c.seq + 1, waits := true, hinted := false, grp := k }) := Lib.hid (by
    have h := X2.out.put (c' := { c with seq := c.seq + 1, waits := true, hinted := false, grp := k }) 10 (.int .i64 (k : Int)) (by decide) rfl rfl rfl
    exact ⟨h.blk.drew, h.msg⟩)
  have X4 := Lib.hid (X3.out.putM HM4.out)
  have X5 := Lib.hid (X4.out.putA' a)
  rw [← EA.out] at X5
  have rm := X3.out.room
  have rn := X4.out.roomA
  have n8 := C4.out.waits
  have n9 := C4.out.hinted
  have n10 := C4.out.grp
  have f8 := C4.out.frz 8
  have f9 := C4.out.frz 9
  have f10 := C4.out.frz 10
  have mc := HM4.out
  have ac := AC.out
  have PM : Hid (∀ v, Chg (fun b => b = p) W4 v → HasMsg v b1 0 ∧ msgAt v b1 0 = M' ∧ HasN 11 v (b1 + 1) 0 ∧ valN 11 v (b1 + 1) 0 = A) := Lib.hid (fun v hv => by
    have g1 := blk_has (M4.out.chg hv (Ne.symm pb1)) HM4.out.1
    have g2 := blkN_has (A4.out.chg hv (Ne.symm pb2)) HA.out
    exact ⟨g1.1, g1.2, g2.1, g2.2⟩)
  have S0 := Lib.hid (PM.out W4.drew ((Chg.refl _ _).drew))
  have S1 := Lib.hid (PM.out (W4.setCell ⟨p, 8, none⟩ (.bool true)).drew (((Chg.refl _ _).set1 8 _).drew))
  have S2 := Lib.hid (PM.out ((W4.setCell ⟨p, 8, none⟩ (.bool true)).setCell ⟨p, 9, none⟩ (.bool false)).drew ((((Chg.refl _ _).set1 8 _).set1 9 _).drew))
  have S3 := Lib.hid (PM.out (((W4.setCell ⟨p, 8, none⟩ (.bool true)).setCell ⟨p, 9, none⟩ (.bool false)).setCell ⟨p, 10, none⟩ (.int .i64 (k : Int))).drew (((((Chg.refl _ _).set1 8 _).set1 9 _).set1 10 _).drew))
  have S4 := Lib.hid (PM.out ((((W4.setCell ⟨p, 8, none⟩ (.bool true)).setCell ⟨p, 9, none⟩ (.bool false)).setCell ⟨p, 10, none⟩ (.int .i64 (k : Int))).drew.setCells p 11 M'.toList) (Chg.sets p 11 _ (((((Chg.refl _ _).set1 8 _).set1 9 _).set1 10 _).drew) (.inr rfl)))
  have S5 := Lib.hid (PM.out (putN ((((W4.setCell ⟨p, 8, none⟩ (.bool true)).setCell ⟨p, 9, none⟩ (.bool false)).setCell ⟨p, 10, none⟩ (.int .i64 (k : Int))).drew.setCells p 11 M'.toList) p 37 A) (putN_chg (Chg.sets p 11 _ (((((Chg.refl _ _).set1 8 _).set1 9 _).set1 10 _).drew) (.inr rfl)) (.inr rfl) 37 A))
  go_region_held3 (fun v => HasMsg v b1 0 ∧ msgAt v b1 0 = M' ∧ HasN 11 v (b1 + 1) 0 ∧ valN 11 v (b1 + 1) 0 = A) (first | with_reducible exact S0.out | with_reducible exact S1.out | with_reducible exact S2.out | with_reducible exact S3.out | with_reducible exact S4.out | with_reducible exact S5.out) (fail)
  have K5 : Hid (Chg (fun b => b = p) w (putN ((((W4.setCell ⟨p, 8, none⟩ (.bool true)).setCell ⟨p, 9, none⟩ (.bool false)).setCell ⟨p, 10, none⟩ (.int .i64 (k : Int))).drew.setCells p 11 M'.toList) p 37 A)) := Lib.hid (putN_chg (Chg.sets p 11 _ ((((K4.out.set1 8 _).set1 9 _).set1 10 _).drew) (.inr rfl)) (.inr rfl) 37 A)
  clear S0 S1 S2 S3 S4 PM rm rn n8 n9 n10 f8 f9 f10 ac mc X1 X2 X3 X4 C4 K4 M4 A4
  generalize putN ((((W4.setCell ⟨p, 8, none⟩ (.bool true)).setCell ⟨p, 9, none⟩ (.bool false)).setCell ⟨p, 10, none⟩ (.int .i64 (k : Int))).drew.setCells p 11 M'.toList) p 37 A = W5 at X5 K5 S5 ⊢
  clear S5
  go_wp2_with fail
  have q18 : M'[18]? = some (.slice none 0 0) := by rw [EM.out, reqM_get _ _ _ _ (by decide)]; exact H189.out.1
  have q19 : M'[19]? = some (.slice none 0 0) := by rw [EM.out, reqM_get _ _ _ _ (by decide)]; exact H189.out.2
  refine (aimed_any p _ gb go gn cap k node W5 X5.out hg rfl hkn (K5.out.cell HX.out (Ne.symm hpg)) q18 q19).mono ?_
  rintro e w6 ⟨rfl, hb⟩
  have mc : MsgC (aimedM M' k node) := msgC_set (msgC_set HM4.out 3 rfl) 4 rfl
  have B6 := Lib.hid hb
  clear hb
  go_wp2_with fail
  go_ret
  refine ⟨w6.heap.size, rfl, Nat.le_trans K5.out.size B6.out.size, ?_, ?_, (K5.out.then B6.out).alloc _⟩
  · rw [← EM.out]
    exact Blk.new _ _ _
  · rw [← EM.out]
    exact (X5.out.below B6.out X5.out.blk.lt).below ((Below.refl _ _).alloc (Nat.le_refl _) _) (Nat.lt_of_lt_of_le X5.out.blk.lt B6.out.size)
end Go.Proofs.Ytpaihfdmjkfegaa.Cl
