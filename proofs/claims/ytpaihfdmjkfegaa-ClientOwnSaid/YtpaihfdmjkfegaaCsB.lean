/- end where nothing was asked for: walked. -/
import Derived.Test.YtpaihfdmjkfegaaCqHJ
/- end where nothing was asked for: walked. -/
namespace Go.Proofs.Ytpaihfdmjkfegaa.Cl
open Go.RowKit Go.Lib Go.Maps Go.Proofs.Ytpaihfdmjkfegaa.MapF Go.Proofs.Ytpaihfdmjkfegaa.Msg Go.Proofs.Ytpaihfdmjkfegaa.Ck
attribute [local go_sem ↓] loadAct_eq storeAct_eq storeCall_eq loadCall_eq
attribute [local go_sem] run_loadAct run_storeAct run_storeCall run_loadCall

set_option maxRecDepth 100000 in
set_option maxHeartbeats 4000000 in
theorem end_none (p : Nat) (c : Client) (A0 : Nat → Prop) (x : TxB) (t : TxS) (a : ActV) (w : World) (hC : ClAt w p c) (ht : c.vt = .pointer (some ⟨x.tb, 0, none⟩)) (hT : TxAt A0 w x t) (hks : t.ks = []) :
    Calls Try.prog 42 #[.pointer (some ⟨p, 0, none⟩), .agg a.cs] w fun e w' => e = .returned (callV (.slice none 0 0) a true) ∧ ClAt w' p { c with vt := .pointer none } ∧ Chg (fun b => b = p) w w' := by
  have H := Lib.hid hC
  have HT := Lib.hid hT
  have hp := hC.blk.lt
  have tl := hT.blk.lt
  have LN := Lib.hid (fun (v : World) (hv : Below w.heap.size w v) => isF_len (M := mB) (fun _ => rfl) (fun _ => Iff.rfl) ((hT.keep hv).k1) t.ks hT.ksN.1 hT.ksN.2 (fun y => by unfold setF; by_cases h : y ∈ t.ks <;> simp [h]) Try.underlying107 3)
  rw [hks] at LN
  have c7 := hC.vt
  rw [ht] at c7
  obtain ⟨D, hD⟩ : ∃ D, D = a.cs := ⟨_, rfl⟩
  have DC : Hid (CellsN 11 D) := Lib.hid (hD ▸ a.cells)
  have ED := Lib.hid hD
  rw [← hD]
  clear hC ht hT hD hks
  go_enter Try.func42, Try.ntmps42
  go_upto_region 2 with (fail)
  refine world_out (fun W hW => ?_)
  obtain ⟨b1, hb1⟩ : ∃ b, b = w.heap.size := ⟨_, rfl⟩
  have BW : Hid (Below w.heap.size w W) := Lib.hid (by rw [hW]; exact ((Below.refl _ _).alloc (Nat.le_refl _) _).alloc (by simp) _)
  have A1 : Hid (Blk W b1 43 D) := Lib.hid (by rw [hW, hb1]; exact (Blk.new w 43 D).alloc _)
  have R1 : Hid (∃ Z, Blk W (b1 + 1) 102 Z ∧ Z.size = 13) := Lib.hid ⟨_, by rw [hW, hb1]; exact Blk.new2 w 43 D 102 _, rfl⟩
  have hbw : w.heap.size ≤ b1 := Nat.le_of_eq hb1.symm
  rw [← hb1]
  clear hW hb1 c7
  have T1 := Lib.hid (HT.out.keep BW.out)
  have C1 := Lib.hid (H.out.below BW.out hp)
  have t4 : W.cell? ⟨x.tb, 4, none⟩ = some (.map (some x.m1)) := T1.out.blk.cell 4
  have ln := LN.out W BW.out
  have q7 := C1.out.vt
  have f7 := C1.out.frz 7
  go_upto_region 4 with (fail)
  refine world_out (fun V hV => ?_)
  have CV : Hid (ClAt V p { c with vt := .pointer none }) := Lib.hid (by rw [hV]; exact C1.out.put 7 _ (by decide) rfl rfl rfl)
  have KV : Hid (Chg (fun b => b = p) w V) := Lib.hid (by rw [hV]; exact (Chg.of BW.out).set1 7 _)
  have A3 : Hid (Blk V b1 43 D) := Lib.hid (by rw [hV]; exact A1.out.far (p := ⟨p, 7, none⟩) (by show b1 ≠ p; omega) _)
  have R3 : Hid (∃ Z, Blk V (b1 + 1) 102 Z ∧ Z.size = 13) := Lib.hid (by obtain ⟨Z, h1, h2⟩ := R1.out; rw [hV]; exact ⟨Z, h1.far (p := ⟨p, 7, none⟩) (by show b1 + 1 ≠ p; omega) _, h2⟩)
  clear hV t4 ln q7 f7
  have g1 : HasN 11 V b1 0 := (blkN_has A3.out DC.out.1).1
  have g2 : valN 11 V b1 0 = #[.int .i64 a.who, .int .i64 a.call, .int .i64 a.n, .int .i64 a.c, .string a.key, .string a.value, .bool a.found, .int .i64 a.code, .int .i64 a.stamp, .int .i64 a.from_, .int .i64 a.to] := by rw [(blkN_has A3.out DC.out.1).2, ED.out, ActV.cs_eq]
  obtain ⟨Z, hZ, hzs⟩ := R3.out
  have rm : RoomN 13 V (b1 + 1) 0 := blkN_room hZ hzs
  have cw : CellsN 13 #[.slice none 0 0, .int .i64 a.who, .int .i64 a.call, .int .i64 a.n, .int .i64 a.c, .string a.key, .string a.value, .bool a.found, .int .i64 a.code, .int .i64 a.stamp, .int .i64 a.from_, .int .i64 a.to, .bool true] := ⟨rfl, by simp [Value.oneCell']⟩
  have EV : Hid (callV (.slice none 0 0) a true = .agg #[.slice none 0 0, .int .i64 a.who, .int .i64 a.call, .int .i64 a.n, .int .i64 a.c, .string a.key, .string a.value, .bool a.found, .int .i64 a.code, .int .i64 a.stamp, .int .i64 a.from_, .int .i64 a.to, .bool true]) := Lib.hid (by simp [callV, ActV.cs])
  go_wp2_with fail
  generalize (#[.slice none 0 0, .int .i64 a.who, .int .i64 a.call, .int .i64 a.n, .int .i64 a.c, .string a.key, .string a.value, .bool a.found, .int .i64 a.code, .int .i64 a.stamp, .int .i64 a.from_, .int .i64 a.to, .bool true] : Array Value) = C at cw EV ⊢
  have RF : Hid (Blk (putN V (b1 + 1) 0 C) (b1 + 1) 102 C) := Lib.hid (putN_fill hZ (hzs.trans cw.1.symm))
  have hl := load_call cw.1 RF.out.range
  exact bodyPost_ret (v := .agg C) (by simp [results, Try.results42, asAddr, hl]) rfl ⟨by rw [EV.out], ⟨putN_far CV.out.blk (by omega), CV.out.msg⟩, KV.out.trans (putN_chg (S := fun j => j = b1 + 1) (Chg.refl _ V) (.inr rfl) 0 C) (fun j hj e => by omega)⟩
end Go.Proofs.Ytpaihfdmjkfegaa.Cl

/- read of a key that is laid: walked. -/
namespace Go.Proofs.Ytpaihfdmjkfegaa.Cl
open Go.RowKit Go.Lib Go.Maps Go.Proofs.Ytpaihfdmjkfegaa.MapF Go.Proofs.Ytpaihfdmjkfegaa.Msg Go.Proofs.Ytpaihfdmjkfegaa.Cls Go.Proofs.Ytpaihfdmjkfegaa.Ck
attribute [local go_sem ↓] loadAct_eq storeAct_eq storeCall_eq loadCall_eq
attribute [local go_sem] run_loadAct run_storeAct run_storeCall run_loadCall

def wrArr (y : WrV) : Array Value := #[.string y.1, .string y.2.1, .bool y.2.2]
def LaidR (W : World) (y : WrV) (v6 v7 : Value) (wr : World) : Prop := ∃ yb, v6 = .pointer (some ⟨yb, 0, none⟩) ∧ v7 = .bool true ∧ W.heap.size ≤ yb ∧ Blk wr yb 63 (wrArr y) ∧ Below W.heap.size W wr
/-- An act that tells a write. -/
def toldAct (a : ActV) (y : WrV) : ActV := { a with found := !y.2.2, value := y.2.1 }

set_option maxRecDepth 100000 in
set_option maxHeartbeats 4000000 in
theorem read_laid (p : Nat) (c : Client) (A0 : Nat → Prop) (x : TxB) (t : TxS) (a : ActV) (y : WrV) (w : World) (hC : ClAt w p c) (ht : c.vt = .pointer (some ⟨x.tb, 0, none⟩)) (hT : TxAt A0 w x t) (hk : okS a.key) (hy : t.la a.key = some y) :
    Calls Try.prog 44 #[.pointer (some ⟨p, 0, none⟩), .agg a.cs] w fun e w' => e = .returned (.tuple #[callV (.slice none 0 0) (toldAct a y) true, .int .i64 0]) ∧ Below w.heap.size w w' := by
  have H := Lib.hid hC
  have HT := Lib.hid hT
  have HTT := Lib.hid ht
  have hp := hC.blk.lt
  obtain ⟨A, hA⟩ : ∃ A, A = a.cs := ⟨_, rfl⟩
  have A3 : A[4]? = some (.string a.key) := by rw [hA]; simp [ActV.cs]
  have AC : Hid (CellsN 11 A) := Lib.hid (hA ▸ a.cells)
  have EA := Lib.hid hA
  rw [← hA]
  have L4 : Hid (∀ v, Below w.heap.size w v → (Instr.lookup 46 (.map (some x.m4)) (.string a.key) true).run Try.prog v = .ok (.tuple #[.agg (wrArr y), .bool true]) v) := Lib.hid (fun v hv => by
    have h := ((hT.keep hv).k4).look_ok Try.underlying46 (z0 := (ByteArray.empty, ByteArray.empty, false)) (zero63 v) a.key hk
    rw [hy] at h
    exact h)
  clear hC ht hT hk hy hA
  go_enter Try.func44, Try.ntmps44
  go_upto_region 1 with (fail)
  refine world_out (fun W hW => ?_)
  obtain ⟨b4, hb4⟩ : ∃ b, b = w.heap.size := ⟨_, rfl⟩
  have BW : Hid (Below w.heap.size w W) := Lib.hid (by rw [hW]; exact ((Below.refl _ _).alloc (Nat.le_refl _) _).alloc (by simp) _)
  have A1 : Hid (Blk W b4 43 A) := Lib.hid (by rw [hW, hb4]; exact (Blk.new w 43 A).alloc _)
  have R1 : Hid (∃ Z, Blk W (b4 + 1) 102 Z ∧ Z.size = 13) := Lib.hid ⟨_, by rw [hW, hb4]; exact Blk.new2 w 43 A 102 _, rfl⟩
  have H1 := Lib.hid (H.out.below BW.out hp)
  have T1 := Lib.hid (HT.out.keep BW.out)
  have hbw : w.heap.size ≤ b4 := Nat.le_of_eq hb4.symm
  rw [← hb4]
  clear hW hb4
  have F : Hid (∀ v, Below W.heap.size W v → v.cell? ⟨p, 7, none⟩ = some (.pointer (some ⟨x.tb, 0, none⟩)) ∧ v.cell? ⟨x.tb, 7, none⟩ = some (.map (some x.m4)) ∧ v.cell? ⟨b4, 4, none⟩ = some (.string a.key)) := Lib.hid (fun v hv => by
    have c7 := (H1.out.below hv H1.out.blk.lt).vt
    rw [HTT.out] at c7
    have t := (T1.out.keep hv).blk
    have z := A1.out.below hv A1.out.lt
    exact ⟨c7, t.cell 7, by rw [z.cell]; exact A3⟩)
  have LL : Hid (∀ v, Below W.heap.size W v → (Instr.lookup 46 (.map (some x.m4)) (.string a.key) true).run Try.prog v = .ok (.tuple #[.agg #[.string y.1, .string y.2.1, .bool y.2.2], .bool true]) v) := Lib.hid (fun v hv => L4.out v (BW.out.trans (hv.mono BW.out.size)))
  have S0 := Lib.hid (F.out W (Below.refl _ _))
  have S1 := Lib.hid (F.out (W.alloc (.cells #[.string ⟨#[]⟩, .string ⟨#[]⟩, .bool false] 63)) ((Below.refl _ _).alloc (Nat.le_refl _) _))
  have S2 := Lib.hid (F.out (W.alloc (.cells #[.string y.1, .string y.2.1, .bool y.2.2] 63)) ((Below.refl _ _).alloc (Nat.le_refl _) _))
  have l1 := LL.out W.drew (Below.refl _ _).drew
  have l2 := LL.out (W.alloc (.cells #[.string ⟨#[]⟩, .string ⟨#[]⟩, .bool false] 63)).drew ((Below.refl _ _).alloc (Nat.le_refl _) _).drew
  go_cut [6, 7] from 10 (LaidR W y)
  case first =>
    go_region_held3 (fun v => v.cell? ⟨p, 7, none⟩ = some (.pointer (some ⟨x.tb, 0, none⟩)) ∧ v.cell? ⟨x.tb, 7, none⟩ = some (.map (some x.m4)) ∧ v.cell? ⟨b4, 4, none⟩ = some (.string a.key)) (first | exact S0.out | exact S1.out | exact S2.out) (fail)
    all_goals
      go_wp2_with fail
      go_meet
      case rel => exact ⟨W.heap.size, rfl, rfl, Nat.le_refl _, (Blk.new W 63 (wrArr y)).drew, ((Below.refl _ _).alloc (Nat.le_refl _) _).drew⟩
  case rest =>
    obtain ⟨yb, rfl, rfl, hyb, hY, hBW⟩ := hcut
    have B2 : Hid (Below w.heap.size w wc) := Lib.hid (BW.out.trans (hBW.mono BW.out.size))
    have A2 : Hid (Blk wc b4 43 A) := Lib.hid (A1.out.below hBW A1.out.lt)
    have R2 : Hid (∃ Z, Blk wc (b4 + 1) 102 Z ∧ Z.size = 13) := Lib.hid (by obtain ⟨Z, h1, h2⟩ := R1.out; exact ⟨Z, h1.below hBW h1.lt, h2⟩)
    have y4 : b4 ≠ yb := by have := A1.out.lt; omega
    have n2 : wc.cell? ⟨yb, 2, none⟩ = some (.bool y.2.2) := hY.cell 2
    have n1 : wc.cell? ⟨yb, 1, none⟩ = some (.string y.2.1) := hY.cell 1
    obtain ⟨u6, c6⟩ : ∃ u, wc.cell? ⟨b4, 6, none⟩ = some u := ⟨.bool a.found, by rw [A2.out.cell, EA.out]; simp [ActV.cs]⟩
    obtain ⟨u5, c5⟩ : ∃ u, wc.cell? ⟨b4, 5, none⟩ = some u := ⟨.string a.value, by rw [A2.out.cell, EA.out]; simp [ActV.cs]⟩
    have f6 := A2.out.frozen 6
    have f5 := A2.out.frozen 5
    clear F LL L4 l1 l2 S0 S1 S2 hBW H1 T1 R1 A1 hY
    have F : Hid (∀ v, Chg (fun j => j = b4) wc v → v.cell? ⟨yb, 2, none⟩ = some (.bool y.2.2) ∧ v.cell? ⟨yb, 1, none⟩ = some (.string y.2.1)) := Lib.hid (fun v hv => ⟨hv.cell n2 (Ne.symm y4), hv.cell n1 (Ne.symm y4)⟩)
    have S0 := Lib.hid (F.out wc.drew (Chg.refl _ _).drew)
    have S1 := Lib.hid (F.out (wc.setCell ⟨b4, 6, none⟩ (.bool !y.2.2)).drew ((Chg.refl _ _).set1 6 _).drew)
    have S2 := Lib.hid (F.out (wc.setCell ⟨b4, 5, none⟩ (.string y.2.1)).drew ((Chg.refl _ _).set1 5 _).drew)
    have S3 := Lib.hid (F.out ((wc.setCell ⟨b4, 6, none⟩ (.bool !y.2.2)).setCell ⟨b4, 5, none⟩ (.string y.2.1)).drew (((Chg.refl _ _).set1 6 _).set1 5 _).drew)
    have S4 := Lib.hid (F.out ((wc.setCell ⟨b4, 5, none⟩ (.string y.2.1)).setCell ⟨b4, 6, none⟩ (.bool !y.2.2)).drew (((Chg.refl _ _).set1 5 _).set1 6 _).drew)
    go_upto_region 3 with (fail)
    go_region_held3 (fun v => v.cell? ⟨yb, 2, none⟩ = some (.bool y.2.2) ∧ v.cell? ⟨yb, 1, none⟩ = some (.string y.2.1)) (first | with_reducible exact S0.out | with_reducible exact S1.out | with_reducible exact S2.out | with_reducible exact S3.out | with_reducible exact S4.out) (fail)
    go_upto_region 4 with (fail)
    refine world_out (fun V hV => ?_)
    have B3 : Hid (Below w.heap.size w V) := Lib.hid (by rw [hV]; exact ((B2.out.setCell (p := ⟨b4, 6, none⟩) hbw _).setCell (p := ⟨b4, 5, none⟩) hbw _).drew)
    have A3' : Hid (Blk V b4 43 (toldAct a y).cs) := Lib.hid (by
      have h := ((A2.out.set_ 6 (.bool !y.2.2)).set_ 5 (.string y.2.1)).drew
      rw [hV, show (toldAct a y).cs = (A.setIfInBounds 6 (.bool !y.2.2)).setIfInBounds 5 (.string y.2.1) by rw [EA.out]; simp [ActV.cs, toldAct]]
      exact h)
    have R3 : Hid (∃ Z, Blk V (b4 + 1) 102 Z ∧ Z.size = 13) := Lib.hid (by obtain ⟨Z, h1, h2⟩ := R2.out; rw [hV]; exact ⟨Z, ((h1.far (p := ⟨b4, 6, none⟩) (by show b4 + 1 ≠ b4; omega) _).far (p := ⟨b4, 5, none⟩) (by show b4 + 1 ≠ b4; omega) _).drew, h2⟩)
    clear hV n1 n2 c6 c5 f6 f5 S0 S1 S2 S3 S4 F
    obtain ⟨AA, hAA⟩ : ∃ AA, AA = toldAct a y := ⟨_, rfl⟩
    rw [← hAA] at A3'
    have EAA := Lib.hid hAA
    clear hAA
    have g1 : HasN 11 V b4 0 := (blkN_has A3'.out AA.cells.1).1
    have g2 : valN 11 V b4 0 = #[.int .i64 AA.who, .int .i64 AA.call, .int .i64 AA.n, .int .i64 AA.c, .string AA.key, .string AA.value, .bool AA.found, .int .i64 AA.code, .int .i64 AA.stamp, .int .i64 AA.from_, .int .i64 AA.to] := by rw [(blkN_has A3'.out AA.cells.1).2, ActV.cs_eq]
    obtain ⟨Z, hZ, hzs⟩ := R3.out
    have rm : RoomN 13 V (b4 + 1) 0 := blkN_room hZ hzs
    have cw : CellsN 13 #[.slice none 0 0, .int .i64 AA.who, .int .i64 AA.call, .int .i64 AA.n, .int .i64 AA.c, .string AA.key, .string AA.value, .bool AA.found, .int .i64 AA.code, .int .i64 AA.stamp, .int .i64 AA.from_, .int .i64 AA.to, .bool true] := ⟨rfl, by simp [Value.oneCell']⟩
    have EV : Hid (callV (.slice none 0 0) AA true = .agg #[.slice none 0 0, .int .i64 AA.who, .int .i64 AA.call, .int .i64 AA.n, .int .i64 AA.c, .string AA.key, .string AA.value, .bool AA.found, .int .i64 AA.code, .int .i64 AA.stamp, .int .i64 AA.from_, .int .i64 AA.to, .bool true]) := Lib.hid (by simp [callV, ActV.cs])
    go_wp2_with fail
    generalize (#[.slice none 0 0, .int .i64 AA.who, .int .i64 AA.call, .int .i64 AA.n, .int .i64 AA.c, .string AA.key, .string AA.value, .bool AA.found, .int .i64 AA.code, .int .i64 AA.stamp, .int .i64 AA.from_, .int .i64 AA.to, .bool true] : Array Value) = C at cw EV ⊢
    have RF : Hid (Blk (putN V (b4 + 1) 0 C) (b4 + 1) 102 C) := Lib.hid (putN_fill hZ (hzs.trans cw.1.symm))
    have hl := load_call cw.1 RF.out.range
    exact bodyPost_ret (v := .tuple #[.agg C, .int .i64 0]) (by simp [results, Try.results44, asAddr, hl]) rfl ⟨by rw [← EAA.out, EV.out], putN_below B3.out (by omega) 0 C⟩
end Go.Proofs.Ytpaihfdmjkfegaa.Cl

/- read of a key that was read: walked. -/
namespace Go.Proofs.Ytpaihfdmjkfegaa.Cl
open Go.RowKit Go.Lib Go.Maps Go.Proofs.Ytpaihfdmjkfegaa.MapF Go.Proofs.Ytpaihfdmjkfegaa.Msg Go.Proofs.Ytpaihfdmjkfegaa.Cls Go.Proofs.Ytpaihfdmjkfegaa.Ck
attribute [local go_sem ↓] loadAct_eq storeAct_eq storeCall_eq loadCall_eq
attribute [local go_sem] run_loadAct run_storeAct run_storeCall run_loadCall

def seenArr (y : Bool × ByteArray × Int) : Array Value := #[.bool y.1, .string y.2.1, .int .i64 y.2.2]
def SeenR (W : World) (y : Bool × ByteArray × Int) (v6 v7 : Value) (wr : World) : Prop := ∃ yb, v6 = .pointer (some ⟨yb, 0, none⟩) ∧ v7 = .bool true ∧ W.heap.size ≤ yb ∧ Blk wr yb 106 (seenArr y) ∧ Below W.heap.size W wr
/-- An act that tells what was read. -/
def seenAct (a : ActV) (y : Bool × ByteArray × Int) : ActV := { a with found := y.1, value := y.2.1, stamp := y.2.2 }

set_option maxRecDepth 100000 in
set_option maxHeartbeats 4000000 in
theorem read_seen (p : Nat) (c : Client) (A0 : Nat → Prop) (x : TxB) (t : TxS) (a : ActV) (y : Bool × ByteArray × Int) (w : World) (hC : ClAt w p c) (ht : c.vt = .pointer (some ⟨x.tb, 0, none⟩)) (hT : TxAt A0 w x t) (hk : okS a.key) (hn : t.la a.key = none) (hy : t.rd a.key = some y) :
    Calls Try.prog 44 #[.pointer (some ⟨p, 0, none⟩), .agg a.cs] w fun e w' => e = .returned (.tuple #[callV (.slice none 0 0) (seenAct a y) true, .int .i64 0]) ∧ Below w.heap.size w w' := by
  have H := Lib.hid hC
  have HT := Lib.hid hT
  have HTT := Lib.hid ht
  have hp := hC.blk.lt
  obtain ⟨A, hA⟩ : ∃ A, A = a.cs := ⟨_, rfl⟩
  have A3 : A[4]? = some (.string a.key) := by rw [hA]; simp [ActV.cs]
  have AC : Hid (CellsN 11 A) := Lib.hid (hA ▸ a.cells)
  have EA := Lib.hid hA
  rw [← hA]
  have L4 : Hid (∀ v, Below w.heap.size w v → (Instr.lookup 46 (.map (some x.m4)) (.string a.key) true).run Try.prog v = .ok (.tuple #[.agg #[.string ByteArray.empty, .string ByteArray.empty, .bool false], .bool false]) v) := Lib.hid (fun v hv => by
    have h := ((hT.keep hv).k4).look_ok Try.underlying46 (z0 := (ByteArray.empty, ByteArray.empty, false)) (zero63 v) a.key hk
    rw [hn] at h
    exact h)
  have L3 : Hid (∀ v, Below w.heap.size w v → (Instr.lookup 108 (.map (some x.m3)) (.string a.key) true).run Try.prog v = .ok (.tuple #[.agg #[.bool y.1, .string y.2.1, .int .i64 y.2.2], .bool true]) v) := Lib.hid (fun v hv => by
    have h := ((hT.keep hv).k3).look_ok Try.underlying108 (z0 := (false, ByteArray.empty, 0)) (zero106 v) a.key hk
    rw [hy] at h
    exact h)
  clear hC ht hT hk hy hn hA
  go_enter Try.func44, Try.ntmps44
  go_upto_region 1 with (fail)
  refine world_out (fun W hW => ?_)
  obtain ⟨b4, hb4⟩ : ∃ b, b = w.heap.size := ⟨_, rfl⟩
  have BW : Hid (Below w.heap.size w W) := Lib.hid (by rw [hW]; exact ((Below.refl _ _).alloc (Nat.le_refl _) _).alloc (by simp) _)
  have A1 : Hid (Blk W b4 43 A) := Lib.hid (by rw [hW, hb4]; exact (Blk.new w 43 A).alloc _)
  have R1 : Hid (∃ Z, Blk W (b4 + 1) 102 Z ∧ Z.size = 13) := Lib.hid ⟨_, by rw [hW, hb4]; exact Blk.new2 w 43 A 102 _, rfl⟩
  have H1 := Lib.hid (H.out.below BW.out hp)
  have T1 := Lib.hid (HT.out.keep BW.out)
  have hbw : w.heap.size ≤ b4 := Nat.le_of_eq hb4.symm
  rw [← hb4]
  clear hW hb4
  have F : Hid (∀ v, Below W.heap.size W v → v.cell? ⟨p, 7, none⟩ = some (.pointer (some ⟨x.tb, 0, none⟩)) ∧ v.cell? ⟨x.tb, 7, none⟩ = some (.map (some x.m4)) ∧ v.cell? ⟨x.tb, 6, none⟩ = some (.map (some x.m3)) ∧ v.cell? ⟨b4, 4, none⟩ = some (.string a.key)) := Lib.hid (fun v hv => by
    have c7 := (H1.out.below hv H1.out.blk.lt).vt
    rw [HTT.out] at c7
    have t := (T1.out.keep hv).blk
    have z := A1.out.below hv A1.out.lt
    exact ⟨c7, t.cell 7, t.cell 6, by rw [z.cell]; exact A3⟩)
  have LL : Hid (∀ v, Below W.heap.size W v → (Instr.lookup 46 (.map (some x.m4)) (.string a.key) true).run Try.prog v = .ok (.tuple #[.agg #[.string ByteArray.empty, .string ByteArray.empty, .bool false], .bool false]) v) := Lib.hid (fun v hv => L4.out v (BW.out.trans (hv.mono BW.out.size)))
  have LR : Hid (∀ v, Below W.heap.size W v → (Instr.lookup 108 (.map (some x.m3)) (.string a.key) true).run Try.prog v = .ok (.tuple #[.agg #[.bool y.1, .string y.2.1, .int .i64 y.2.2], .bool true]) v) := Lib.hid (fun v hv => L3.out v (BW.out.trans (hv.mono BW.out.size)))
  have S0 := Lib.hid (F.out W (Below.refl _ _))
  have S1 := Lib.hid (F.out (W.alloc (.cells #[.string ⟨#[]⟩, .string ⟨#[]⟩, .bool false] 63)) ((Below.refl _ _).alloc (Nat.le_refl _) _))
  have l1 := LL.out W.drew (Below.refl _ _).drew
  have l2 := LL.out (W.alloc (.cells #[.string ⟨#[]⟩, .string ⟨#[]⟩, .bool false] 63)).drew ((Below.refl _ _).alloc (Nat.le_refl _) _).drew
  go_cut [6, 7] from 10 (NoneR W)
  case first =>
    have BA : Hid (Below W.heap.size W (W.alloc (.cells #[.string ByteArray.empty, .string ByteArray.empty, .bool false] 63)).drew) := Lib.hid ((Below.refl _ _).alloc (Nat.le_refl _) _).drew
    go_region_held3 (fun v => v.cell? ⟨p, 7, none⟩ = some (.pointer (some ⟨x.tb, 0, none⟩)) ∧ v.cell? ⟨x.tb, 7, none⟩ = some (.map (some x.m4)) ∧ v.cell? ⟨x.tb, 6, none⟩ = some (.map (some x.m3)) ∧ v.cell? ⟨b4, 4, none⟩ = some (.string a.key)) (first | exact S0.out | exact S1.out) (fail)
    all_goals
      go_wp2_with fail
      go_meet
      case rel => exact ⟨rfl, BA.out⟩
  case rest =>
  obtain ⟨rfl, hB0⟩ := hcut
  have BN : Hid (Below W.heap.size W wc) := Lib.hid hB0
  clear l1 l2 S0 S1 hB0
  go_upto_region 5 with (fail)
  have S0 := Lib.hid (F.out wc BN.out)
  have S1 := Lib.hid (F.out (wc.alloc (.cells #[.bool false, .string ⟨#[]⟩, .int .i64 0] 106)) (BN.out.alloc BN.out.size _))
  have S2 := Lib.hid (F.out (wc.alloc (.cells #[.bool y.1, .string y.2.1, .int .i64 y.2.2] 106)) (BN.out.alloc BN.out.size _))
  have l1 := LR.out wc.drew BN.out.drew
  have l2 := LR.out (wc.alloc (.cells #[.bool false, .string ⟨#[]⟩, .int .i64 0] 106)).drew (BN.out.alloc BN.out.size _).drew
  go_cut [8, 9] from 33 (SeenR wc y)
  case first =>
    go_region_held3 (fun v => v.cell? ⟨p, 7, none⟩ = some (.pointer (some ⟨x.tb, 0, none⟩)) ∧ v.cell? ⟨x.tb, 7, none⟩ = some (.map (some x.m4)) ∧ v.cell? ⟨x.tb, 6, none⟩ = some (.map (some x.m3)) ∧ v.cell? ⟨b4, 4, none⟩ = some (.string a.key)) (first | exact S0.out | exact S1.out | exact S2.out) (fail)
    all_goals
      go_wp2_with fail
      go_meet
      case rel => exact ⟨wc.heap.size, rfl, rfl, Nat.le_refl _, (Blk.new wc 106 (seenArr y)).drew, ((Below.refl _ _).alloc (Nat.le_refl _) _).drew⟩
  case rest =>
    obtain ⟨yb, rfl, rfl, hyb, hY, hBW0⟩ := hcut
    have hBW := BN.out.trans (hBW0.mono BN.out.size)
    have hyW : W.heap.size ≤ yb := Nat.le_trans BN.out.size hyb
    clear hBW0
    have B2 : Hid (Below w.heap.size w wc) := Lib.hid (BW.out.trans (hBW.mono BW.out.size))
    have A2 : Hid (Blk wc b4 43 A) := Lib.hid (A1.out.below hBW A1.out.lt)
    have R2 : Hid (∃ Z, Blk wc (b4 + 1) 102 Z ∧ Z.size = 13) := Lib.hid (by obtain ⟨Z, h1, h2⟩ := R1.out; exact ⟨Z, h1.below hBW h1.lt, h2⟩)
    have y4 : b4 ≠ yb := by have := A1.out.lt; omega
    have n0 : wc.cell? ⟨yb, 0, none⟩ = some (.bool y.1) := hY.cell 0
    have n1 : wc.cell? ⟨yb, 1, none⟩ = some (.string y.2.1) := hY.cell 1
    have n2 : wc.cell? ⟨yb, 2, none⟩ = some (.int .i64 y.2.2) := hY.cell 2
    obtain ⟨u8, c8⟩ : ∃ u, wc.cell? ⟨b4, 8, none⟩ = some u := ⟨.int .i64 a.stamp, by rw [A2.out.cell, EA.out]; simp [ActV.cs]⟩
    have f8 := A2.out.frozen 8
    obtain ⟨u6, c6⟩ : ∃ u, wc.cell? ⟨b4, 6, none⟩ = some u := ⟨.bool a.found, by rw [A2.out.cell, EA.out]; simp [ActV.cs]⟩
    obtain ⟨u5, c5⟩ : ∃ u, wc.cell? ⟨b4, 5, none⟩ = some u := ⟨.string a.value, by rw [A2.out.cell, EA.out]; simp [ActV.cs]⟩
    have f6 := A2.out.frozen 6
    have f5 := A2.out.frozen 5
    clear F LL LR L4 L3 l1 l2 S0 S1 S2 hBW H1 T1 R1 A1 hY
    have F : Hid (∀ v, Chg (fun j => j = b4) wc v → v.cell? ⟨yb, 0, none⟩ = some (.bool y.1) ∧ v.cell? ⟨yb, 1, none⟩ = some (.string y.2.1) ∧ v.cell? ⟨yb, 2, none⟩ = some (.int .i64 y.2.2)) := Lib.hid (fun v hv => ⟨hv.cell n0 (Ne.symm y4), hv.cell n1 (Ne.symm y4), hv.cell n2 (Ne.symm y4)⟩)
    have S0 := Lib.hid (F.out wc.drew (Chg.refl _ _).drew)
    have S1 := Lib.hid (F.out (wc.setCell ⟨b4, 6, none⟩ (.bool y.1)).drew ((Chg.refl _ _).set1 6 _).drew)
    have S2 := Lib.hid (F.out ((wc.setCell ⟨b4, 6, none⟩ (.bool y.1)).setCell ⟨b4, 5, none⟩ (.string y.2.1)).drew (((Chg.refl _ _).set1 6 _).set1 5 _).drew)
    have S3 := Lib.hid (F.out (((wc.setCell ⟨b4, 6, none⟩ (.bool y.1)).setCell ⟨b4, 5, none⟩ (.string y.2.1)).setCell ⟨b4, 8, none⟩ (.int .i64 y.2.2)).drew ((((Chg.refl _ _).set1 6 _).set1 5 _).set1 8 _).drew)
    go_upto_region 7 with (fail)
    go_region_held3 (fun v => v.cell? ⟨yb, 0, none⟩ = some (.bool y.1) ∧ v.cell? ⟨yb, 1, none⟩ = some (.string y.2.1) ∧ v.cell? ⟨yb, 2, none⟩ = some (.int .i64 y.2.2)) (first | with_reducible exact S0.out | with_reducible exact S1.out | with_reducible exact S2.out | with_reducible exact S3.out) (fail)
    go_upto_region 8 with (fail)
    refine world_out (fun V hV => ?_)
    have B3 : Hid (Below w.heap.size w V) := Lib.hid (by rw [hV]; exact (((B2.out.setCell (p := ⟨b4, 6, none⟩) hbw _).setCell (p := ⟨b4, 5, none⟩) hbw _).setCell (p := ⟨b4, 8, none⟩) hbw _).drew)
    have A3' : Hid (Blk V b4 43 (seenAct a y).cs) := Lib.hid (by
      have h := (((A2.out.set_ 6 (.bool y.1)).set_ 5 (.string y.2.1)).set_ 8 (.int .i64 y.2.2)).drew
      rw [hV, show (seenAct a y).cs = ((A.setIfInBounds 6 (.bool y.1)).setIfInBounds 5 (.string y.2.1)).setIfInBounds 8 (.int .i64 y.2.2) by rw [EA.out]; simp [ActV.cs, seenAct]]
      exact h)
    have R3 : Hid (∃ Z, Blk V (b4 + 1) 102 Z ∧ Z.size = 13) := Lib.hid (by obtain ⟨Z, h1, h2⟩ := R2.out; rw [hV]; exact ⟨Z, (((h1.far (p := ⟨b4, 6, none⟩) (by show b4 + 1 ≠ b4; omega) _).far (p := ⟨b4, 5, none⟩) (by show b4 + 1 ≠ b4; omega) _).far (p := ⟨b4, 8, none⟩) (by show b4 + 1 ≠ b4; omega) _).drew, h2⟩)
    clear hV n0 n1 n2 c6 c5 c8 f6 f5 f8 S0 S1 S2 S3 F
    obtain ⟨AA, hAA⟩ : ∃ AA, AA = seenAct a y := ⟨_, rfl⟩
    rw [← hAA] at A3'
    have EAA := Lib.hid hAA
    clear hAA
    have g1 : HasN 11 V b4 0 := (blkN_has A3'.out AA.cells.1).1
    have g2 : valN 11 V b4 0 = #[.int .i64 AA.who, .int .i64 AA.call, .int .i64 AA.n, .int .i64 AA.c, .string AA.key, .string AA.value, .bool AA.found, .int .i64 AA.code, .int .i64 AA.stamp, .int .i64 AA.from_, .int .i64 AA.to] := by rw [(blkN_has A3'.out AA.cells.1).2, ActV.cs_eq]
    obtain ⟨Z, hZ, hzs⟩ := R3.out
    have rm : RoomN 13 V (b4 + 1) 0 := blkN_room hZ hzs
    have cw : CellsN 13 #[.slice none 0 0, .int .i64 AA.who, .int .i64 AA.call, .int .i64 AA.n, .int .i64 AA.c, .string AA.key, .string AA.value, .bool AA.found, .int .i64 AA.code, .int .i64 AA.stamp, .int .i64 AA.from_, .int .i64 AA.to, .bool true] := ⟨rfl, by simp [Value.oneCell']⟩
    have EV : Hid (callV (.slice none 0 0) AA true = .agg #[.slice none 0 0, .int .i64 AA.who, .int .i64 AA.call, .int .i64 AA.n, .int .i64 AA.c, .string AA.key, .string AA.value, .bool AA.found, .int .i64 AA.code, .int .i64 AA.stamp, .int .i64 AA.from_, .int .i64 AA.to, .bool true]) := Lib.hid (by simp [callV, ActV.cs])
    go_wp2_with fail
    generalize (#[.slice none 0 0, .int .i64 AA.who, .int .i64 AA.call, .int .i64 AA.n, .int .i64 AA.c, .string AA.key, .string AA.value, .bool AA.found, .int .i64 AA.code, .int .i64 AA.stamp, .int .i64 AA.from_, .int .i64 AA.to, .bool true] : Array Value) = C at cw EV ⊢
    have RF : Hid (Blk (putN V (b4 + 1) 0 C) (b4 + 1) 102 C) := Lib.hid (putN_fill hZ (hzs.trans cw.1.symm))
    have hl := load_call cw.1 RF.out.range
    exact bodyPost_ret (v := .tuple #[.agg C, .int .i64 0]) (by simp [results, Try.results44, asAddr, hl]) rfl ⟨by rw [← EAA.out, EV.out], putN_below B3.out (by omega) 0 C⟩
end Go.Proofs.Ytpaihfdmjkfegaa.Cl

/- read of a key that is neither laid nor read, over what lock hands back: walked. -/
namespace Go.Proofs.Ytpaihfdmjkfegaa.Cl
open Go.RowKit Go.Lib Go.Maps Go.Proofs.Ytpaihfdmjkfegaa.MapF Go.Proofs.Ytpaihfdmjkfegaa.Msg Go.Proofs.Ytpaihfdmjkfegaa.Cls Go.Proofs.Ytpaihfdmjkfegaa.Ck
attribute [local go_sem ↓] loadAct_eq storeAct_eq storeCall_eq loadCall_eq
attribute [local go_sem] run_loadAct run_storeAct run_storeCall run_loadCall

set_option maxRecDepth 100000 in
set_option maxHeartbeats 4000000 in
theorem read_ask (p : Nat) (c : Client) (A0 : Nat → Prop) (x : TxB) (t : TxS) (a : ActV) (w : World) (hC : ClAt w p c) (ht : c.vt = .pointer (some ⟨x.tb, 0, none⟩)) (hT : TxAt A0 w x t) (hk : okS a.key) (hn : t.la a.key = none) (hy : t.rd a.key = none) (R : World → World → Option Addr → Nat → Nat → ActV → Bool → Int → Prop)
    (hr : ∀ W, Below w.heap.size w W → Calls Try.prog 45 #[.pointer (some ⟨p, 0, none⟩), .agg a.cs, .int .i64 1] W fun e w' => ∃ A m cap a' d er, e = .returned (.tuple #[callV (.slice A m cap) a' d, .int .i64 er]) ∧ R W w' A m cap a' d er ∧ ∃ S, Chg S W w' ∧ ∀ j, w.heap.size ≤ j → j < W.heap.size → ¬ S j)
    (up : ∀ W w' w'' A m cap a' d er g0, Below w.heap.size w W → w.heap.size ≤ g0 → g0 < W.heap.size → R W w' A m cap a' d er → Chg (fun j => j = g0) w' w'' → R w w'' A m cap a' d er) :
    Calls Try.prog 44 #[.pointer (some ⟨p, 0, none⟩), .agg a.cs] w fun e w' => ∃ A m cap a' d er, e = .returned (.tuple #[callV (.slice A m cap) a' d, .int .i64 er]) ∧ R w w' A m cap a' d er := by
  have H := Lib.hid hC
  have HT := Lib.hid hT
  have HTT := Lib.hid ht
  have hp := hC.blk.lt
  obtain ⟨A, hA⟩ : ∃ A, A = a.cs := ⟨_, rfl⟩
  have A3 : A[4]? = some (.string a.key) := by rw [hA]; simp [ActV.cs]
  have AC : Hid (CellsN 11 A) := Lib.hid (hA ▸ a.cells)
  have EA := Lib.hid hA
  rw [← hA]
  have L4 : Hid (∀ v, Below w.heap.size w v → (Instr.lookup 46 (.map (some x.m4)) (.string a.key) true).run Try.prog v = .ok (.tuple #[.agg #[.string ByteArray.empty, .string ByteArray.empty, .bool false], .bool false]) v) := Lib.hid (fun v hv => by
    have h := ((hT.keep hv).k4).look_ok Try.underlying46 (z0 := (ByteArray.empty, ByteArray.empty, false)) (zero63 v) a.key hk
    rw [hn] at h
    exact h)
  have L3 : Hid (∀ v, Below w.heap.size w v → (Instr.lookup 108 (.map (some x.m3)) (.string a.key) true).run Try.prog v = .ok (.tuple #[.agg #[.bool false, .string ByteArray.empty, .int .i64 0], .bool false]) v) := Lib.hid (fun v hv => by
    have h := ((hT.keep hv).k3).look_ok Try.underlying108 (z0 := (false, ByteArray.empty, 0)) (zero106 v) a.key hk
    rw [hy] at h
    exact h)
  have HR := Lib.hid (And.intro hr up)
  clear hC ht hT hk hy hn hA hr up
  go_enter Try.func44, Try.ntmps44
  go_upto_region 1 with (fail)
  refine world_out (fun W hW => ?_)
  obtain ⟨b4, hb4⟩ : ∃ b, b = w.heap.size := ⟨_, rfl⟩
  have BW : Hid (Below w.heap.size w W) := Lib.hid (by rw [hW]; exact ((Below.refl _ _).alloc (Nat.le_refl _) _).alloc (by simp) _)
  have A1 : Hid (Blk W b4 43 A) := Lib.hid (by rw [hW, hb4]; exact (Blk.new w 43 A).alloc _)
  have R1 : Hid (∃ Z, Blk W (b4 + 1) 102 Z ∧ Z.size = 13) := Lib.hid ⟨_, by rw [hW, hb4]; exact Blk.new2 w 43 A 102 _, rfl⟩
  have H1 := Lib.hid (H.out.below BW.out hp)
  have T1 := Lib.hid (HT.out.keep BW.out)
  have hbw : w.heap.size ≤ b4 := Nat.le_of_eq hb4.symm
  rw [← hb4]
  clear hW hb4
  have F : Hid (∀ v, Below W.heap.size W v → v.cell? ⟨p, 7, none⟩ = some (.pointer (some ⟨x.tb, 0, none⟩)) ∧ v.cell? ⟨x.tb, 7, none⟩ = some (.map (some x.m4)) ∧ v.cell? ⟨x.tb, 6, none⟩ = some (.map (some x.m3)) ∧ v.cell? ⟨b4, 4, none⟩ = some (.string a.key)) := Lib.hid (fun v hv => by
    have c7 := (H1.out.below hv H1.out.blk.lt).vt
    rw [HTT.out] at c7
    have t := (T1.out.keep hv).blk
    have z := A1.out.below hv A1.out.lt
    exact ⟨c7, t.cell 7, t.cell 6, by rw [z.cell]; exact A3⟩)
  have LL : Hid (∀ v, Below W.heap.size W v → (Instr.lookup 46 (.map (some x.m4)) (.string a.key) true).run Try.prog v = .ok (.tuple #[.agg #[.string ByteArray.empty, .string ByteArray.empty, .bool false], .bool false]) v) := Lib.hid (fun v hv => L4.out v (BW.out.trans (hv.mono BW.out.size)))
  have LR : Hid (∀ v, Below W.heap.size W v → (Instr.lookup 108 (.map (some x.m3)) (.string a.key) true).run Try.prog v = .ok (.tuple #[.agg #[.bool false, .string ByteArray.empty, .int .i64 0], .bool false]) v) := Lib.hid (fun v hv => L3.out v (BW.out.trans (hv.mono BW.out.size)))
  have S0 := Lib.hid (F.out W (Below.refl _ _))
  have S1 := Lib.hid (F.out (W.alloc (.cells #[.string ⟨#[]⟩, .string ⟨#[]⟩, .bool false] 63)) ((Below.refl _ _).alloc (Nat.le_refl _) _))
  have l1 := LL.out W.drew (Below.refl _ _).drew
  have l2 := LL.out (W.alloc (.cells #[.string ⟨#[]⟩, .string ⟨#[]⟩, .bool false] 63)).drew ((Below.refl _ _).alloc (Nat.le_refl _) _).drew
  go_cut [6, 7] from 10 (NoneR W)
  case first =>
    have BA : Hid (Below W.heap.size W (W.alloc (.cells #[.string ByteArray.empty, .string ByteArray.empty, .bool false] 63)).drew) := Lib.hid ((Below.refl _ _).alloc (Nat.le_refl _) _).drew
    go_region_held3 (fun v => v.cell? ⟨p, 7, none⟩ = some (.pointer (some ⟨x.tb, 0, none⟩)) ∧ v.cell? ⟨x.tb, 7, none⟩ = some (.map (some x.m4)) ∧ v.cell? ⟨x.tb, 6, none⟩ = some (.map (some x.m3)) ∧ v.cell? ⟨b4, 4, none⟩ = some (.string a.key)) (first | exact S0.out | exact S1.out) (fail)
    all_goals
      go_wp2_with fail
      go_meet
      case rel => exact ⟨rfl, BA.out⟩
  case rest =>
  obtain ⟨rfl, hB0⟩ := hcut
  have BN : Hid (Below W.heap.size W wc) := Lib.hid hB0
  clear l1 l2 S0 S1 hB0
  go_upto_region 5 with (fail)
  have S0 := Lib.hid (F.out wc BN.out)
  have S1 := Lib.hid (F.out (wc.alloc (.cells #[.bool false, .string ⟨#[]⟩, .int .i64 0] 106)) (BN.out.alloc BN.out.size _))
  have l1 := LR.out wc.drew BN.out.drew
  have l2 := LR.out (wc.alloc (.cells #[.bool false, .string ⟨#[]⟩, .int .i64 0] 106)).drew (BN.out.alloc BN.out.size _).drew
  go_cut [8, 9] from 33 (NoneR wc)
  case first =>
    go_region_held3 (fun v => v.cell? ⟨p, 7, none⟩ = some (.pointer (some ⟨x.tb, 0, none⟩)) ∧ v.cell? ⟨x.tb, 7, none⟩ = some (.map (some x.m4)) ∧ v.cell? ⟨x.tb, 6, none⟩ = some (.map (some x.m3)) ∧ v.cell? ⟨b4, 4, none⟩ = some (.string a.key)) (first | exact S0.out | exact S1.out) (fail)
    all_goals
      go_wp2_with fail
      go_meet
      case rel => exact ⟨rfl, (Below.refl _ _).alloc (Nat.le_refl _) _ |>.drew⟩
  case rest =>
    obtain ⟨rfl, hBW0⟩ := hcut
    have hBW := BN.out.trans (hBW0.mono BN.out.size)
    have B2 : Hid (Below w.heap.size w wc) := Lib.hid (BW.out.trans (hBW.mono BW.out.size))
    have A2 : Hid (Blk wc b4 43 A) := Lib.hid (A1.out.below hBW A1.out.lt)
    have R2 : Hid (∃ Z, Blk wc (b4 + 1) 102 Z ∧ Z.size = 13) := Lib.hid (by obtain ⟨Z, h1, h2⟩ := R1.out; exact ⟨Z, h1.below hBW h1.lt, h2⟩)
    clear F LL LR L4 L3 l1 l2 S0 S1 hBW hBW0 H1 T1 R1 A1
    obtain ⟨g1, g2⟩ := blkN_has A2.out AC.out.1
    rw [EA.out] at g2
    obtain ⟨Z, hZ, hzs⟩ := R2.out
    have lw := hZ.lt
    have HC0 := Lib.hid (HR.out.1 wc B2.out)
    go_wp2_with (go_at_call 45; go_loud (refine HC0.out.mono ?_; rintro e w9 ⟨A', m', cap', a', d', er, rfl, hL, hS⟩; have HL := Lib.hid hL; have hZ9 : Blk w9 (b4 + 1) 102 Z := Exists.elim hS (fun S hS => hZ.chg hS.1 (hS.2 _ (Nat.le_succ_of_le hbw) lw)); have rm := blkN_room hZ9 hzs; obtain ⟨C, hC, hcc⟩ := callV_ok A' m' cap' a' d'; rw [hC]; have HC := Lib.hid hC; clear hL hC hS))
    have RF : Hid (Blk (putN w9 (b4 + 1) 0 C) (b4 + 1) 102 C) := Lib.hid (putN_fill hZ9 (hzs.trans hcc.1.symm))
    have LF := Lib.hid (HR.out.2 _ _ _ _ _ _ _ _ _ (b4 + 1) B2.out (Nat.le_succ_of_le hbw) lw HL.out (putN_chg (S := fun j => j = b4 + 1) (Chg.refl _ w9) (.inr rfl) 0 C))
    have hl := load_call hcc.1 RF.out.range
    exact bodyPost_ret (v := .tuple #[.agg C, .int .i64 er]) (by simp [results, Try.results44, asAddr, hl]) rfl ⟨A', m', cap', a', d', er, by rw [HC.out], LF.out⟩
end Go.Proofs.Ytpaihfdmjkfegaa.Cl

/- lock where too many keys are asked for: walked. -/
namespace Go.Proofs.Ytpaihfdmjkfegaa.Cl
open Go.RowKit Go.Lib Go.Maps Go.Proofs.Ytpaihfdmjkfegaa.MapF Go.Proofs.Ytpaihfdmjkfegaa.Msg Go.Proofs.Ytpaihfdmjkfegaa.Cls Go.Proofs.Ytpaihfdmjkfegaa.Ck
attribute [local go_sem ↓] loadAct_eq storeAct_eq storeCall_eq loadCall_eq
attribute [local go_sem] run_loadAct run_storeAct run_storeCall run_loadCall

set_option maxRecDepth 100000 in
set_option maxHeartbeats 4000000 in
theorem lock_many (p : Nat) (c : Client) (A0 : Nat → Prop) (x : TxB) (t : TxS) (a : ActV) (mode : Int) (w : World) (hC : ClAt w p c) (ht : c.vt = .pointer (some ⟨x.tb, 0, none⟩)) (hT : TxAt A0 w x t) (hk : okS a.key) (hn : a.key ∉ t.ks) (h16 : 16 ≤ t.ks.length) :
    Calls Try.prog 45 #[.pointer (some ⟨p, 0, none⟩), .agg a.cs, .int .i64 mode] w fun e w' => e = .returned (.tuple #[callV (.slice none 0 0) zeroAct false, .int .i64 230]) ∧ Below w.heap.size w w' := by
  have H := Lib.hid hC
  have HT := Lib.hid hT
  have HTT := Lib.hid ht
  have hp := hC.blk.lt
  have LN := Lib.hid (fun (v : World) (hv : Below w.heap.size w v) => isF_len (M := mB) (fun _ => rfl) (fun _ => Iff.rfl) ((hT.keep hv).k1) t.ks hT.ksN.1 hT.ksN.2 (fun y => by unfold setF; by_cases h : y ∈ t.ks <;> simp [h]) Try.underlying107 3)
  have LK : Hid (∀ v, Below w.heap.size w v → (Instr.lookup 107 (.map (some x.m1)) (.string a.key) false).run Try.prog v = .ok (.bool false) v) := Lib.hid (fun v hv => by
    have h := ((hT.keep hv).k1).look Try.underlying107 (z0 := false) (zero4 v) a.key hk
    rw [show setF t.ks a.key = none by unfold setF; rw [if_neg hn]] at h
    exact h)
  obtain ⟨nk, hnk⟩ : ∃ nk, nk = t.ks.length := ⟨_, rfl⟩
  rw [← hnk] at LN h16
  have h16' : (16 : Int) ≤ (nk : Int) := by omega
  obtain ⟨A, hA⟩ : ∃ A, A = a.cs := ⟨_, rfl⟩
  have A3 : A[4]? = some (.string a.key) := by rw [hA]; simp [ActV.cs]
  rw [← hA]
  clear hC ht hT hk hn hA hnk
  go_enter Try.func45, Try.ntmps45
  go_upto_region 1 with (fail)
  refine world_out (fun W hW => ?_)
  obtain ⟨b4, hb4⟩ : ∃ b, b = w.heap.size := ⟨_, rfl⟩
  have BW : Hid (Below w.heap.size w W) := Lib.hid (by rw [hW]; exact ((Below.refl _ _).alloc (Nat.le_refl _) _).alloc (by simp) _)
  have A1 : Hid (Blk W b4 43 A) := Lib.hid (by rw [hW, hb4]; exact (Blk.new w 43 A).alloc _)
  have R1 : Hid (∃ Z, Blk W (b4 + 1) 102 Z ∧ Z.size = 13) := Lib.hid ⟨_, by rw [hW, hb4]; exact Blk.new2 w 43 A 102 _, rfl⟩
  have hbw : w.heap.size ≤ b4 := Nat.le_of_eq hb4.symm
  rw [← hb4]
  clear hW hb4
  have c7 := (H.out.below BW.out hp).vt
  rw [HTT.out] at c7
  have t4 : W.cell? ⟨x.tb, 4, none⟩ = some (.map (some x.m1)) := (HT.out.keep BW.out).blk.cell 4
  have a3 : W.cell? ⟨b4, 4, none⟩ = some (.string a.key) := by rw [A1.out.cell]; exact A3
  have lkd : ∀ n, (Instr.lookup 107 (.map (some x.m1)) (.string a.key) false).run Try.prog (W.drewN n) = .ok (.bool false) (W.drewN n) := fun n => LK.out _ (below_drewN BW.out n)
  have lnd : ∀ n, (Builtin.len_ #[107] 3 #[.map (some x.m1)]).run Try.prog (W.drewN n) = .ok (.int .i64 nk) (W.drewN n) := fun n => LN.out _ (below_drewN BW.out n)
  go_upto_region 2 with (fail)
  go_quiet (fail)
  go_upto_region 3 with (fail)
  refine world_out (fun V hV => ?_)
  have BV : Hid (Below w.heap.size w V) := Lib.hid (by rw [hV]; exact below_drewN BW.out _)
  obtain ⟨Z, hZ0, hzs⟩ := R1.out
  have hZ : Blk V (b4 + 1) 102 Z := by rw [hV]; exact hZ0.drewN _
  have rm := blkN_room (n := 13) hZ hzs
  have cz : CellsN 13 #[.slice none 0 0, .int .i64 0, .int .i64 0, .int .i64 0, .int .i64 0, .string ⟨#[]⟩, .string ⟨#[]⟩, .bool false, .int .i64 0, .int .i64 0, .int .i64 0, .int .i64 0, .bool false] := ⟨rfl, by simp [Value.oneCell']⟩
  have CV : Hid (callV (.slice none 0 0) zeroAct false = .agg #[.slice none 0 0, .int .i64 0, .int .i64 0, .int .i64 0, .int .i64 0, .string ⟨#[]⟩, .string ⟨#[]⟩, .bool false, .int .i64 0, .int .i64 0, .int .i64 0, .int .i64 0, .bool false]) := Lib.hid (by simp [callV, zeroAct, ActV.cs])
  clear hV
  go_wp2_with fail
  generalize (#[.slice none 0 0, .int .i64 0, .int .i64 0, .int .i64 0, .int .i64 0, .string ⟨#[]⟩, .string ⟨#[]⟩, .bool false, .int .i64 0, .int .i64 0, .int .i64 0, .int .i64 0, .bool false] : Array Value) = C at cz CV ⊢
  have RF : Hid (Blk (putN V (b4 + 1) 0 C) (b4 + 1) 102 C) := Lib.hid (putN_fill hZ (hzs.trans cz.1.symm))
  have hl := load_call cz.1 RF.out.range
  exact bodyPost_ret (v := .tuple #[.agg C, .int .i64 230]) (by simp [results, Try.results45, asAddr, hl]) rfl ⟨by rw [CV.out], putN_below BV.out (by omega) 0 C⟩
end Go.Proofs.Ytpaihfdmjkfegaa.Cl
