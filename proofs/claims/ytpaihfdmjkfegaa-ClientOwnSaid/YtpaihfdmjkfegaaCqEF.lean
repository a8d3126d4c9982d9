/- Take of OK answers to a write, a deletion, a commit, an abort: walked (printed by take_mk.py). -/
import Derived.Test.YtpaihfdmjkfegaaCqAD
/- Take of OK answers to a write, a deletion, a commit, an abort: walked (printed by take_mk.py). -/
namespace Go.Proofs.Ytpaihfdmjkfegaa.Cl
open Go.RowKit Go.Lib Go.Maps Go.Proofs.Ytpaihfdmjkfegaa.MapF Go.Proofs.Ytpaihfdmjkfegaa.Msg Go.Proofs.Ytpaihfdmjkfegaa.Ck

attribute [local go_sem ↓] loadAct_eq storeAct_eq
attribute [local go_sem] run_loadAct run_storeAct

def okAct (a : ActV) : ActV := { a with code := 0 }
def okActS (a : ActV) (st : Int) : ActV := { a with code := 0, stamp := st }

set_option maxRecDepth 100000 in
set_option maxHeartbeats 4000000 in
theorem take_lay (kd : Int) (hkd : kd = 3 ∨ kd = 4) (p : Nat) (c : Client) (A0 : Nat → Prop) (x : TxB) (t : TxS) (C : Array Value) (s n cc st : Int) (w : World) (h : ClAt w p c) (hw : c.waits = true)
    (hcall : c.act.call = kd) (ht : c.vt = .pointer (some ⟨x.tb, 0, none⟩)) (hT : TxAt A0 w x t) (hN : x.N + 1 < maxLen) (hk : okS c.act.key)
    (hC : MsgC C) (C0 : C[0]? = some (.int .i64 9)) (C12 : C[12]? = some (.int .i64 s)) (C13 : C[13]? = some (.int .i64 n)) (C14 : C[14]? = some (.int .i64 cc)) (C22 : C[22]? = some (.int .i64 0)) (C20 : C[20]? = some (.int .i64 st))
    (M12 : c.M[12]? = some (.int .i64 s)) (M13 : c.M[13]? = some (.int .i64 n)) (M14 : c.M[14]? = some (.int .i64 cc)) :
    Calls Try.prog 15 #[.pointer (some ⟨p, 0, none⟩), .agg C] w fun e w' => e = .returned (.tuple #[.agg (okAct c.act).cs, .bool true]) ∧ ClAt w' p { c with waits := false, cnt := newCnt c.cnt st } ∧
      TxAt A0 w' { x with N := x.N + 1 } (layT t c.act.key c.act.value (c.act.call == 4)) ∧ Chg (fun b => b = p ∨ b = x.m2 ∨ b = x.m4) w w' := by
  have H := Lib.hid h
  have hp := h.blk.lt
  have CC := Lib.hid (And.intro C0 (And.intro C12 (And.intro C13 (And.intro C14 (And.intro C22 (And.intro C20 True.intro))))))
  have MM := Lib.hid (And.intro M12 (And.intro M13 M14))
  have HC := Lib.hid hC
  have TT := Lib.hid (And.intro hT (And.intro hN hk))
  have ptb : p ≠ x.tb := h.blk.ne_ hT.blk (by decide)
  have pm2 : p ≠ x.m2 := hT.k2.isMp.ne_blk h.blk
  have pm4 : p ≠ x.m4 := hT.k4.isMp.ne_blk h.blk
  have pmm : p ≠ x.m1 ∧ p ≠ x.m3 := ⟨hT.k1.isMp.ne_blk h.blk, hT.k3.isMp.ne_blk h.blk⟩
  have pvs : x.vs.ownBlock ≠ some p := fun e => by
    rcases hT.gr.2 with ⟨e', _⟩ | ⟨g', cap', cur, e', _, hg, _⟩
    · rw [e'] at e; cases e
    · rw [e'] at e
      have : g' = p := by simpa [Value.ownBlock] using e
      subst this
      exact Blk.ne_ (t := 3) hg h.blk (by decide) rfl
  have HCALL := Lib.hid hcall
  clear h C0 C12 C13 C14 C22 C20 M12 M13 M14 hC hcall hT hN hk
  go_enter Try.func15, Try.ntmps15
  go_upto_region 1 with (fail)
  refine world_out (fun W hW => ?_)
  obtain ⟨b, hb⟩ : ∃ b, b = w.heap.size := ⟨_, rfl⟩
  have BW : Hid (Below w.heap.size w W) := Lib.hid (by rw [hW]; exact ((Below.refl _ _).alloc (Nat.le_refl _) _).alloc (by simp) _)
  have BC : Hid (Blk W b 55 C) := Lib.hid (by rw [hW, hb]; exact (Blk.new w 55 C).alloc _)
  have BR : Hid (Blk W (b + 1) 43 zeroAct.cs) := Lib.hid (by rw [hW, hb]; exact Blk.new2 w 55 C 43 _)
  have H1 := Lib.hid (H.out.below BW.out hp)
  rw [← hb]
  have hbw : w.heap.size ≤ b := by omega
  have pb : p < b := by omega
  clear hW hb
  have b0 : W.cell? ⟨b, 0, none⟩ = some (.int .i64 9) := by rw [BC.out.cell]; exact CC.out.1
  have b12 : W.cell? ⟨b, 12, none⟩ = some (.int .i64 s) := by rw [BC.out.cell]; exact CC.out.2.1
  have b13 : W.cell? ⟨b, 13, none⟩ = some (.int .i64 n) := by rw [BC.out.cell]; exact CC.out.2.2.1
  have b14 : W.cell? ⟨b, 14, none⟩ = some (.int .i64 cc) := by rw [BC.out.cell]; exact CC.out.2.2.2.1
  have p8 := H1.out.waits
  rw [hw] at p8
  have p23 : W.cell? ⟨p, 23, none⟩ = some (.int .i64 s) := H1.out.m 12 (by decide) MM.out.1
  have p24 : W.cell? ⟨p, 24, none⟩ = some (.int .i64 n) := H1.out.m 13 (by decide) MM.out.2.1
  have p25 : W.cell? ⟨p, 25, none⟩ = some (.int .i64 cc) := H1.out.m 14 (by decide) MM.out.2.2
  go_quiet (fail)
  go_upto_region 3 with (fail)
  refine world_out (fun V hV => ?_)
  have BV : Hid (Below w.heap.size w V) := Lib.hid (by rw [hV]; exact below_drewN BW.out _)
  have CV : Hid (Blk V b 55 C) := Lib.hid (by rw [hV]; exact BC.out.drewN _)
  have RV : Hid (Blk V (b + 1) 43 zeroAct.cs) := Lib.hid (by rw [hV]; exact BR.out.drewN _)
  have H2 := Lib.hid (H.out.below BV.out hp)
  clear hV b0 b12 b13 b14 p8 p23 p24 p25 H1 BW BC BR
  have b22 : V.cell? ⟨b, 22, none⟩ = some (.int .i64 0) := by rw [CV.out.cell]; exact CC.out.2.2.2.2.1
  have p8 := H2.out.waits
  have f8 := H2.out.frz 8
  go_upto_region 8 with (fail)
  refine world_out (fun X hX => ?_)
  have HX : Hid (ClAt X p { c with waits := false }) := Lib.hid (by rw [hX]; exact H2.out.put 8 _ (by decide) rfl rfl rfl)
  have KX : Hid (Chg (fun b => b = p) w X) := Lib.hid (by rw [hX]; exact (Chg.of (S := fun b => b = p) BV.out).set (p := ⟨p, 8, none⟩) (.inr rfl) _)
  have CX : Hid (Blk X b 55 C) := Lib.hid (by rw [hX]; exact CV.out.far (p := ⟨p, 8, none⟩) (by show b ≠ p; omega) _)
  have RX : Hid (Blk X (b + 1) 43 zeroAct.cs) := Lib.hid (by rw [hX]; exact RV.out.far (p := ⟨p, 8, none⟩) (by show b + 1 ≠ p; omega) _)
  clear hX b22 p8 f8 H2 BV CV RV
  go_cut [83] from 8 (CntB p c st X)
  case first =>
    have x20 : X.cell? ⟨b, 20, none⟩ = some (.int .i64 st) := by rw [CX.out.cell]; exact CC.out.2.2.2.2.2.1
    have x5 : X.cell? ⟨p, 5, none⟩ = some (.int .i64 c.cnt) := HX.out.cnt
    by_cases h1 : c.cnt < st
    · by_cases h2 : st ≤ 1099511627776
      · go_quiet (fail)
        go_wp2_with fail
        go_meet
        case rel => exact ⟨congrArg Value.bool (decide_eq_true (by omega)).symm, HX.out.drewN _, (Chg.refl _ X).drewN _⟩
      · go_quiet (fail)
        go_wp2_with fail
        go_meet
        case rel => exact ⟨congrArg Value.bool (decide_eq_false (by omega)).symm, HX.out.drewN _, (Chg.refl _ X).drewN _⟩
    · go_quiet (fail)
      go_wp2_with fail
      go_meet
      case rel => exact ⟨congrArg Value.bool (decide_eq_false (by omega)).symm, HX.out.drewN _, (Chg.refl _ X).drewN _⟩
  case rest =>
  obtain ⟨rfl, hcl, hch⟩ := hcut
  have HY := Lib.hid hcl
  have KY := Lib.hid hch
  have CY : Hid (Blk wc b 55 C) := Lib.hid (CX.out.chg hch (by omega))
  clear hcl hch
  obtain ⟨bb, hbb⟩ : ∃ bb, bb = decide (c.cnt < st ∧ st ≤ 1099511627776) := ⟨_, rfl⟩
  have HB := Lib.hid hbb
  rw [← hbb]
  clear hbb
  go_upto_if 83 with (fail)
  go_cut [5] from 8 (CntR p c st X)
  case first =>
    cases bb with
    | true =>
      have x20 : wc.cell? ⟨b, 20, none⟩ = some (.int .i64 st) := by rw [CY.out.cell]; exact CC.out.2.2.2.2.2.1
      have x5 : wc.cell? ⟨p, 5, none⟩ = some (.int .i64 c.cnt) := HY.out.cnt
      have g5 := HY.out.frz 5
      go_wp2_with fail
      go_meet
      case rel =>
        have e : newCnt c.cnt st = st := if_pos (of_decide_eq_true HB.out.symm)
        exact ⟨rfl, by rw [e]; exact HY.out.put (c' := { c with waits := false, cnt := st }) 5 (.int .i64 st) (by decide) rfl rfl rfl, KY.out.set (p := ⟨p, 5, none⟩) (.inr rfl) _⟩
    | false =>
      go_wp2_with fail
      go_meet
      case rel =>
        have e : newCnt c.cnt st = c.cnt := if_neg (of_decide_eq_false HB.out.symm)
        exact ⟨rfl, by rw [e]; exact HY.out, KY.out⟩
  case rest =>
    obtain ⟨rfl, hcl, hch⟩ := hcut
    clear HY KY CY HB
    have HY := Lib.hid hcl
    have KY : Hid (Chg (fun b => b = p) w wc) := Lib.hid (KX.out.on hch)
    have CY : Hid (Blk wc b 55 C) := Lib.hid (CX.out.chg hch (by omega))
    have RY : Hid (Blk wc (b + 1) 43 zeroAct.cs) := Lib.hid (RX.out.chg hch (by omega))
    have LY := RY.out.lt
    clear hcl hch HX KX CX RX
    obtain ⟨g1, g2⟩ := HY.out.hasA
    obtain ⟨A, hA⟩ : ∃ A, A = c.act.cs := ⟨_, rfl⟩
    have AC : CellsN 11 A := hA ▸ c.act.cells
    rw [← hA] at g2
    have EA := Lib.hid hA
    have rn := roomN_new (n := 11) wc 43 #[.int .i64 0, .int .i64 0, .int .i64 0, .int .i64 0, .string ⟨#[]⟩, .string ⟨#[]⟩, .bool false, .int .i64 0, .int .i64 0, .int .i64 0, .int .i64 0] rfl
    clear hA
    go_upto_region 11 with (fail)
    refine world_out (fun Y hY => ?_)
    obtain ⟨d, hd⟩ : ∃ d, d = wc.heap.size := ⟨_, rfl⟩
    rw [← hd] at hY LY ⊢
    have PY : Hid (Blk Y d 43 A) := Lib.hid (by rw [hY, hd]; exact putN_fill (Blk.new wc 43 _) (by rw [AC.1]; rfl))
    have LL : Hid (d < Y.heap.size) := Lib.hid PY.out.lt
    have BY : Hid (Below wc.heap.size wc Y) := Lib.hid (by rw [hY]; exact putN_below ((Below.refl _ _).alloc (Nat.le_refl _) _) (by omega) 0 A)
    have HZ : Hid (ClAt Y p { c with waits := false, cnt := newCnt c.cnt st }) := Lib.hid (HY.out.below BY.out HY.out.blk.lt)
    have KZ : Hid (Chg (fun b => b = p) w Y) := Lib.hid (KY.out.then BY.out)
    have CZ : Hid (Blk Y b 55 C) := Lib.hid (CY.out.below BY.out CY.out.lt)
    have RZ : Hid (Blk Y (b + 1) 43 zeroAct.cs) := Lib.hid (RY.out.below BY.out RY.out.lt)
    clear hY g1 g2 rn hd HY KY CY RY BY
    have y22 : Y.cell? ⟨b, 22, none⟩ = some (.int .i64 0) := by rw [CZ.out.cell]; exact CC.out.2.2.2.2.1
    have d1 : Y.cell? ⟨d, 1, none⟩ = some (.int .i64 kd) := by rw [PY.out.cell, EA.out]; simp [ActV.cs, HCALL.out]
    have d7 := PY.out.cell 7
    rw [EA.out] at d7
    simp only [ActV.cs] at d7
    have fd := PY.out.frozen 7
    have bd : b ≠ d := by omega
    have t1 : Hid (TxAt A0 Y x t) := Lib.hid (by
      have h0 := TT.out.1
      exact ⟨h0.blk.chg KZ.out (Ne.symm ptb), own_same h0.gr (fun b hb hv => KZ.out.block b hb (fun e => pvs (e ▸ hv))), h0.grA, isF_same h0.k1 (KZ.out.block _ h0.k1.lt (Ne.symm pmm.1)), isF_same h0.k2 (KZ.out.block _ h0.k2.lt (Ne.symm pm2)), isF_same h0.k3 (KZ.out.block _ h0.k3.lt (Ne.symm pmm.2)), isF_same h0.k4 (KZ.out.block _ h0.k4.lt (Ne.symm pm4)), h0.ne, h0.inA, h0.ksN, h0.lsN⟩)
    have l2 : x.m2 < w.heap.size := TT.out.1.k2.lt
    have l4 : x.m4 < w.heap.size := TT.out.1.k4.lt
    rcases hkd with rfl | rfl
    all_goals
      go_upto_region 23 with (fail)
      refine world_out (fun V hV => ?_)
      have P1 : Hid (Blk V d 43 (okAct c.act).cs) := Lib.hid (by
        have := PY.out.set_ 7 (.int .i64 0)
        rw [hV, show (okAct c.act).cs = A.setIfInBounds 7 (.int .i64 0) by rw [EA.out]; simp [okAct, ActV.cs]]
        exact this)
      have K1 : Hid (Chg (fun j => j = d) Y V) := Lib.hid (by rw [hV]; exact (Chg.refl _ _).set1 7 _)
      have Z1 := Lib.hid (HZ.out.chg K1.out (by omega))
      have R1 := Lib.hid (RZ.out.chg K1.out (by omega))
      have T1 : Hid (TxAt A0 V x t) := Lib.hid (by
        have h0 := t1.out
        have hb : ∀ b, b < w.heap.size → b ≠ d := fun b hb => by omega
        exact ⟨h0.blk.chg K1.out (hb _ TT.out.1.blk.lt), own_same h0.gr (fun b hb' hv => K1.out.block b hb' (hb b (TT.out.1.gr.lt b hv).2)), h0.grA, isF_same h0.k1 (K1.out.block _ h0.k1.lt (hb _ TT.out.1.k1.lt)), isF_same h0.k2 (K1.out.block _ h0.k2.lt (hb _ l2)), isF_same h0.k3 (K1.out.block _ h0.k3.lt (hb _ TT.out.1.k3.lt)), isF_same h0.k4 (K1.out.block _ h0.k4.lt (hb _ l4)), h0.ne, h0.inA, h0.ksN, h0.lsN⟩)
      clear hV y22 d1 d7 fd
      obtain ⟨g1, g2⟩ := blkN_has P1.out (okAct c.act).cells.1
      go_upto_region 32 with (go_at_call 28; go_loud (refine (lay_any A0 p _ x t (okAct c.act) V Z1.out ht T1.out TT.out.2.1 TT.out.2.2).mono ?_; rintro e w5 ⟨rfl, r1, r2⟩; have LL := Lib.hid (And.intro r1 r2); clear r1 r2))
      have P5 := Lib.hid (P1.out.chg LL.out.2 (by omega))
      have R5 := Lib.hid (R1.out.chg LL.out.2 (by omega))
      have Z5 := Lib.hid (Z1.out.chg LL.out.2 (by omega))
      have K5 : Hid (Chg (fun j => j = p ∨ j = x.m2 ∨ j = x.m4 ∨ j = d) w w5) := Lib.hid (((KZ.out.more (fun _ _ e => .inl e)).on (K1.out.more (fun _ _ e => .inr (.inr (.inr e))))).on (LL.out.2.more (fun _ _ e => by omega)))
      clear g1 g2
      obtain ⟨D, hD⟩ : ∃ D, D = (okAct c.act).cs := ⟨_, rfl⟩
      have DC : CellsN 11 D := hD ▸ (okAct c.act).cells
      rw [← hD] at P5
      have ED := Lib.hid hD
      clear hD
      obtain ⟨g1, g2⟩ := blkN_has P5.out DC.1
      have rm : RoomN 11 w5 (b + 1) 0 := blkN_room (n := 11) R5.out rfl
      go_wp2_with fail
      have PF : Hid (Blk (putN w5 (b + 1) 0 D) (b + 1) 43 D) := Lib.hid (putN_fill R5.out (by rw [DC.1]; rfl))
      have hl := load_act DC.1 PF.out.range
      have KP : Chg (fun j => j = b + 1) w5 (putN w5 (b + 1) 0 D) := putN_chg (S := fun j => j = b + 1) (Chg.refl _ w5) (.inr rfl) 0 D
      have K0 : Chg (fun j => j = p ∨ j = x.m2 ∨ j = x.m4) w (putN w5 (b + 1) 0 D) := (K5.out.more (S' := fun j => j = p ∨ j = x.m2 ∨ j = x.m4) (fun j hj e => by omega)).trans KP (fun j hj e => by omega)
      refine bodyPost_ret (v := .tuple #[.agg D, .bool true]) (by simp [results, Try.results15, asAddr, hl]) rfl ⟨by rw [ED.out], ⟨putN_far Z5.out.blk (by omega), Z5.out.msg⟩, ?_, K0⟩
      have h0 := LL.out.1
      have hb : ∀ b', b' < w.heap.size → b' ≠ b + 1 := fun b' hb' => by omega
      exact ⟨h0.blk.chg KP (hb _ TT.out.1.blk.lt), own_same h0.gr (fun b' hb' hv => KP.block b' hb' (hb b' (TT.out.1.gr.lt b' hv).2)), h0.grA, isF_same h0.k1 (KP.block _ h0.k1.lt (hb _ TT.out.1.k1.lt)), isF_same h0.k2 (KP.block _ h0.k2.lt (hb _ l2)), isF_same h0.k3 (KP.block _ h0.k3.lt (hb _ TT.out.1.k3.lt)), isF_same h0.k4 (KP.block _ h0.k4.lt (hb _ l4)), h0.ne, h0.inA, h0.ksN, h0.lsN⟩

set_option maxRecDepth 100000 in
set_option maxHeartbeats 4000000 in
theorem take_close (kd : Int) (hkd : kd = 5 ∨ kd = 6) (p : Nat) (c : Client) (C : Array Value) (s n cc st : Int) (w : World) (h : ClAt w p c) (hw : c.waits = true)
    (hcall : c.act.call = kd)
    (hC : MsgC C) (C0 : C[0]? = some (.int .i64 9)) (C12 : C[12]? = some (.int .i64 s)) (C13 : C[13]? = some (.int .i64 n)) (C14 : C[14]? = some (.int .i64 cc)) (C22 : C[22]? = some (.int .i64 0)) (C20 : C[20]? = some (.int .i64 st))
    (M12 : c.M[12]? = some (.int .i64 s)) (M13 : c.M[13]? = some (.int .i64 n)) (M14 : c.M[14]? = some (.int .i64 cc)) :
    Calls Try.prog 15 #[.pointer (some ⟨p, 0, none⟩), .agg C] w fun e w' => e = .returned (.tuple #[.agg (okActS c.act st).cs, .bool true]) ∧ ClAt w' p { c with waits := false, cnt := newCnt c.cnt st, vt := .pointer none } ∧ Chg (fun b => b = p) w w' := by
  have H := Lib.hid h
  have hp := h.blk.lt
  have CC := Lib.hid (And.intro C0 (And.intro C12 (And.intro C13 (And.intro C14 (And.intro C22 (And.intro C20 True.intro))))))
  have MM := Lib.hid (And.intro M12 (And.intro M13 M14))
  have HC := Lib.hid hC
  have HCALL := Lib.hid hcall
  clear h C0 C12 C13 C14 C22 C20 M12 M13 M14 hC hcall
  go_enter Try.func15, Try.ntmps15
  go_upto_region 1 with (fail)
  refine world_out (fun W hW => ?_)
  obtain ⟨b, hb⟩ : ∃ b, b = w.heap.size := ⟨_, rfl⟩
  have BW : Hid (Below w.heap.size w W) := Lib.hid (by rw [hW]; exact ((Below.refl _ _).alloc (Nat.le_refl _) _).alloc (by simp) _)
  have BC : Hid (Blk W b 55 C) := Lib.hid (by rw [hW, hb]; exact (Blk.new w 55 C).alloc _)
  have BR : Hid (Blk W (b + 1) 43 zeroAct.cs) := Lib.hid (by rw [hW, hb]; exact Blk.new2 w 55 C 43 _)
  have H1 := Lib.hid (H.out.below BW.out hp)
  rw [← hb]
  have hbw : w.heap.size ≤ b := by omega
  have pb : p < b := by omega
  clear hW hb
  have b0 : W.cell? ⟨b, 0, none⟩ = some (.int .i64 9) := by rw [BC.out.cell]; exact CC.out.1
  have b12 : W.cell? ⟨b, 12, none⟩ = some (.int .i64 s) := by rw [BC.out.cell]; exact CC.out.2.1
  have b13 : W.cell? ⟨b, 13, none⟩ = some (.int .i64 n) := by rw [BC.out.cell]; exact CC.out.2.2.1
  have b14 : W.cell? ⟨b, 14, none⟩ = some (.int .i64 cc) := by rw [BC.out.cell]; exact CC.out.2.2.2.1
  have p8 := H1.out.waits
  rw [hw] at p8
  have p23 : W.cell? ⟨p, 23, none⟩ = some (.int .i64 s) := H1.out.m 12 (by decide) MM.out.1
  have p24 : W.cell? ⟨p, 24, none⟩ = some (.int .i64 n) := H1.out.m 13 (by decide) MM.out.2.1
  have p25 : W.cell? ⟨p, 25, none⟩ = some (.int .i64 cc) := H1.out.m 14 (by decide) MM.out.2.2
  go_quiet (fail)
  go_upto_region 3 with (fail)
  refine world_out (fun V hV => ?_)
  have BV : Hid (Below w.heap.size w V) := Lib.hid (by rw [hV]; exact below_drewN BW.out _)
  have CV : Hid (Blk V b 55 C) := Lib.hid (by rw [hV]; exact BC.out.drewN _)
  have RV : Hid (Blk V (b + 1) 43 zeroAct.cs) := Lib.hid (by rw [hV]; exact BR.out.drewN _)
  have H2 := Lib.hid (H.out.below BV.out hp)
  clear hV b0 b12 b13 b14 p8 p23 p24 p25 H1 BW BC BR
  have b22 : V.cell? ⟨b, 22, none⟩ = some (.int .i64 0) := by rw [CV.out.cell]; exact CC.out.2.2.2.2.1
  have p8 := H2.out.waits
  have f8 := H2.out.frz 8
  go_upto_region 8 with (fail)
  refine world_out (fun X hX => ?_)
  have HX : Hid (ClAt X p { c with waits := false }) := Lib.hid (by rw [hX]; exact H2.out.put 8 _ (by decide) rfl rfl rfl)
  have KX : Hid (Chg (fun b => b = p) w X) := Lib.hid (by rw [hX]; exact (Chg.of (S := fun b => b = p) BV.out).set (p := ⟨p, 8, none⟩) (.inr rfl) _)
  have CX : Hid (Blk X b 55 C) := Lib.hid (by rw [hX]; exact CV.out.far (p := ⟨p, 8, none⟩) (by show b ≠ p; omega) _)
  have RX : Hid (Blk X (b + 1) 43 zeroAct.cs) := Lib.hid (by rw [hX]; exact RV.out.far (p := ⟨p, 8, none⟩) (by show b + 1 ≠ p; omega) _)
  clear hX b22 p8 f8 H2 BV CV RV
  go_cut [83] from 8 (CntB p c st X)
  case first =>
    have x20 : X.cell? ⟨b, 20, none⟩ = some (.int .i64 st) := by rw [CX.out.cell]; exact CC.out.2.2.2.2.2.1
    have x5 : X.cell? ⟨p, 5, none⟩ = some (.int .i64 c.cnt) := HX.out.cnt
    by_cases h1 : c.cnt < st
    · by_cases h2 : st ≤ 1099511627776
      · go_quiet (fail)
        go_wp2_with fail
        go_meet
        case rel => exact ⟨congrArg Value.bool (decide_eq_true (by omega)).symm, HX.out.drewN _, (Chg.refl _ X).drewN _⟩
      · go_quiet (fail)
        go_wp2_with fail
        go_meet
        case rel => exact ⟨congrArg Value.bool (decide_eq_false (by omega)).symm, HX.out.drewN _, (Chg.refl _ X).drewN _⟩
    · go_quiet (fail)
      go_wp2_with fail
      go_meet
      case rel => exact ⟨congrArg Value.bool (decide_eq_false (by omega)).symm, HX.out.drewN _, (Chg.refl _ X).drewN _⟩
  case rest =>
  obtain ⟨rfl, hcl, hch⟩ := hcut
  have HY := Lib.hid hcl
  have KY := Lib.hid hch
  have CY : Hid (Blk wc b 55 C) := Lib.hid (CX.out.chg hch (by omega))
  clear hcl hch
  obtain ⟨bb, hbb⟩ : ∃ bb, bb = decide (c.cnt < st ∧ st ≤ 1099511627776) := ⟨_, rfl⟩
  have HB := Lib.hid hbb
  rw [← hbb]
  clear hbb
  go_upto_if 83 with (fail)
  go_cut [5] from 8 (CntR p c st X)
  case first =>
    cases bb with
    | true =>
      have x20 : wc.cell? ⟨b, 20, none⟩ = some (.int .i64 st) := by rw [CY.out.cell]; exact CC.out.2.2.2.2.2.1
      have x5 : wc.cell? ⟨p, 5, none⟩ = some (.int .i64 c.cnt) := HY.out.cnt
      have g5 := HY.out.frz 5
      go_wp2_with fail
      go_meet
      case rel =>
        have e : newCnt c.cnt st = st := if_pos (of_decide_eq_true HB.out.symm)
        exact ⟨rfl, by rw [e]; exact HY.out.put (c' := { c with waits := false, cnt := st }) 5 (.int .i64 st) (by decide) rfl rfl rfl, KY.out.set (p := ⟨p, 5, none⟩) (.inr rfl) _⟩
    | false =>
      go_wp2_with fail
      go_meet
      case rel =>
        have e : newCnt c.cnt st = c.cnt := if_neg (of_decide_eq_false HB.out.symm)
        exact ⟨rfl, by rw [e]; exact HY.out, KY.out⟩
  case rest =>
    obtain ⟨rfl, hcl, hch⟩ := hcut
    clear HY KY CY HB
    have HY := Lib.hid hcl
    have KY : Hid (Chg (fun b => b = p) w wc) := Lib.hid (KX.out.on hch)
    have CY : Hid (Blk wc b 55 C) := Lib.hid (CX.out.chg hch (by omega))
    have RY : Hid (Blk wc (b + 1) 43 zeroAct.cs) := Lib.hid (RX.out.chg hch (by omega))
    have LY := RY.out.lt
    clear hcl hch HX KX CX RX
    obtain ⟨g1, g2⟩ := HY.out.hasA
    obtain ⟨A, hA⟩ : ∃ A, A = c.act.cs := ⟨_, rfl⟩
    have AC : CellsN 11 A := hA ▸ c.act.cells
    rw [← hA] at g2
    have EA := Lib.hid hA
    have rn := roomN_new (n := 11) wc 43 #[.int .i64 0, .int .i64 0, .int .i64 0, .int .i64 0, .string ⟨#[]⟩, .string ⟨#[]⟩, .bool false, .int .i64 0, .int .i64 0, .int .i64 0, .int .i64 0] rfl
    clear hA
    go_upto_region 11 with (fail)
    refine world_out (fun Y hY => ?_)
    obtain ⟨d, hd⟩ : ∃ d, d = wc.heap.size := ⟨_, rfl⟩
    rw [← hd] at hY LY ⊢
    have PY : Hid (Blk Y d 43 A) := Lib.hid (by rw [hY, hd]; exact putN_fill (Blk.new wc 43 _) (by rw [AC.1]; rfl))
    have LL : Hid (d < Y.heap.size) := Lib.hid PY.out.lt
    have BY : Hid (Below wc.heap.size wc Y) := Lib.hid (by rw [hY]; exact putN_below ((Below.refl _ _).alloc (Nat.le_refl _) _) (by omega) 0 A)
    have HZ : Hid (ClAt Y p { c with waits := false, cnt := newCnt c.cnt st }) := Lib.hid (HY.out.below BY.out HY.out.blk.lt)
    have KZ : Hid (Chg (fun b => b = p) w Y) := Lib.hid (KY.out.then BY.out)
    have CZ : Hid (Blk Y b 55 C) := Lib.hid (CY.out.below BY.out CY.out.lt)
    have RZ : Hid (Blk Y (b + 1) 43 zeroAct.cs) := Lib.hid (RY.out.below BY.out RY.out.lt)
    clear hY g1 g2 rn hd HY KY CY RY BY
    have y22 : Y.cell? ⟨b, 22, none⟩ = some (.int .i64 0) := by rw [CZ.out.cell]; exact CC.out.2.2.2.2.1
    have d1 : Y.cell? ⟨d, 1, none⟩ = some (.int .i64 kd) := by rw [PY.out.cell, EA.out]; simp [ActV.cs, HCALL.out]
    have d7 := PY.out.cell 7
    rw [EA.out] at d7
    simp only [ActV.cs] at d7
    have fd := PY.out.frozen 7
    have bd : b ≠ d := by omega
    have y20 : Y.cell? ⟨b, 20, none⟩ = some (.int .i64 st) := by rw [CZ.out.cell]; exact CC.out.2.2.2.2.2.1
    have d8 := PY.out.cell 8
    rw [EA.out] at d8
    simp only [ActV.cs] at d8
    have fd8 := PY.out.frozen 8
    have p7 := HZ.out.vt
    have fp7 := HZ.out.frz 7
    have dp : ¬ d = p := by omega
    have bp : ¬ b = p := by omega
    rcases hkd with rfl | rfl
    all_goals
      go_upto_region 32 with (fail)
      refine world_out (fun w5 hV => ?_)
      have P5 : Hid (Blk w5 d 43 (okActS c.act st).cs) := Lib.hid (by
        have := ((PY.out.set_ 7 (.int .i64 0)).set_ 8 (.int .i64 st)).far (p := ⟨p, 7, none⟩) (by show d ≠ p; omega) (.pointer none)
        rw [hV, show (okActS c.act st).cs = (A.setIfInBounds 7 (.int .i64 0)).setIfInBounds 8 (.int .i64 st) by rw [EA.out]; simp [okActS, ActV.cs]]
        exact this)
      have K5 : Hid (Chg (fun j => j = p ∨ j = d) w w5) := Lib.hid (by
        rw [hV]
        exact (((KZ.out.more (S' := fun j => j = p ∨ j = d) (fun _ _ e => .inl e)).set (p := ⟨d, 7, none⟩) (.inr (.inr rfl)) _).set (p := ⟨d, 8, none⟩) (.inr (.inr rfl)) _).set (p := ⟨p, 7, none⟩) (.inr (.inl rfl)) _)
      have Z5 : Hid (ClAt w5 p { c with waits := false, cnt := newCnt c.cnt st, vt := .pointer none }) := Lib.hid (by
        rw [hV]
        have h1 : ClAt ((Y.setCell ⟨d, 7, none⟩ (.int .i64 0)).setCell ⟨d, 8, none⟩ (.int .i64 st)) p { c with waits := false, cnt := newCnt c.cnt st } := ⟨(HZ.out.blk.far (p := ⟨d, 7, none⟩) (by show p ≠ d; omega) _).far (p := ⟨d, 8, none⟩) (by show p ≠ d; omega) _, HZ.out.msg⟩
        exact h1.put (c' := { c with waits := false, cnt := newCnt c.cnt st, vt := .pointer none }) 7 (.pointer none) (by decide) rfl rfl rfl)
      have R5 : Hid (Blk w5 (b + 1) 43 zeroAct.cs) := Lib.hid (by rw [hV]; exact (((RZ.out.far (p := ⟨d, 7, none⟩) (by show b + 1 ≠ d; omega) _).far (p := ⟨d, 8, none⟩) (by show b + 1 ≠ d; omega) _).far (p := ⟨p, 7, none⟩) (by show b + 1 ≠ p; omega) _))
      clear hV y22 y20 d1 d7 d8 fd fd8 p7 fp7
      obtain ⟨D, hD⟩ : ∃ D, D = (okActS c.act st).cs := ⟨_, rfl⟩
      have DC : CellsN 11 D := hD ▸ (okActS c.act st).cells
      rw [← hD] at P5
      have ED := Lib.hid hD
      clear hD
      obtain ⟨g1, g2⟩ := blkN_has P5.out DC.1
      have rm : RoomN 11 w5 (b + 1) 0 := blkN_room (n := 11) R5.out rfl
      go_wp2_with fail
      have PF : Hid (Blk (putN w5 (b + 1) 0 D) (b + 1) 43 D) := Lib.hid (putN_fill R5.out (by rw [DC.1]; rfl))
      have hl := load_act DC.1 PF.out.range
      have KP : Chg (fun j => j = b + 1) w5 (putN w5 (b + 1) 0 D) := putN_chg (S := fun j => j = b + 1) (Chg.refl _ w5) (.inr rfl) 0 D
      have K0 : Chg (fun j => j = p) w (putN w5 (b + 1) 0 D) := (K5.out.more (S' := fun j => j = p) (fun j hj e => by omega)).trans KP (fun j hj e => by omega)
      exact bodyPost_ret (v := .tuple #[.agg D, .bool true]) (by simp [results, Try.results15, asAddr, hl]) rfl ⟨by rw [ED.out], ⟨putN_far Z5.out.blk (by omega), Z5.out.msg⟩, K0⟩
end Go.Proofs.Ytpaihfdmjkfegaa.Cl

/- does, over what its callee hands back: walked (printed by does_mk.py). -/
namespace Go.Proofs.Ytpaihfdmjkfegaa.Cl
open Go.RowKit Go.Lib Go.Maps Go.Proofs.Ytpaihfdmjkfegaa.MapF Go.Proofs.Ytpaihfdmjkfegaa.Msg Go.Proofs.Ytpaihfdmjkfegaa.Cls Go.Proofs.Ytpaihfdmjkfegaa.Ck

attribute [local go_sem ↓] loadAct_eq storeAct_eq storeCall_eq loadCall_eq
attribute [local go_sem] run_loadAct run_storeAct run_storeCall run_loadCall

def actW (num kind n cc : Int) (key val : ByteArray) : ActV := { actOf num kind n cc key with value := val }

set_option maxRecDepth 100000 in
set_option maxHeartbeats 4000000 in
theorem does_write (lo p : Nat) (c : Client) (ob oc gb gc g q : Nat) (L : List Ent) (gs : List Nat) (sp : List ByteArray) (w : World) (h : CliAt lo w p c ob oc gb gc g q L gs sp) (tb : Nat) (T : Array Value) (n cc : Int) (key val : ByteArray)
    (ht : c.vt = .pointer (some ⟨tb, 0, none⟩)) (hw : c.waits = false) (hT : Blk w tb 110 T) (hT0 : T[0]? = some (.int .i64 n)) (hT1 : T[1]? = some (.int .i64 cc)) (m2 : Nat) (hT5 : T[5]? = some (.map (some m2))) (hk : keyB key = true) (hv : val.size ≤ 200)
    (hm : ∀ W, Below w.heap.size w W → (Instr.lookup 107 (.map (some m2)) (.string key) false).run Try.prog W = .ok (.bool false) W) (R : World → World → Option Addr → Nat → Nat → ActV → Bool → Int → Prop)
    (hr : ∀ W, Below w.heap.size w W → Calls Try.prog 45 #[.pointer (some ⟨p, 0, none⟩), .agg (actW c.num 3 n cc key val).cs, .int .i64 2] W fun e w' => ∃ A m cap a d er, e = .returned (.tuple #[callV (.slice A m cap) a d, .int .i64 er]) ∧ R W w' A m cap a d er ∧ ∃ S, Chg S W w' ∧ ¬ S w.heap.size)
    (up : ∀ W w' w'' A m cap a d er, Below w.heap.size w W → w.heap.size < W.heap.size → R W w' A m cap a d er → Chg (fun j => j = w.heap.size) w' w'' → R w w'' A m cap a d er) :
    Calls Try.prog 27 #[.pointer (some ⟨p, 0, none⟩), .int .i64 3, .string key, .string val] w fun e w' => ∃ A m cap a d er, e = .returned (.tuple #[callV (.slice A m cap) a d, .int .i64 er]) ∧ R w w' A m cap a d er := by
  have H := Lib.hid h
  have HT := Lib.hid hT
  have HR := Lib.hid (And.intro hr up)
  have HT01 := Lib.hid (And.intro hT0 hT1)
  have HM := Lib.hid (And.intro hT5 (And.intro hm hk))
  have hv' : (val.size : Int) ≤ 200 := by omega
  have c8 := h.cl.waits
  rw [hw] at c8
  have c7 := h.cl.vt
  rw [ht] at c7
  have hp := h.cl.blk.lt
  clear h hT hr up hT0 hT1 hT5 hm
  go_enter Try.func27, Try.ntmps27
  go_upto_region 9 with (fail)
  refine world_out (fun W hW => ?_)
  have BW : Hid (Below w.heap.size w W) := Lib.hid (by rw [hW]; exact (Below.refl _ _).alloc (Nat.le_refl _) _)
  have R1 : Hid (∃ Z, Blk W w.heap.size 102 Z ∧ Z.size = 13) := Lib.hid ⟨_, by rw [hW]; exact Blk.new w 102 _, rfl⟩
  have H1 := Lib.hid (H.out.keep BW.out)
  have T1 := Lib.hid (HT.out.below BW.out HT.out.lt)
  clear hW c8 c7
  go_cut [10] from 52 (ActR W (actOf c.num 3 n cc ⟨#[]⟩))
  case first =>
    have F : Hid (∀ v, Below W.heap.size W v → v.cell? ⟨p, 0, none⟩ = some (.int .i64 c.num) ∧ v.cell? ⟨p, 7, none⟩ = some (.pointer (some ⟨tb, 0, none⟩)) ∧ v.cell? ⟨tb, 0, none⟩ = some (.int .i64 n) ∧ v.cell? ⟨tb, 1, none⟩ = some (.int .i64 cc)) := Lib.hid (fun v hv => by
      have c7 := (H1.out.keep hv).cl.vt
      rw [ht] at c7
      have t := T1.out.below hv T1.out.lt
      exact ⟨(H1.out.keep hv).cl.num, c7, by rw [t.cell]; exact HT01.out.1, by rw [t.cell]; exact HT01.out.2⟩)
    have S0 := Lib.hid (F.out W (Below.refl _ _))
    have S1 := Lib.hid (F.out (W.alloc (.cells #[.int .i64 0, .int .i64 0, .int .i64 0, .int .i64 0, .string ⟨#[]⟩, .string ⟨#[]⟩, .bool false, .int .i64 0, .int .i64 0, .int .i64 0, .int .i64 0] 43)) ((Below.refl _ _).alloc (Nat.le_refl _) _))
    have S2 := Lib.hid (fun C : Array Value => F.out (putN (W.alloc (.cells #[.int .i64 0, .int .i64 0, .int .i64 0, .int .i64 0, .string ⟨#[]⟩, .string ⟨#[]⟩, .bool false, .int .i64 0, .int .i64 0, .int .i64 0, .int .i64 0] 43)).drew W.heap.size 0 C) (putN_below ((Below.refl _ _).alloc (Nat.le_refl _) _).drew (Nat.le_refl _) 0 C))
    have S0d := Lib.hid (F.out W.drew (Below.refl _ _).drew)
    have S1d := Lib.hid (F.out (W.alloc (.cells #[.int .i64 0, .int .i64 0, .int .i64 0, .int .i64 0, .string ⟨#[]⟩, .string ⟨#[]⟩, .bool false, .int .i64 0, .int .i64 0, .int .i64 0, .int .i64 0] 43)).drew ((Below.refl _ _).alloc (Nat.le_refl _) _).drew)
    have rm : RoomN 11 (W.alloc (.cells #[.int .i64 0, .int .i64 0, .int .i64 0, .int .i64 0, .string ⟨#[]⟩, .string ⟨#[]⟩, .bool false, .int .i64 0, .int .i64 0, .int .i64 0, .int .i64 0] 43)).drew W.heap.size 0 := roomN_new W 43 _ rfl
    have ac : CellsN 11 #[.int .i64 c.num, .int .i64 3, .int .i64 n, .int .i64 cc, .string ⟨#[]⟩, .string ⟨#[]⟩, .bool false, .int .i64 0, .int .i64 0, .int .i64 0, .int .i64 0] := ⟨rfl, by simp [Value.oneCell']⟩
    have EQ : Hid (#[.int .i64 c.num, .int .i64 3, .int .i64 n, .int .i64 cc, .string ⟨#[]⟩, .string ⟨#[]⟩, .bool false, .int .i64 0, .int .i64 0, .int .i64 0, .int .i64 0] = (actOf c.num 3 n cc ⟨#[]⟩).cs) := Lib.hid (by simp [actOf, zeroAct, ActV.cs])
    have PF : Hid (∀ C : Array Value, C.size = 11 → Blk (putN (W.alloc (.cells #[.int .i64 0, .int .i64 0, .int .i64 0, .int .i64 0, .string ⟨#[]⟩, .string ⟨#[]⟩, .bool false, .int .i64 0, .int .i64 0, .int .i64 0, .int .i64 0] 43)).drew W.heap.size 0 C) W.heap.size 43 C ∧ Below W.heap.size W (putN (W.alloc (.cells #[.int .i64 0, .int .i64 0, .int .i64 0, .int .i64 0, .string ⟨#[]⟩, .string ⟨#[]⟩, .bool false, .int .i64 0, .int .i64 0, .int .i64 0, .int .i64 0] 43)).drew W.heap.size 0 C)) := Lib.hid (fun C hC => ⟨putN_fill (w := (W.alloc (.cells #[.int .i64 0, .int .i64 0, .int .i64 0, .int .i64 0, .string ⟨#[]⟩, .string ⟨#[]⟩, .bool false, .int .i64 0, .int .i64 0, .int .i64 0, .int .i64 0] 43)).drew) (Blk.new W 43 _).drew (by rw [hC]; rfl), putN_below ((Below.refl _ _).alloc (Nat.le_refl _) _).drew (Nat.le_refl _) 0 C⟩)
    go_region_held3 (fun v => v.cell? ⟨p, 0, none⟩ = some (.int .i64 c.num) ∧ v.cell? ⟨p, 7, none⟩ = some (.pointer (some ⟨tb, 0, none⟩)) ∧ v.cell? ⟨tb, 0, none⟩ = some (.int .i64 n) ∧ v.cell? ⟨tb, 1, none⟩ = some (.int .i64 cc)) (first | with_reducible exact S0.out | with_reducible exact S0d.out | with_reducible exact S1.out | with_reducible exact S1d.out | with_reducible exact S2.out _) (fail)
    all_goals
      go_wp2_with fail
      go_meet
      case rel => exact ⟨W.heap.size, rfl, Nat.le_refl _, by rw [← EQ.out]; exact (PF.out _ rfl).1, (PF.out _ rfl).2⟩
  case rest =>
    obtain ⟨ab, rfl, hab, hA, hBW⟩ := hcut
    have B2 : Hid (Below w.heap.size w wc) := Lib.hid (BW.out.trans (hBW.mono BW.out.size))
    have R2 : Hid (∃ Z, Blk wc w.heap.size 102 Z ∧ Z.size = 13) := Lib.hid (by obtain ⟨Z, h1, h2⟩ := R1.out; exact ⟨Z, h1.below hBW h1.lt, h2⟩)
    have hab1 : w.heap.size < ab := by obtain ⟨Z, h1, _⟩ := R1.out; have := h1.lt; omega
    have A2 := Lib.hid hA
    have n4 : wc.cell? ⟨ab, 4, none⟩ = some (.string ⟨#[]⟩) := by rw [hA.cell]; simp [ActV.cs, actOf, zeroAct]
    have f4 := hA.frozen 4
    clear hA hBW R1 H1 T1 BW
    go_upto_region 13 with (fail)
    refine world_out (fun V hV => ?_)
    have B3 : Hid (Below w.heap.size w V) := Lib.hid (by rw [hV]; exact B2.out.setCell (p := ⟨ab, 4, none⟩) (Nat.le_of_lt hab1) _)
    have R3 : Hid (∃ Z, Blk V w.heap.size 102 Z ∧ Z.size = 13) := Lib.hid (by obtain ⟨Z, h1, h2⟩ := R2.out; rw [hV]; exact ⟨Z, h1.far (p := ⟨ab, 4, none⟩) (Nat.ne_of_lt hab1) _, h2⟩)
    have A3 : Hid (Blk V ab 43 (actOf c.num 3 n cc key).cs) := Lib.hid (by
      have h := A2.out.set_ 4 (.string key)
      rw [hV]
      have e : ((actOf c.num 3 n cc ⟨#[]⟩).cs.setIfInBounds 4 (.string key)) = (actOf c.num 3 n cc key).cs := by simp [ActV.cs, actOf, zeroAct]
      rw [e] at h
      exact h)
    have H3 := Lib.hid (H.out.keep B3.out)
    have v2 := H3.out.cl.dir
    have KY := Lib.hid (key_any' c.D key)
    clear hV n4 f4 A2 R2 B2
    rw [HM.out.2.2] at KY
    have v7 := H3.out.cl.vt
    rw [ht] at v7
    have t5 : V.cell? ⟨tb, 5, none⟩ = some (.map (some m2)) := by rw [(HT.out.below B3.out HT.out.lt).cell]; exact HM.out.1
    have lk := HM.out.2.1 V B3.out
    have n5 : V.cell? ⟨ab, 5, none⟩ = some (.string ⟨#[]⟩) := by rw [A3.out.cell]; simp [ActV.cs, actOf, zeroAct]
    have f5 := A3.out.frozen 5
    go_upto_region 20 with (go_at_call 43; refine (KY.out _).mono ?_; rintro e w' ⟨rfl, rfl⟩)
    refine world_out (fun X hX => ?_)
    have B4 : Hid (Below w.heap.size w X) := Lib.hid (by rw [hX]; exact B3.out.setCell (p := ⟨ab, 5, none⟩) (Nat.le_of_lt hab1) _)
    have R4 : Hid (∃ Z, Blk X w.heap.size 102 Z ∧ Z.size = 13) := Lib.hid (by obtain ⟨Z, h1, h2⟩ := R3.out; rw [hX]; exact ⟨Z, h1.far (p := ⟨ab, 5, none⟩) (Nat.ne_of_lt hab1) _, h2⟩)
    have A4 : Hid (Blk X ab 43 (actW c.num 3 n cc key val).cs) := Lib.hid (by
      have h := A3.out.set_ 5 (.string val)
      rw [hX]
      have e : ((actOf c.num 3 n cc key).cs.setIfInBounds 5 (.string val)) = (actW c.num 3 n cc key val).cs := by simp [ActV.cs, actW, actOf, zeroAct]
      rw [e] at h
      exact h)
    clear hX n5 f5 A3 R3 v2 H3 v7 t5 lk
    have A3 := A4
    have R3 := R4
    clear A4 R4
    have H3 := Lib.hid (H.out.keep B4.out)
    clear B3
    have B3 := B4
    clear B4
    have v7 := H3.out.cl.vt
    rw [ht] at v7
    have t5 : X.cell? ⟨tb, 5, none⟩ = some (.map (some m2)) := by rw [(HT.out.below B3.out HT.out.lt).cell]; exact HM.out.1
    have lk := HM.out.2.1 X B3.out
    have HC0 := Lib.hid (HR.out.1 X B3.out)
    go_upto_region 25 with (fail)
    obtain ⟨g1, g2⟩ := blkN_has (n := 11) A3.out rfl
    obtain ⟨Z, hZ, hzs⟩ := R3.out
    go_wp2_with (go_at_call 45; go_loud (refine HC0.out.mono ?_; rintro e w9 ⟨A, m, cap, a, d, er, rfl, hL, hS⟩; have HL := Lib.hid hL; have hZ9 : Blk w9 w.heap.size 102 Z := Exists.elim hS (fun S hS => hZ.chg hS.1 hS.2); have rm := blkN_room hZ9 hzs; obtain ⟨C, hC, hcc⟩ := callV_ok A m cap a d; rw [hC]; have HC := Lib.hid hC; clear hL hC hS))
    have RF : Hid (Blk (putN w9 w.heap.size 0 C) w.heap.size 102 C) := Lib.hid (putN_fill hZ9 (hzs.trans hcc.1.symm))
    have LF := Lib.hid (HR.out.2 _ _ _ _ _ _ _ _ _ B3.out hZ.lt HL.out (putN_chg (S := fun j => j = w.heap.size) (Chg.refl _ w9) (.inr rfl) 0 C))
    have hl := load_call hcc.1 RF.out.range
    exact bodyPost_ret (v := .tuple #[.agg C, .int .i64 er]) (by simp [results, Try.results27, asAddr, hl]) rfl ⟨A, m, cap, a, d, er, by rw [HC.out], LF.out⟩

set_option maxRecDepth 100000 in
set_option maxHeartbeats 4000000 in
theorem does_del (lo p : Nat) (c : Client) (ob oc gb gc g q : Nat) (L : List Ent) (gs : List Nat) (sp : List ByteArray) (w : World) (h : CliAt lo w p c ob oc gb gc g q L gs sp) (tb : Nat) (T : Array Value) (n cc : Int) (key val : ByteArray)
    (ht : c.vt = .pointer (some ⟨tb, 0, none⟩)) (hw : c.waits = false) (hT : Blk w tb 110 T) (hT0 : T[0]? = some (.int .i64 n)) (hT1 : T[1]? = some (.int .i64 cc)) (m2 : Nat) (hT5 : T[5]? = some (.map (some m2))) (hk : keyB key = true)
    (hm : ∀ W, Below w.heap.size w W → (Instr.lookup 107 (.map (some m2)) (.string key) false).run Try.prog W = .ok (.bool false) W) (R : World → World → Option Addr → Nat → Nat → ActV → Bool → Int → Prop)
    (hr : ∀ W, Below w.heap.size w W → Calls Try.prog 45 #[.pointer (some ⟨p, 0, none⟩), .agg (actW c.num 4 n cc key ⟨#[]⟩).cs, .int .i64 2] W fun e w' => ∃ A m cap a d er, e = .returned (.tuple #[callV (.slice A m cap) a d, .int .i64 er]) ∧ R W w' A m cap a d er ∧ ∃ S, Chg S W w' ∧ ¬ S w.heap.size)
    (up : ∀ W w' w'' A m cap a d er, Below w.heap.size w W → w.heap.size < W.heap.size → R W w' A m cap a d er → Chg (fun j => j = w.heap.size) w' w'' → R w w'' A m cap a d er) :
    Calls Try.prog 27 #[.pointer (some ⟨p, 0, none⟩), .int .i64 4, .string key, .string val] w fun e w' => ∃ A m cap a d er, e = .returned (.tuple #[callV (.slice A m cap) a d, .int .i64 er]) ∧ R w w' A m cap a d er := by
  have H := Lib.hid h
  have HT := Lib.hid hT
  have HR := Lib.hid (And.intro hr up)
  have HT01 := Lib.hid (And.intro hT0 hT1)
  have HM := Lib.hid (And.intro hT5 (And.intro hm hk))
  have c8 := h.cl.waits
  rw [hw] at c8
  have c7 := h.cl.vt
  rw [ht] at c7
  have hp := h.cl.blk.lt
  clear h hT hr up hT0 hT1 hT5 hm
  go_enter Try.func27, Try.ntmps27
  go_upto_region 9 with (fail)
  refine world_out (fun W hW => ?_)
  have BW : Hid (Below w.heap.size w W) := Lib.hid (by rw [hW]; exact (Below.refl _ _).alloc (Nat.le_refl _) _)
  have R1 : Hid (∃ Z, Blk W w.heap.size 102 Z ∧ Z.size = 13) := Lib.hid ⟨_, by rw [hW]; exact Blk.new w 102 _, rfl⟩
  have H1 := Lib.hid (H.out.keep BW.out)
  have T1 := Lib.hid (HT.out.below BW.out HT.out.lt)
  clear hW c8 c7
  go_cut [10] from 52 (ActR W (actOf c.num 4 n cc ⟨#[]⟩))
  case first =>
    have F : Hid (∀ v, Below W.heap.size W v → v.cell? ⟨p, 0, none⟩ = some (.int .i64 c.num) ∧ v.cell? ⟨p, 7, none⟩ = some (.pointer (some ⟨tb, 0, none⟩)) ∧ v.cell? ⟨tb, 0, none⟩ = some (.int .i64 n) ∧ v.cell? ⟨tb, 1, none⟩ = some (.int .i64 cc)) := Lib.hid (fun v hv => by
      have c7 := (H1.out.keep hv).cl.vt
      rw [ht] at c7
      have t := T1.out.below hv T1.out.lt
      exact ⟨(H1.out.keep hv).cl.num, c7, by rw [t.cell]; exact HT01.out.1, by rw [t.cell]; exact HT01.out.2⟩)
    have S0 := Lib.hid (F.out W (Below.refl _ _))
    have S1 := Lib.hid (F.out (W.alloc (.cells #[.int .i64 0, .int .i64 0, .int .i64 0, .int .i64 0, .string ⟨#[]⟩, .string ⟨#[]⟩, .bool false, .int .i64 0, .int .i64 0, .int .i64 0, .int .i64 0] 43)) ((Below.refl _ _).alloc (Nat.le_refl _) _))
    have S2 := Lib.hid (fun C : Array Value => F.out (putN (W.alloc (.cells #[.int .i64 0, .int .i64 0, .int .i64 0, .int .i64 0, .string ⟨#[]⟩, .string ⟨#[]⟩, .bool false, .int .i64 0, .int .i64 0, .int .i64 0, .int .i64 0] 43)).drew W.heap.size 0 C) (putN_below ((Below.refl _ _).alloc (Nat.le_refl _) _).drew (Nat.le_refl _) 0 C))
    have S0d := Lib.hid (F.out W.drew (Below.refl _ _).drew)
    have S1d := Lib.hid (F.out (W.alloc (.cells #[.int .i64 0, .int .i64 0, .int .i64 0, .int .i64 0, .string ⟨#[]⟩, .string ⟨#[]⟩, .bool false, .int .i64 0, .int .i64 0, .int .i64 0, .int .i64 0] 43)).drew ((Below.refl _ _).alloc (Nat.le_refl _) _).drew)
    have rm : RoomN 11 (W.alloc (.cells #[.int .i64 0, .int .i64 0, .int .i64 0, .int .i64 0, .string ⟨#[]⟩, .string ⟨#[]⟩, .bool false, .int .i64 0, .int .i64 0, .int .i64 0, .int .i64 0] 43)).drew W.heap.size 0 := roomN_new W 43 _ rfl
    have ac : CellsN 11 #[.int .i64 c.num, .int .i64 4, .int .i64 n, .int .i64 cc, .string ⟨#[]⟩, .string ⟨#[]⟩, .bool false, .int .i64 0, .int .i64 0, .int .i64 0, .int .i64 0] := ⟨rfl, by simp [Value.oneCell']⟩
    have EQ : Hid (#[.int .i64 c.num, .int .i64 4, .int .i64 n, .int .i64 cc, .string ⟨#[]⟩, .string ⟨#[]⟩, .bool false, .int .i64 0, .int .i64 0, .int .i64 0, .int .i64 0] = (actOf c.num 4 n cc ⟨#[]⟩).cs) := Lib.hid (by simp [actOf, zeroAct, ActV.cs])
    have PF : Hid (∀ C : Array Value, C.size = 11 → Blk (putN (W.alloc (.cells #[.int .i64 0, .int .i64 0, .int .i64 0, .int .i64 0, .string ⟨#[]⟩, .string ⟨#[]⟩, .bool false, .int .i64 0, .int .i64 0, .int .i64 0, .int .i64 0] 43)).drew W.heap.size 0 C) W.heap.size 43 C ∧ Below W.heap.size W (putN (W.alloc (.cells #[.int .i64 0, .int .i64 0, .int .i64 0, .int .i64 0, .string ⟨#[]⟩, .string ⟨#[]⟩, .bool false, .int .i64 0, .int .i64 0, .int .i64 0, .int .i64 0] 43)).drew W.heap.size 0 C)) := Lib.hid (fun C hC => ⟨putN_fill (w := (W.alloc (.cells #[.int .i64 0, .int .i64 0, .int .i64 0, .int .i64 0, .string ⟨#[]⟩, .string ⟨#[]⟩, .bool false, .int .i64 0, .int .i64 0, .int .i64 0, .int .i64 0] 43)).drew) (Blk.new W 43 _).drew (by rw [hC]; rfl), putN_below ((Below.refl _ _).alloc (Nat.le_refl _) _).drew (Nat.le_refl _) 0 C⟩)
    go_region_held3 (fun v => v.cell? ⟨p, 0, none⟩ = some (.int .i64 c.num) ∧ v.cell? ⟨p, 7, none⟩ = some (.pointer (some ⟨tb, 0, none⟩)) ∧ v.cell? ⟨tb, 0, none⟩ = some (.int .i64 n) ∧ v.cell? ⟨tb, 1, none⟩ = some (.int .i64 cc)) (first | with_reducible exact S0.out | with_reducible exact S0d.out | with_reducible exact S1.out | with_reducible exact S1d.out | with_reducible exact S2.out _) (fail)
    all_goals
      go_wp2_with fail
      go_meet
      case rel => exact ⟨W.heap.size, rfl, Nat.le_refl _, by rw [← EQ.out]; exact (PF.out _ rfl).1, (PF.out _ rfl).2⟩
  case rest =>
    obtain ⟨ab, rfl, hab, hA, hBW⟩ := hcut
    have B2 : Hid (Below w.heap.size w wc) := Lib.hid (BW.out.trans (hBW.mono BW.out.size))
    have R2 : Hid (∃ Z, Blk wc w.heap.size 102 Z ∧ Z.size = 13) := Lib.hid (by obtain ⟨Z, h1, h2⟩ := R1.out; exact ⟨Z, h1.below hBW h1.lt, h2⟩)
    have hab1 : w.heap.size < ab := by obtain ⟨Z, h1, _⟩ := R1.out; have := h1.lt; omega
    have A2 := Lib.hid hA
    have n4 : wc.cell? ⟨ab, 4, none⟩ = some (.string ⟨#[]⟩) := by rw [hA.cell]; simp [ActV.cs, actOf, zeroAct]
    have f4 := hA.frozen 4
    clear hA hBW R1 H1 T1 BW
    go_upto_region 13 with (fail)
    refine world_out (fun V hV => ?_)
    have B3 : Hid (Below w.heap.size w V) := Lib.hid (by rw [hV]; exact B2.out.setCell (p := ⟨ab, 4, none⟩) (Nat.le_of_lt hab1) _)
    have R3 : Hid (∃ Z, Blk V w.heap.size 102 Z ∧ Z.size = 13) := Lib.hid (by obtain ⟨Z, h1, h2⟩ := R2.out; rw [hV]; exact ⟨Z, h1.far (p := ⟨ab, 4, none⟩) (Nat.ne_of_lt hab1) _, h2⟩)
    have A3 : Hid (Blk V ab 43 (actOf c.num 4 n cc key).cs) := Lib.hid (by
      have h := A2.out.set_ 4 (.string key)
      rw [hV]
      have e : ((actOf c.num 4 n cc ⟨#[]⟩).cs.setIfInBounds 4 (.string key)) = (actOf c.num 4 n cc key).cs := by simp [ActV.cs, actOf, zeroAct]
      rw [e] at h
      exact h)
    have H3 := Lib.hid (H.out.keep B3.out)
    have v2 := H3.out.cl.dir
    have KY := Lib.hid (key_any' c.D key)
    clear hV n4 f4 A2 R2 B2
    rw [HM.out.2.2] at KY
    have v7 := H3.out.cl.vt
    rw [ht] at v7
    have t5 : V.cell? ⟨tb, 5, none⟩ = some (.map (some m2)) := by rw [(HT.out.below B3.out HT.out.lt).cell]; exact HM.out.1
    have lk := HM.out.2.1 V B3.out
    have HC0 := Lib.hid (HR.out.1 V B3.out)
    go_upto_region 25 with (go_at_call 43; refine (KY.out _).mono ?_; rintro e w' ⟨rfl, rfl⟩)
    obtain ⟨g1, g2⟩ := blkN_has (n := 11) A3.out rfl
    obtain ⟨Z, hZ, hzs⟩ := R3.out
    go_wp2_with (go_at_call 45; go_loud (refine HC0.out.mono ?_; rintro e w9 ⟨A, m, cap, a, d, er, rfl, hL, hS⟩; have HL := Lib.hid hL; have hZ9 : Blk w9 w.heap.size 102 Z := Exists.elim hS (fun S hS => hZ.chg hS.1 hS.2); have rm := blkN_room hZ9 hzs; obtain ⟨C, hC, hcc⟩ := callV_ok A m cap a d; rw [hC]; have HC := Lib.hid hC; clear hL hC hS))
    have RF : Hid (Blk (putN w9 w.heap.size 0 C) w.heap.size 102 C) := Lib.hid (putN_fill hZ9 (hzs.trans hcc.1.symm))
    have LF := Lib.hid (HR.out.2 _ _ _ _ _ _ _ _ _ B3.out hZ.lt HL.out (putN_chg (S := fun j => j = w.heap.size) (Chg.refl _ w9) (.inr rfl) 0 C))
    have hl := load_call hcc.1 RF.out.range
    exact bodyPost_ret (v := .tuple #[.agg C, .int .i64 er]) (by simp [results, Try.results27, asAddr, hl]) rfl ⟨A, m, cap, a, d, er, by rw [HC.out], LF.out⟩

set_option maxRecDepth 100000 in
set_option maxHeartbeats 4000000 in
theorem does_commit (lo p : Nat) (c : Client) (ob oc gb gc g q : Nat) (L : List Ent) (gs : List Nat) (sp : List ByteArray) (w : World) (h : CliAt lo w p c ob oc gb gc g q L gs sp) (tb : Nat) (T : Array Value) (n cc : Int) (key val : ByteArray)
    (ht : c.vt = .pointer (some ⟨tb, 0, none⟩)) (hw : c.waits = false) (hT : Blk w tb 110 T) (hT0 : T[0]? = some (.int .i64 n)) (hT1 : T[1]? = some (.int .i64 cc)) (R : World → World → Option Addr → Nat → Nat → ActV → Bool → Int → Prop)
    (hr : ∀ W, Below w.heap.size w W → Calls Try.prog 42 #[.pointer (some ⟨p, 0, none⟩), .agg (actOf c.num 5 n cc ⟨#[]⟩).cs] W fun e w' => ∃ A m cap a d, e = .returned (callV (.slice A m cap) a d) ∧ R W w' A m cap a d 0 ∧ ∃ S, Chg S W w' ∧ ¬ S w.heap.size)
    (up : ∀ W w' w'' A m cap a d er, Below w.heap.size w W → w.heap.size < W.heap.size → R W w' A m cap a d er → Chg (fun j => j = w.heap.size) w' w'' → R w w'' A m cap a d er) :
    Calls Try.prog 27 #[.pointer (some ⟨p, 0, none⟩), .int .i64 5, .string key, .string val] w fun e w' => ∃ A m cap a d er, e = .returned (.tuple #[callV (.slice A m cap) a d, .int .i64 er]) ∧ R w w' A m cap a d er := by
  have H := Lib.hid h
  have HT := Lib.hid hT
  have HR := Lib.hid (And.intro hr up)
  have HT01 := Lib.hid (And.intro hT0 hT1)
  have c8 := h.cl.waits
  rw [hw] at c8
  have c7 := h.cl.vt
  rw [ht] at c7
  have hp := h.cl.blk.lt
  clear h hT hr up hT0 hT1
  go_enter Try.func27, Try.ntmps27
  go_upto_region 9 with (fail)
  refine world_out (fun W hW => ?_)
  have BW : Hid (Below w.heap.size w W) := Lib.hid (by rw [hW]; exact (Below.refl _ _).alloc (Nat.le_refl _) _)
  have R1 : Hid (∃ Z, Blk W w.heap.size 102 Z ∧ Z.size = 13) := Lib.hid ⟨_, by rw [hW]; exact Blk.new w 102 _, rfl⟩
  have H1 := Lib.hid (H.out.keep BW.out)
  have T1 := Lib.hid (HT.out.below BW.out HT.out.lt)
  clear hW c8 c7
  go_cut [10] from 52 (ActR W (actOf c.num 5 n cc ⟨#[]⟩))
  case first =>
    have F : Hid (∀ v, Below W.heap.size W v → v.cell? ⟨p, 0, none⟩ = some (.int .i64 c.num) ∧ v.cell? ⟨p, 7, none⟩ = some (.pointer (some ⟨tb, 0, none⟩)) ∧ v.cell? ⟨tb, 0, none⟩ = some (.int .i64 n) ∧ v.cell? ⟨tb, 1, none⟩ = some (.int .i64 cc)) := Lib.hid (fun v hv => by
      have c7 := (H1.out.keep hv).cl.vt
      rw [ht] at c7
      have t := T1.out.below hv T1.out.lt
      exact ⟨(H1.out.keep hv).cl.num, c7, by rw [t.cell]; exact HT01.out.1, by rw [t.cell]; exact HT01.out.2⟩)
    have S0 := Lib.hid (F.out W (Below.refl _ _))
    have S1 := Lib.hid (F.out (W.alloc (.cells #[.int .i64 0, .int .i64 0, .int .i64 0, .int .i64 0, .string ⟨#[]⟩, .string ⟨#[]⟩, .bool false, .int .i64 0, .int .i64 0, .int .i64 0, .int .i64 0] 43)) ((Below.refl _ _).alloc (Nat.le_refl _) _))
    have S2 := Lib.hid (fun C : Array Value => F.out (putN (W.alloc (.cells #[.int .i64 0, .int .i64 0, .int .i64 0, .int .i64 0, .string ⟨#[]⟩, .string ⟨#[]⟩, .bool false, .int .i64 0, .int .i64 0, .int .i64 0, .int .i64 0] 43)).drew W.heap.size 0 C) (putN_below ((Below.refl _ _).alloc (Nat.le_refl _) _).drew (Nat.le_refl _) 0 C))
    have S0d := Lib.hid (F.out W.drew (Below.refl _ _).drew)
    have S1d := Lib.hid (F.out (W.alloc (.cells #[.int .i64 0, .int .i64 0, .int .i64 0, .int .i64 0, .string ⟨#[]⟩, .string ⟨#[]⟩, .bool false, .int .i64 0, .int .i64 0, .int .i64 0, .int .i64 0] 43)).drew ((Below.refl _ _).alloc (Nat.le_refl _) _).drew)
    have rm : RoomN 11 (W.alloc (.cells #[.int .i64 0, .int .i64 0, .int .i64 0, .int .i64 0, .string ⟨#[]⟩, .string ⟨#[]⟩, .bool false, .int .i64 0, .int .i64 0, .int .i64 0, .int .i64 0] 43)).drew W.heap.size 0 := roomN_new W 43 _ rfl
    have ac : CellsN 11 #[.int .i64 c.num, .int .i64 5, .int .i64 n, .int .i64 cc, .string ⟨#[]⟩, .string ⟨#[]⟩, .bool false, .int .i64 0, .int .i64 0, .int .i64 0, .int .i64 0] := ⟨rfl, by simp [Value.oneCell']⟩
    have EQ : Hid (#[.int .i64 c.num, .int .i64 5, .int .i64 n, .int .i64 cc, .string ⟨#[]⟩, .string ⟨#[]⟩, .bool false, .int .i64 0, .int .i64 0, .int .i64 0, .int .i64 0] = (actOf c.num 5 n cc ⟨#[]⟩).cs) := Lib.hid (by simp [actOf, zeroAct, ActV.cs])
    have PF : Hid (∀ C : Array Value, C.size = 11 → Blk (putN (W.alloc (.cells #[.int .i64 0, .int .i64 0, .int .i64 0, .int .i64 0, .string ⟨#[]⟩, .string ⟨#[]⟩, .bool false, .int .i64 0, .int .i64 0, .int .i64 0, .int .i64 0] 43)).drew W.heap.size 0 C) W.heap.size 43 C ∧ Below W.heap.size W (putN (W.alloc (.cells #[.int .i64 0, .int .i64 0, .int .i64 0, .int .i64 0, .string ⟨#[]⟩, .string ⟨#[]⟩, .bool false, .int .i64 0, .int .i64 0, .int .i64 0, .int .i64 0] 43)).drew W.heap.size 0 C)) := Lib.hid (fun C hC => ⟨putN_fill (w := (W.alloc (.cells #[.int .i64 0, .int .i64 0, .int .i64 0, .int .i64 0, .string ⟨#[]⟩, .string ⟨#[]⟩, .bool false, .int .i64 0, .int .i64 0, .int .i64 0, .int .i64 0] 43)).drew) (Blk.new W 43 _).drew (by rw [hC]; rfl), putN_below ((Below.refl _ _).alloc (Nat.le_refl _) _).drew (Nat.le_refl _) 0 C⟩)
    go_region_held3 (fun v => v.cell? ⟨p, 0, none⟩ = some (.int .i64 c.num) ∧ v.cell? ⟨p, 7, none⟩ = some (.pointer (some ⟨tb, 0, none⟩)) ∧ v.cell? ⟨tb, 0, none⟩ = some (.int .i64 n) ∧ v.cell? ⟨tb, 1, none⟩ = some (.int .i64 cc)) (first | with_reducible exact S0.out | with_reducible exact S0d.out | with_reducible exact S1.out | with_reducible exact S1d.out | with_reducible exact S2.out _) (fail)
    all_goals
      go_wp2_with fail
      go_meet
      case rel => exact ⟨W.heap.size, rfl, Nat.le_refl _, by rw [← EQ.out]; exact (PF.out _ rfl).1, (PF.out _ rfl).2⟩
  case rest =>
    obtain ⟨ab, rfl, hab, hA, hBW⟩ := hcut
    have B2 : Hid (Below w.heap.size w wc) := Lib.hid (BW.out.trans (hBW.mono BW.out.size))
    have R2 : Hid (∃ Z, Blk wc w.heap.size 102 Z ∧ Z.size = 13) := Lib.hid (by obtain ⟨Z, h1, h2⟩ := R1.out; exact ⟨Z, h1.below hBW h1.lt, h2⟩)
    have hab1 : w.heap.size < ab := by obtain ⟨Z, h1, _⟩ := R1.out; have := h1.lt; omega
    have A2 := Lib.hid hA
    have n4 : wc.cell? ⟨ab, 4, none⟩ = some (.string ⟨#[]⟩) := by rw [hA.cell]; simp [ActV.cs, actOf, zeroAct]
    have f4 := hA.frozen 4
    have R3 := R2
    have B3 := B2
    clear hA hBW R1 H1 T1 BW n4 f4 R2 B2
    have HC0 := Lib.hid (HR.out.1 wc B3.out)
    obtain ⟨g1, g2⟩ := blkN_has (n := 11) A2.out rfl
    obtain ⟨Z, hZ, hzs⟩ := R3.out
    go_wp2_with (go_at_call 42; go_loud (refine HC0.out.mono ?_; rintro e w9 ⟨A, m, cap, a, d, rfl, hL, hS⟩; have HL := Lib.hid hL; have hZ9 : Blk w9 w.heap.size 102 Z := Exists.elim hS (fun S hS => hZ.chg hS.1 hS.2); have rm := blkN_room hZ9 hzs; obtain ⟨C, hC, hcc⟩ := callV_ok A m cap a d; rw [hC]; have HC := Lib.hid hC; clear hL hC hS))
    have RF : Hid (Blk (putN w9 w.heap.size 0 C) w.heap.size 102 C) := Lib.hid (putN_fill hZ9 (hzs.trans hcc.1.symm))
    have LF := Lib.hid (HR.out.2 _ _ _ _ _ _ _ _ _ B3.out hZ.lt HL.out (putN_chg (S := fun j => j = w.heap.size) (Chg.refl _ w9) (.inr rfl) 0 C))
    have hl := load_call hcc.1 RF.out.range
    exact bodyPost_ret (v := .tuple #[.agg C, .int .i64 0]) (by simp [results, Try.results27, asAddr, hl]) rfl ⟨A, m, cap, a, d, 0, by rw [HC.out], LF.out⟩

set_option maxRecDepth 100000 in
set_option maxHeartbeats 4000000 in
theorem does_abort (lo p : Nat) (c : Client) (ob oc gb gc g q : Nat) (L : List Ent) (gs : List Nat) (sp : List ByteArray) (w : World) (h : CliAt lo w p c ob oc gb gc g q L gs sp) (tb : Nat) (T : Array Value) (n cc : Int) (key val : ByteArray)
    (ht : c.vt = .pointer (some ⟨tb, 0, none⟩)) (hw : c.waits = false) (hT : Blk w tb 110 T) (hT0 : T[0]? = some (.int .i64 n)) (hT1 : T[1]? = some (.int .i64 cc)) (R : World → World → Option Addr → Nat → Nat → ActV → Bool → Int → Prop)
    (hr : ∀ W, Below w.heap.size w W → Calls Try.prog 42 #[.pointer (some ⟨p, 0, none⟩), .agg (actOf c.num 6 n cc ⟨#[]⟩).cs] W fun e w' => ∃ A m cap a d, e = .returned (callV (.slice A m cap) a d) ∧ R W w' A m cap a d 0 ∧ ∃ S, Chg S W w' ∧ ¬ S w.heap.size)
    (up : ∀ W w' w'' A m cap a d er, Below w.heap.size w W → w.heap.size < W.heap.size → R W w' A m cap a d er → Chg (fun j => j = w.heap.size) w' w'' → R w w'' A m cap a d er) :
    Calls Try.prog 27 #[.pointer (some ⟨p, 0, none⟩), .int .i64 6, .string key, .string val] w fun e w' => ∃ A m cap a d er, e = .returned (.tuple #[callV (.slice A m cap) a d, .int .i64 er]) ∧ R w w' A m cap a d er := by
  have H := Lib.hid h
  have HT := Lib.hid hT
  have HR := Lib.hid (And.intro hr up)
  have HT01 := Lib.hid (And.intro hT0 hT1)
  have c8 := h.cl.waits
  rw [hw] at c8
  have c7 := h.cl.vt
  rw [ht] at c7
  have hp := h.cl.blk.lt
  clear h hT hr up hT0 hT1
  go_enter Try.func27, Try.ntmps27
  go_upto_region 9 with (fail)
  refine world_out (fun W hW => ?_)
  have BW : Hid (Below w.heap.size w W) := Lib.hid (by rw [hW]; exact (Below.refl _ _).alloc (Nat.le_refl _) _)
  have R1 : Hid (∃ Z, Blk W w.heap.size 102 Z ∧ Z.size = 13) := Lib.hid ⟨_, by rw [hW]; exact Blk.new w 102 _, rfl⟩
  have H1 := Lib.hid (H.out.keep BW.out)
  have T1 := Lib.hid (HT.out.below BW.out HT.out.lt)
  clear hW c8 c7
  go_cut [10] from 52 (ActR W (actOf c.num 6 n cc ⟨#[]⟩))
  case first =>
    have F : Hid (∀ v, Below W.heap.size W v → v.cell? ⟨p, 0, none⟩ = some (.int .i64 c.num) ∧ v.cell? ⟨p, 7, none⟩ = some (.pointer (some ⟨tb, 0, none⟩)) ∧ v.cell? ⟨tb, 0, none⟩ = some (.int .i64 n) ∧ v.cell? ⟨tb, 1, none⟩ = some (.int .i64 cc)) := Lib.hid (fun v hv => by
      have c7 := (H1.out.keep hv).cl.vt
      rw [ht] at c7
      have t := T1.out.below hv T1.out.lt
      exact ⟨(H1.out.keep hv).cl.num, c7, by rw [t.cell]; exact HT01.out.1, by rw [t.cell]; exact HT01.out.2⟩)
    have S0 := Lib.hid (F.out W (Below.refl _ _))
    have S1 := Lib.hid (F.out (W.alloc (.cells #[.int .i64 0, .int .i64 0, .int .i64 0, .int .i64 0, .string ⟨#[]⟩, .string ⟨#[]⟩, .bool false, .int .i64 0, .int .i64 0, .int .i64 0, .int .i64 0] 43)) ((Below.refl _ _).alloc (Nat.le_refl _) _))
    have S2 := Lib.hid (fun C : Array Value => F.out (putN (W.alloc (.cells #[.int .i64 0, .int .i64 0, .int .i64 0, .int .i64 0, .string ⟨#[]⟩, .string ⟨#[]⟩, .bool false, .int .i64 0, .int .i64 0, .int .i64 0, .int .i64 0] 43)).drew W.heap.size 0 C) (putN_below ((Below.refl _ _).alloc (Nat.le_refl _) _).drew (Nat.le_refl _) 0 C))
    have S0d := Lib.hid (F.out W.drew (Below.refl _ _).drew)
    have S1d := Lib.hid (F.out (W.alloc (.cells #[.int .i64 0, .int .i64 0, .int .i64 0, .int .i64 0, .string ⟨#[]⟩, .string ⟨#[]⟩, .bool false, .int .i64 0, .int .i64 0, .int .i64 0, .int .i64 0] 43)).drew ((Below.refl _ _).alloc (Nat.le_refl _) _).drew)
    have rm : RoomN 11 (W.alloc (.cells #[.int .i64 0, .int .i64 0, .int .i64 0, .int .i64 0, .string ⟨#[]⟩, .string ⟨#[]⟩, .bool false, .int .i64 0, .int .i64 0, .int .i64 0, .int .i64 0] 43)).drew W.heap.size 0 := roomN_new W 43 _ rfl
    have ac : CellsN 11 #[.int .i64 c.num, .int .i64 6, .int .i64 n, .int .i64 cc, .string ⟨#[]⟩, .string ⟨#[]⟩, .bool false, .int .i64 0, .int .i64 0, .int .i64 0, .int .i64 0] := ⟨rfl, by simp [Value.oneCell']⟩
    have EQ : Hid (#[.int .i64 c.num, .int .i64 6, .int .i64 n, .int .i64 cc, .string ⟨#[]⟩, .string ⟨#[]⟩, .bool false, .int .i64 0, .int .i64 0, .int .i64 0, .int .i64 0] = (actOf c.num 6 n cc ⟨#[]⟩).cs) := Lib.hid (by simp [actOf, zeroAct, ActV.cs])
    have PF : Hid (∀ C : Array Value, C.size = 11 → Blk (putN (W.alloc (.cells #[.int .i64 0, .int .i64 0, .int .i64 0, .int .i64 0, .string ⟨#[]⟩, .string ⟨#[]⟩, .bool false, .int .i64 0, .int .i64 0, .int .i64 0, .int .i64 0] 43)).drew W.heap.size 0 C) W.heap.size 43 C ∧ Below W.heap.size W (putN (W.alloc (.cells #[.int .i64 0, .int .i64 0, .int .i64 0, .int .i64 0, .string ⟨#[]⟩, .string ⟨#[]⟩, .bool false, .int .i64 0, .int .i64 0, .int .i64 0, .int .i64 0] 43)).drew W.heap.size 0 C)) := Lib.hid (fun C hC => ⟨putN_fill (w := (W.alloc (.cells #[.int .i64 0, .int .i64 0, .int .i64 0, .int .i64 0, .string ⟨#[]⟩, .string ⟨#[]⟩, .bool false, .int .i64 0, .int .i64 0, .int .i64 0, .int .i64 0] 43)).drew) (Blk.new W 43 _).drew (by rw [hC]; rfl), putN_below ((Below.refl _ _).alloc (Nat.le_refl _) _).drew (Nat.le_refl _) 0 C⟩)
    go_region_held3 (fun v => v.cell? ⟨p, 0, none⟩ = some (.int .i64 c.num) ∧ v.cell? ⟨p, 7, none⟩ = some (.pointer (some ⟨tb, 0, none⟩)) ∧ v.cell? ⟨tb, 0, none⟩ = some (.int .i64 n) ∧ v.cell? ⟨tb, 1, none⟩ = some (.int .i64 cc)) (first | with_reducible exact S0.out | with_reducible exact S0d.out | with_reducible exact S1.out | with_reducible exact S1d.out | with_reducible exact S2.out _) (fail)
    all_goals
      go_wp2_with fail
      go_meet
      case rel => exact ⟨W.heap.size, rfl, Nat.le_refl _, by rw [← EQ.out]; exact (PF.out _ rfl).1, (PF.out _ rfl).2⟩
  case rest =>
    obtain ⟨ab, rfl, hab, hA, hBW⟩ := hcut
    have B2 : Hid (Below w.heap.size w wc) := Lib.hid (BW.out.trans (hBW.mono BW.out.size))
    have R2 : Hid (∃ Z, Blk wc w.heap.size 102 Z ∧ Z.size = 13) := Lib.hid (by obtain ⟨Z, h1, h2⟩ := R1.out; exact ⟨Z, h1.below hBW h1.lt, h2⟩)
    have hab1 : w.heap.size < ab := by obtain ⟨Z, h1, _⟩ := R1.out; have := h1.lt; omega
    have A2 := Lib.hid hA
    have n4 : wc.cell? ⟨ab, 4, none⟩ = some (.string ⟨#[]⟩) := by rw [hA.cell]; simp [ActV.cs, actOf, zeroAct]
    have f4 := hA.frozen 4
    have R3 := R2
    have B3 := B2
    clear hA hBW R1 H1 T1 BW n4 f4 R2 B2
    have HC0 := Lib.hid (HR.out.1 wc B3.out)
    obtain ⟨g1, g2⟩ := blkN_has (n := 11) A2.out rfl
    obtain ⟨Z, hZ, hzs⟩ := R3.out
    go_wp2_with (go_at_call 42; go_loud (refine HC0.out.mono ?_; rintro e w9 ⟨A, m, cap, a, d, rfl, hL, hS⟩; have HL := Lib.hid hL; have hZ9 : Blk w9 w.heap.size 102 Z := Exists.elim hS (fun S hS => hZ.chg hS.1 hS.2); have rm := blkN_room hZ9 hzs; obtain ⟨C, hC, hcc⟩ := callV_ok A m cap a d; rw [hC]; have HC := Lib.hid hC; clear hL hC hS))
    have RF : Hid (Blk (putN w9 w.heap.size 0 C) w.heap.size 102 C) := Lib.hid (putN_fill hZ9 (hzs.trans hcc.1.symm))
    have LF := Lib.hid (HR.out.2 _ _ _ _ _ _ _ _ _ B3.out hZ.lt HL.out (putN_chg (S := fun j => j = w.heap.size) (Chg.refl _ w9) (.inr rfl) 0 C))
    have hl := load_call hcc.1 RF.out.range
    exact bodyPost_ret (v := .tuple #[.agg C, .int .i64 0]) (by simp [results, Try.results27, asAddr, hl]) rfl ⟨A, m, cap, a, d, 0, by rw [HC.out], LF.out⟩
end Go.Proofs.Ytpaihfdmjkfegaa.Cl
