/- read, at a transaction that has asked for nothing: walked. -/
import Derived.Test.YtpaihfdmjkfegaaCpK
/- read, at a transaction that has asked for nothing: walked. -/
namespace Go.Proofs.Ytpaihfdmjkfegaa.Cl
open Go.RowKit Go.Lib Go.Maps Go.Proofs.Ytpaihfdmjkfegaa.MapF Go.Proofs.Ytpaihfdmjkfegaa.Msg Go.Proofs.Ytpaihfdmjkfegaa.Cls Go.Proofs.Ytpaihfdmjkfegaa.Ck

attribute [local go_sem ↓] loadAct_eq storeAct_eq storeCall_eq loadCall_eq
attribute [local go_sem] run_loadAct run_storeAct run_storeCall run_loadCall

theorem callV_ok (A : Option Addr) (m cap : Nat) (a : ActV) (d : Bool) : ∃ C, callV (.slice A m cap) a d = .agg C ∧ CellsN 13 C := ⟨_, rfl, by simp [ActV.cs], by
  have h2 := a.cells.2
  simp only [Array.all_append, h2, Bool.and_eq_true]
  simp [Value.oneCell']⟩
/-- What a lock's asking leaves, behind a write to a block of one's own. -/
theorem Locked.up {lo p : Nat} {c : Client} {ob oc gb gc g q : Nat} {L : List Ent} {gs : List Nat} {sp : List ByteArray} {tb : Nat} {n cc : Int} {m1 m2 m3 m4 : Nat} {a : ActV} {mode : Int} {w v v' v'' : World} {b k x g0 : Nat} (h : Locked lo p c ob oc gb gc g q L gs sp tb n cc m1 m2 m3 m4 a mode v v' b k x) (hv : Below w.heap.size w v)
    (hT : Tx0 w tb n cc m1 m2 m3 m4) (hp : p < w.heap.size) {w0 : World} {c0 : Client} {gs0 : List Nat} (h0 : CliAt lo w0 p c0 ob oc gb gc g q L gs0 sp) (K0 : Chg (fun b => b = p ∨ b = gb) w0 w) (he : c.vo = c0.vo ∧ c.vg = c0.vg ∧ c.D = c0.D) (hw0 : w0.heap.size ≤ tb ∧ w0.heap.size ≤ m1) (hg : w.heap.size ≤ g0 ∧ g0 < v.heap.size) (hc : Chg (fun j => j = g0) v' v'') :
    Locked lo p c ob oc gb gc g q L gs sp tb n cc m1 m2 m3 m4 a mode w v'' b k x := by
  have s1 := hv.size
  have hb := h.hb
  have K1 : Chg (fun j => j = p ∨ j = tb ∨ j = m1) w v' := (Chg.of hv).on h.chg
  have K2 : Chg (fun j => j = p ∨ j = tb ∨ j = m1) w v'' := K1.trans hc (fun j hj e => by omega)
  have hgb : gb < w0.heap.size := by obtain ⟨cur, q1, _⟩ := h0.guess; exact q1.lt
  have s0 := K0.size
  have t1 := hT.blk.lt
  have t2 := hT.k1.lt
  have t3 := hT.k2.lt
  have t4 := hT.k3.lt
  have t5 := hT.k4.lt
  refine ⟨h.hk, h.hx, by omega, h.msg.chg hc (by omega), ?_, ?_, K2⟩
  · refine h0.to (K0.trans K2 (fun j hj e => by omega)) (h.cli.cl.chg hc (by omega)) he.1 he.2.1 he.2.2 h.cli.lenG ?_
    obtain ⟨cur, r1, r2⟩ := h.cli.guess
    exact ⟨cur, r1.chg hc (by omega), r2⟩
  · obtain ⟨gg, gcap, hgg, T⟩ := h.tx
    exact ⟨gg, gcap, by omega, T.blk.chg hc (by omega), own_chg T.grp hc (by omega), isF_same T.k1 (hc.block m1 T.k1.lt (by omega)), T.k2.chg hc (by omega), T.k3.chg hc (by omega), T.k4.chg hc (by omega)⟩

def NoneR (W : World) (_v6 v7 : Value) (wr : World) : Prop := v7 = .bool false ∧ Below W.heap.size W wr

set_option maxRecDepth 100000 in
set_option maxHeartbeats 4000000 in
theorem read_any (lo p : Nat) (c : Client) (ob oc gb gc g q : Nat) (L : List Ent) (gs : List Nat) (sp : List ByteArray) (tb : Nat) (n cc : Int) (m1 m2 m3 m4 : Nat) (a : ActV) (w : World) (h : CliAt lo w p c ob oc gb gc g q L gs sp) (hsp : sp.length + 1 = g) (hg8 : g ≤ 8)
    (ht : c.vt = .pointer (some ⟨tb, 0, none⟩)) (hT : Tx0 w tb n cc m1 m2 m3 m4) (hk : keyB a.key = true) (hs : 0 ≤ c.seq ∧ c.seq < 1000000) (w0 : World) (c0 : Client) (gs0 : List Nat) (h0 : CliAt lo w0 p c0 ob oc gb gc g q L gs0 sp) (K0 : Chg (fun b => b = p ∨ b = gb) w0 w) (he : c.vo = c0.vo ∧ c.vg = c0.vg ∧ c.D = c0.D) (hw0 : w0.heap.size ≤ tb ∧ w0.heap.size ≤ m1 ∧ w0.heap.size ≤ m2 ∧ w0.heap.size ≤ m3 ∧ w0.heap.size ≤ m4) (hmm : m1 ≠ m2 ∧ m1 ≠ m3 ∧ m1 ≠ m4) :
    Calls Try.prog 44 #[.pointer (some ⟨p, 0, none⟩), .agg a.cs] w fun e w' => ∃ b k x, e = .returned (.tuple #[callV (.slice (some ⟨b, 0, none⟩) 1 1) a false, .int .i64 0]) ∧ Locked lo p c ob oc gb gc g q L gs sp tb n cc m1 m2 m3 m4 a 1 w w' b k x := by
  have LOCK := Lib.hid (fun (v : World) (hv : Below w.heap.size w v) => lock_any lo p c ob oc gb gc g q L gs sp tb n cc m1 m2 m3 m4 a 1 v (h.keep hv) hsp hg8 ht (hT.below hv) hk hs w0 c0 gs0 h0 (K0.then hv) he hw0 hmm)
  have H := Lib.hid h
  have HT := Lib.hid hT
  have H0 := Lib.hid (And.intro h0 (And.intro K0 (And.intro he (And.intro hw0.1 hw0.2.1))))
  have ok : okS a.key := by
    unfold keyB at hk
    simp only [Bool.and_eq_true, decide_eq_true_eq] at hk
    unfold okS maxLen
    omega
  have hp := h.cl.blk.lt
  obtain ⟨A, hA⟩ : ∃ A, A = a.cs := ⟨_, rfl⟩
  have A3 : A[4]? = some (.string a.key) := by rw [hA]; simp [ActV.cs]
  have AC : Hid (CellsN 11 A) := Lib.hid (hA ▸ a.cells)
  rw [← hA] at LOCK ⊢
  clear h hT hk hs h0 K0 he hw0 hmm hA
  go_enter Try.func44, Try.ntmps44
  go_upto_region 1 with (fail)
  refine world_out (fun W hW => ?_)
  obtain ⟨b4, hb4⟩ : ∃ b, b = w.heap.size := ⟨_, rfl⟩
  have BW : Hid (Below w.heap.size w W) := Lib.hid (by rw [hW]; exact ((Below.refl _ _).alloc (Nat.le_refl _) _).alloc (by simp) _)
  have A1 : Hid (Blk W b4 43 A) := Lib.hid (by rw [hW, hb4]; exact (Blk.new w 43 A).alloc _)
  have R1 : Hid (∃ Z, Blk W (b4 + 1) 102 Z ∧ Z.size = 13) := Lib.hid ⟨_, by rw [hW, hb4]; exact Blk.new2 w 43 A 102 _, rfl⟩
  have H1 := Lib.hid (H.out.keep BW.out)
  have T1 := Lib.hid (HT.out.below BW.out)
  have hbw : w.heap.size ≤ b4 := by omega
  rw [← hb4]
  clear hW hb4
  have F : Hid (∀ v, Below W.heap.size W v → v.cell? ⟨p, 7, none⟩ = some (.pointer (some ⟨tb, 0, none⟩)) ∧ v.cell? ⟨tb, 7, none⟩ = some (.map (some m4)) ∧ v.cell? ⟨tb, 6, none⟩ = some (.map (some m3)) ∧ v.cell? ⟨b4, 4, none⟩ = some (.string a.key)) := Lib.hid (fun v hv => by
    have c7 := (H1.out.keep hv).cl.vt
    rw [ht] at c7
    have t := (T1.out.below hv).blk
    have x := A1.out.below hv A1.out.lt
    exact ⟨c7, t.cell 7, t.cell 6, by rw [x.cell]; exact A3⟩)
  have L4 : Hid (∀ v, Below W.heap.size W v → (Instr.lookup 46 (.map (some m4)) (.string a.key) true).run Try.prog v = .ok (.tuple #[.agg #[.string ByteArray.empty, .string ByteArray.empty, .bool false], .bool false]) v) := Lib.hid (fun v hv => (Nil.isF (M := mW) (T1.out.k4.below hv T1.out.k4.lt)).look_ok Try.underlying46 (zero63 _) a.key ok)
  have L3 : Hid (∀ v, Below W.heap.size W v → (Instr.lookup 108 (.map (some m3)) (.string a.key) true).run Try.prog v = .ok (.tuple #[.agg #[.bool false, .string ByteArray.empty, .int .i64 0], .bool false]) v) := Lib.hid (fun v hv => (Nil.isF (M := mS) (T1.out.k3.below hv T1.out.k3.lt)).look_ok Try.underlying108 (zero106 _) a.key ok)
  have S0 := Lib.hid (F.out W (Below.refl _ _))
  have S1 := Lib.hid (F.out (W.alloc (.cells #[.string ⟨#[]⟩, .string ⟨#[]⟩, .bool false] 63)) ((Below.refl _ _).alloc (Nat.le_refl _) _))
  have l1 := L4.out W.drew (Below.refl _ _).drew
  have l2 := L4.out (W.alloc (.cells #[.string ⟨#[]⟩, .string ⟨#[]⟩, .bool false] 63)).drew ((Below.refl _ _).alloc (Nat.le_refl _) _).drew
  go_cut [6, 7] from 10 (NoneR W)
  case first =>
    have BA : Hid (Below W.heap.size W (W.alloc (.cells #[.string ByteArray.empty, .string ByteArray.empty, .bool false] 63)).drew) := Lib.hid ((Below.refl _ _).alloc (Nat.le_refl _) _).drew
    go_region_held3 (fun v => v.cell? ⟨p, 7, none⟩ = some (.pointer (some ⟨tb, 0, none⟩)) ∧ v.cell? ⟨tb, 7, none⟩ = some (.map (some m4)) ∧ v.cell? ⟨tb, 6, none⟩ = some (.map (some m3)) ∧ v.cell? ⟨b4, 4, none⟩ = some (.string a.key)) (first | exact S0.out | exact S1.out) (fail)
    all_goals
      go_wp2_with fail
      go_meet
      case rel => exact ⟨rfl, BA.out⟩
  case rest =>
    obtain ⟨rfl, hBW⟩ := hcut
    have B2 : Hid (Below W.heap.size W wc) := Lib.hid hBW
    clear l1 l2 S0 S1 hBW
    go_upto_region 5 with (fail)
    have S0 := Lib.hid (F.out wc B2.out)
    have S1 := Lib.hid (F.out (wc.alloc (.cells #[.bool false, .string ⟨#[]⟩, .int .i64 0] 106)) (B2.out.alloc B2.out.size _))
    have l1 := L3.out wc.drew B2.out.drew
    have l2 := L3.out (wc.alloc (.cells #[.bool false, .string ⟨#[]⟩, .int .i64 0] 106)).drew (B2.out.alloc B2.out.size _).drew
    go_cut [8, 9] from 33 (NoneR wc)
    case first =>
      have BA : Hid (Below wc.heap.size wc (wc.alloc (.cells #[.bool false, .string ByteArray.empty, .int .i64 0] 106)).drew) := Lib.hid ((Below.refl _ _).alloc (Nat.le_refl _) _).drew
      go_region_held3 (fun v => v.cell? ⟨p, 7, none⟩ = some (.pointer (some ⟨tb, 0, none⟩)) ∧ v.cell? ⟨tb, 7, none⟩ = some (.map (some m4)) ∧ v.cell? ⟨tb, 6, none⟩ = some (.map (some m3)) ∧ v.cell? ⟨b4, 4, none⟩ = some (.string a.key)) (first | exact S0.out | exact S1.out) (fail)
      all_goals
        go_wp2_with fail
        go_meet
        case rel => exact ⟨rfl, BA.out⟩
    case rest =>
      obtain ⟨rfl, hBW⟩ := hcut
      clear l1 l2 S0 S1
      have B3 : Hid (Below w.heap.size w wc) := Lib.hid (BW.out.trans ((B2.out.trans (hBW.mono B2.out.size)).mono BW.out.size))
      have A3 : Hid (Blk wc b4 43 A) := Lib.hid ((A1.out.below B2.out A1.out.lt).below hBW (A1.out.below B2.out A1.out.lt).lt)
      have R3 : Hid (∃ Z, Blk wc (b4 + 1) 102 Z ∧ Z.size = 13) := Lib.hid (by obtain ⟨Z, h1, h2⟩ := R1.out; have h3 := h1.below B2.out h1.lt; exact ⟨Z, h3.below hBW h3.lt, h2⟩)
      have hbt : tb < w.heap.size := HT.out.blk.lt
      have hbm : m1 < w.heap.size := HT.out.k1.lt
      obtain ⟨g1, g2⟩ := blkN_has A3.out AC.out.1
      clear hBW B2 R1 A1 T1 H1 F L4 L3 BW
      have LK := Lib.hid (LOCK.out wc B3.out)
      clear LOCK
      go_wp2_with (go_at_call 45; go_loud (refine LK.out.mono ?_; rintro e w9 ⟨b, k, x, rfl, hL⟩; have HL := Lib.hid hL; obtain ⟨Z, hZ, hzs⟩ := R3.out; have hZ9 := hZ.chg hL.chg (by omega); have rm := blkN_room hZ9 hzs; obtain ⟨C, hC, hcc⟩ := callV_ok (some ⟨b, 0, none⟩) 1 1 a false; rw [hC]; have HC := Lib.hid hC; clear hL hC))
      have lb : b4 + 1 < wc.heap.size := hZ.lt
      have RF : Hid (Blk (putN w9 (b4 + 1) 0 C) (b4 + 1) 102 C) := Lib.hid (putN_fill hZ9 (hzs.trans hcc.1.symm))
      have LF : Hid (Locked lo p c ob oc gb gc g q L gs sp tb n cc m1 m2 m3 m4 a 1 w (putN w9 (b4 + 1) 0 C) b k x) := Lib.hid
        (HL.out.up B3.out HT.out hp H0.out.1 H0.out.2.1 H0.out.2.2.1 H0.out.2.2.2 ⟨by omega, lb⟩ (putN_chg (S := fun j => j = b4 + 1) (Chg.refl _ w9) (.inr rfl) 0 C))
      have hl := load_call hcc.1 RF.out.range
      exact bodyPost_ret (v := .tuple #[.agg C, .int .i64 0]) (by simp [results, Try.results44, asAddr, hl]) rfl ⟨b, k, x, by rw [HC.out], LF.out⟩
end Go.Proofs.Ytpaihfdmjkfegaa.Cl

/- does, at a begin: walked. -/
namespace Go.Proofs.Ytpaihfdmjkfegaa.Cl
open Go.RowKit Go.Lib Go.Maps Go.Proofs.Ytpaihfdmjkfegaa.MapF Go.Proofs.Ytpaihfdmjkfegaa.Msg Go.Proofs.Ytpaihfdmjkfegaa.Cls Go.Proofs.Ytpaihfdmjkfegaa.Ck

attribute [local go_sem ↓] loadAct_eq storeAct_eq storeCall_eq loadCall_eq
attribute [local go_sem] run_loadAct run_storeAct run_storeCall run_loadCall

/-- What a begin leaves. -/
structure Begun (p : Nat) (c : Client) (w w' : World) (tb m1 m2 m3 m4 : Nat) : Prop where
  cl : ClAt w' p { c with cnt := c.cnt + 1, vt := .pointer (some ⟨tb, 0, none⟩) }
  tx : Tx0 w' tb (c.cnt + 1) c.num m1 m2 m3 m4
  new : w.heap.size ≤ tb ∧ w.heap.size ≤ m1 ∧ w.heap.size ≤ m2 ∧ w.heap.size ≤ m3 ∧ w.heap.size ≤ m4
  ne : m1 ≠ m2 ∧ m1 ≠ m3 ∧ m1 ≠ m4 ∧ m2 ≠ m3 ∧ m2 ≠ m4 ∧ m3 ≠ m4
  chg : Chg (fun b => b = p) w w'
theorem Begun.up {p : Nat} {c : Client} {w v v' v'' : World} {tb m1 m2 m3 m4 g0 : Nat} (h : Begun p c v v' tb m1 m2 m3 m4) (hv : Below w.heap.size w v) (hp : p < w.heap.size) (hg : w.heap.size ≤ g0 ∧ g0 < v.heap.size) (hc : Chg (fun j => j = g0) v' v'') : Begun p c w v'' tb m1 m2 m3 m4 := by
  have s1 := hv.size
  have n := h.new
  exact ⟨h.cl.chg hc (by omega), ⟨h.tx.blk.chg hc (by omega), h.tx.k1.chg hc (by omega), h.tx.k2.chg hc (by omega), h.tx.k3.chg hc (by omega), h.tx.k4.chg hc (by omega)⟩, ⟨by omega, by omega, by omega, by omega, by omega⟩, h.ne, ((Chg.of hv).on h.chg).trans hc (fun j hj e => by omega)⟩

set_option maxRecDepth 100000 in
set_option maxHeartbeats 4000000 in
theorem does_begin (p : Nat) (c : Client) (k v : ByteArray) (w : World) (hC : ClAt w p c) (ht : c.vt = .pointer none) (hw : c.waits = false) (ha : 0 ≤ c.cnt ∧ c.cnt < 1099511627776) (hn : 0 ≤ c.num ∧ c.num < 16) :
    Calls Try.prog 27 #[.pointer (some ⟨p, 0, none⟩), .int .i64 1, .string k, .string v] w fun e w' => ∃ tb m1 m2 m3 m4, e = .returned (.tuple #[callV (.slice none 0 0) (beginAct c.num (c.cnt + 1)) true, .int .i64 0]) ∧ Begun p c w w' tb m1 m2 m3 m4 := by
  have BG := Lib.hid (fun (v : World) (hv : Below w.heap.size w v) => begin_any p c v (hC.below hv hC.blk.lt) ht ha hn)
  have HC := Lib.hid hC
  have c8 := hC.waits
  have hp := hC.blk.lt
  rw [hw] at c8
  clear hC ht ha hn
  go_enter Try.func27, Try.ntmps27
  go_upto_region 6 with (fail)
  refine world_out (fun W hW => ?_)
  have BW : Hid (Below w.heap.size w W) := Lib.hid (by rw [hW]; exact (Below.refl _ _).alloc (Nat.le_refl _) _)
  have R1 : Hid (∃ Z, Blk W w.heap.size 102 Z ∧ Z.size = 13) := Lib.hid ⟨_, by rw [hW]; exact Blk.new w 102 _, rfl⟩
  clear hW c8
  have B := Lib.hid (BG.out W BW.out)
  clear BG
  go_wp2_with (go_at_call 41; go_loud (refine B.out.mono ?_; rintro e w9 ⟨tb, m1, m2, m3, m4, rfl, h1, h2, h3, h4, h5⟩; have HB : Hid (Begun p c W w9 tb m1 m2 m3 m4) := Lib.hid ⟨h1, h2, h3, h4, h5⟩; obtain ⟨Z, hZ, hzs⟩ := R1.out; have hZ9 := hZ.chg h5 (by omega); have rm := blkN_room hZ9 hzs; obtain ⟨C, hC, hcc⟩ := callV_ok none 0 0 (beginAct c.num (c.cnt + 1)) true; rw [hC]; have HC := Lib.hid hC; clear h1 h2 h3 h4 h5 hC))
  have RF : Hid (Blk (putN w9 w.heap.size 0 C) w.heap.size 102 C) := Lib.hid (putN_fill hZ9 (hzs.trans hcc.1.symm))
  have LF : Hid (Begun p c w (putN w9 w.heap.size 0 C) tb m1 m2 m3 m4) := Lib.hid (HB.out.up BW.out hp ⟨Nat.le_refl _, hZ.lt⟩ (putN_chg (S := fun j => j = w.heap.size) (Chg.refl _ w9) (.inr rfl) 0 C))
  have hl := load_call hcc.1 RF.out.range
  exact bodyPost_ret (v := .tuple #[.agg C, .int .i64 0]) (by simp [results, Try.results27, asAddr, hl]) rfl ⟨tb, m1, m2, m3, m4, by rw [HC.out], LF.out⟩
end Go.Proofs.Ytpaihfdmjkfegaa.Cl

/- does, at a read: walked. -/
namespace Go.Proofs.Ytpaihfdmjkfegaa.Cl
open Go.RowKit Go.Lib Go.Maps Go.Proofs.Ytpaihfdmjkfegaa.MapF Go.Proofs.Ytpaihfdmjkfegaa.Msg Go.Proofs.Ytpaihfdmjkfegaa.Cls Go.Proofs.Ytpaihfdmjkfegaa.Ck

attribute [local go_sem ↓] loadAct_eq storeAct_eq storeCall_eq loadCall_eq
attribute [local go_sem] run_loadAct run_storeAct run_storeCall run_loadCall

def actOf (num kind n cc : Int) (key : ByteArray) : ActV := { zeroAct with who := num, call := kind, n := n, c := cc, key := key }
/-- The act's variable is laid. -/
def ActR (W : World) (a : ActV) (v10 : Value) (wr : World) : Prop := ∃ b, v10 = .pointer (some ⟨b, 0, none⟩) ∧ W.heap.size ≤ b ∧ Blk wr b 43 a.cs ∧ Below W.heap.size W wr

set_option maxRecDepth 100000 in
set_option maxHeartbeats 4000000 in
theorem does_read (lo p : Nat) (c : Client) (ob oc gb gc g q : Nat) (L : List Ent) (gs : List Nat) (sp : List ByteArray) (tb : Nat) (n cc : Int) (m1 m2 m3 m4 : Nat) (key val : ByteArray) (w : World) (h : CliAt lo w p c ob oc gb gc g q L gs sp) (hsp : sp.length + 1 = g) (hg8 : g ≤ 8)
    (ht : c.vt = .pointer (some ⟨tb, 0, none⟩)) (hw : c.waits = false) (hT : Tx0 w tb n cc m1 m2 m3 m4) (hs : 0 ≤ c.seq ∧ c.seq < 1000000) (w0 : World) (c0 : Client) (gs0 : List Nat) (h0 : CliAt lo w0 p c0 ob oc gb gc g q L gs0 sp) (K0 : Chg (fun b => b = p ∨ b = gb) w0 w) (he : c.vo = c0.vo ∧ c.vg = c0.vg ∧ c.D = c0.D) (hw0 : w0.heap.size ≤ tb ∧ w0.heap.size ≤ m1 ∧ w0.heap.size ≤ m2 ∧ w0.heap.size ≤ m3 ∧ w0.heap.size ≤ m4) (hmm : m1 ≠ m2 ∧ m1 ≠ m3 ∧ m1 ≠ m4) :
    Calls Try.prog 27 #[.pointer (some ⟨p, 0, none⟩), .int .i64 2, .string key, .string val] w fun e w' =>
      (keyB key = true ∧ ∃ b k x, e = .returned (.tuple #[callV (.slice (some ⟨b, 0, none⟩) 1 1) (actOf c.num 2 n cc key) false, .int .i64 0]) ∧ Locked lo p c ob oc gb gc g q L gs sp tb n cc m1 m2 m3 m4 (actOf c.num 2 n cc key) 1 w w' b k x) ∨
      (keyB key = false ∧ e = .returned (.tuple #[callV (.slice none 0 0) zeroAct false, .int .i64 120]) ∧ Below w.heap.size w w') := by
  have READ := Lib.hid (fun (v : World) (hv : Below w.heap.size w v) (hk : keyB key = true) => read_any lo p c ob oc gb gc g q L gs sp tb n cc m1 m2 m3 m4 (actOf c.num 2 n cc key) v (h.keep hv) hsp hg8 ht (hT.below hv) hk hs w0 c0 gs0 h0 (K0.then hv) he hw0 hmm)
  have H := Lib.hid h
  have HT := Lib.hid hT
  have H0 := Lib.hid (And.intro h0 (And.intro K0 (And.intro he (And.intro hw0.1 hw0.2.1))))
  have c8 := h.cl.waits
  rw [hw] at c8
  have c7 := h.cl.vt
  rw [ht] at c7
  have hp := h.cl.blk.lt
  clear h hT hs h0 K0 he hw0 hmm
  go_enter Try.func27, Try.ntmps27
  go_upto_region 9 with (fail)
  refine world_out (fun W hW => ?_)
  have BW : Hid (Below w.heap.size w W) := Lib.hid (by rw [hW]; exact (Below.refl _ _).alloc (Nat.le_refl _) _)
  have R1 : Hid (∃ Z, Blk W w.heap.size 102 Z ∧ Z.size = 13) := Lib.hid ⟨_, by rw [hW]; exact Blk.new w 102 _, rfl⟩
  have H1 := Lib.hid (H.out.keep BW.out)
  have T1 := Lib.hid (HT.out.below BW.out)
  clear hW c8 c7
  go_cut [10] from 52 (ActR W (actOf c.num 2 n cc ⟨#[]⟩))
  case first =>
    have F : Hid (∀ v, Below W.heap.size W v → v.cell? ⟨p, 0, none⟩ = some (.int .i64 c.num) ∧ v.cell? ⟨p, 7, none⟩ = some (.pointer (some ⟨tb, 0, none⟩)) ∧ v.cell? ⟨tb, 0, none⟩ = some (.int .i64 n) ∧ v.cell? ⟨tb, 1, none⟩ = some (.int .i64 cc)) := Lib.hid (fun v hv => by
      have c7 := (H1.out.keep hv).cl.vt
      rw [ht] at c7
      have t := (T1.out.below hv).blk
      exact ⟨(H1.out.keep hv).cl.num, c7, t.cell 0, t.cell 1⟩)
    have S0 := Lib.hid (F.out W (Below.refl _ _))
    have S1 := Lib.hid (F.out (W.alloc (.cells #[.int .i64 0, .int .i64 0, .int .i64 0, .int .i64 0, .string ⟨#[]⟩, .string ⟨#[]⟩, .bool false, .int .i64 0, .int .i64 0, .int .i64 0, .int .i64 0] 43)) ((Below.refl _ _).alloc (Nat.le_refl _) _))
    have S2 := Lib.hid (fun C : Array Value => F.out (putN (W.alloc (.cells #[.int .i64 0, .int .i64 0, .int .i64 0, .int .i64 0, .string ⟨#[]⟩, .string ⟨#[]⟩, .bool false, .int .i64 0, .int .i64 0, .int .i64 0, .int .i64 0] 43)).drew W.heap.size 0 C) (putN_below ((Below.refl _ _).alloc (Nat.le_refl _) _).drew (Nat.le_refl _) 0 C))
    have S0d := Lib.hid (F.out W.drew (Below.refl _ _).drew)
    have S1d := Lib.hid (F.out (W.alloc (.cells #[.int .i64 0, .int .i64 0, .int .i64 0, .int .i64 0, .string ⟨#[]⟩, .string ⟨#[]⟩, .bool false, .int .i64 0, .int .i64 0, .int .i64 0, .int .i64 0] 43)).drew ((Below.refl _ _).alloc (Nat.le_refl _) _).drew)
    have rm : RoomN 11 (W.alloc (.cells #[.int .i64 0, .int .i64 0, .int .i64 0, .int .i64 0, .string ⟨#[]⟩, .string ⟨#[]⟩, .bool false, .int .i64 0, .int .i64 0, .int .i64 0, .int .i64 0] 43)).drew W.heap.size 0 := roomN_new W 43 _ rfl
    have ac : CellsN 11 #[.int .i64 c.num, .int .i64 2, .int .i64 n, .int .i64 cc, .string ⟨#[]⟩, .string ⟨#[]⟩, .bool false, .int .i64 0, .int .i64 0, .int .i64 0, .int .i64 0] := ⟨rfl, by simp [Value.oneCell']⟩
    have EQ : Hid (#[.int .i64 c.num, .int .i64 2, .int .i64 n, .int .i64 cc, .string ⟨#[]⟩, .string ⟨#[]⟩, .bool false, .int .i64 0, .int .i64 0, .int .i64 0, .int .i64 0] = (actOf c.num 2 n cc ⟨#[]⟩).cs) := Lib.hid (by simp [actOf, zeroAct, ActV.cs])
    have PF : Hid (∀ C : Array Value, C.size = 11 → Blk (putN (W.alloc (.cells #[.int .i64 0, .int .i64 0, .int .i64 0, .int .i64 0, .string ⟨#[]⟩, .string ⟨#[]⟩, .bool false, .int .i64 0, .int .i64 0, .int .i64 0, .int .i64 0] 43)).drew W.heap.size 0 C) W.heap.size 43 C ∧ Below W.heap.size W (putN (W.alloc (.cells #[.int .i64 0, .int .i64 0, .int .i64 0, .int .i64 0, .string ⟨#[]⟩, .string ⟨#[]⟩, .bool false, .int .i64 0, .int .i64 0, .int .i64 0, .int .i64 0] 43)).drew W.heap.size 0 C)) := Lib.hid (fun C hC => ⟨putN_fill (w := (W.alloc (.cells #[.int .i64 0, .int .i64 0, .int .i64 0, .int .i64 0, .string ⟨#[]⟩, .string ⟨#[]⟩, .bool false, .int .i64 0, .int .i64 0, .int .i64 0, .int .i64 0] 43)).drew) (Blk.new W 43 _).drew (by rw [hC]; rfl), putN_below ((Below.refl _ _).alloc (Nat.le_refl _) _).drew (Nat.le_refl _) 0 C⟩)
    go_region_held3 (fun v => v.cell? ⟨p, 0, none⟩ = some (.int .i64 c.num) ∧ v.cell? ⟨p, 7, none⟩ = some (.pointer (some ⟨tb, 0, none⟩)) ∧ v.cell? ⟨tb, 0, none⟩ = some (.int .i64 n) ∧ v.cell? ⟨tb, 1, none⟩ = some (.int .i64 cc)) (first | with_reducible exact S0.out | with_reducible exact S0d.out | with_reducible exact S1.out | with_reducible exact S1d.out | with_reducible exact S2.out _) (fail)
    all_goals
      go_wp2_with fail
      go_meet
      case rel => exact ⟨W.heap.size, rfl, Nat.le_refl _, by rw [← EQ.out]; exact (PF.out _ rfl).1, (PF.out _ rfl).2⟩
  case rest =>
    obtain ⟨ab, rfl, hab, hA, hBW⟩ := hcut
    have B2 : Hid (Below w.heap.size w wc) := Lib.hid (BW.out.trans (hBW.mono BW.out.size))
    have R2 : Hid (∃ Z, Blk wc w.heap.size 102 Z ∧ Z.size = 13) := Lib.hid (by obtain ⟨Z, h1, h2⟩ := R1.out; exact ⟨Z, h1.below hBW h1.lt, h2⟩)
    have hab1 : w.heap.size < ab := by obtain ⟨Z, h1, _⟩ := R1.out; have := h1.lt; omega
    have A2 := Lib.hid hA
    have n4 : wc.cell? ⟨ab, 4, none⟩ = some (.string ⟨#[]⟩) := by rw [hA.cell]; simp [ActV.cs, actOf, zeroAct]
    have f4 := hA.frozen 4
    clear hA hBW R1 H1 T1 BW
    go_upto_region 13 with (fail)
    refine world_out (fun V hV => ?_)
    have B3 : Hid (Below w.heap.size w V) := Lib.hid (by rw [hV]; exact B2.out.setCell (p := ⟨ab, 4, none⟩) (Nat.le_of_lt hab1) _)
    have R3 : Hid (∃ Z, Blk V w.heap.size 102 Z ∧ Z.size = 13) := Lib.hid (by obtain ⟨Z, h1, h2⟩ := R2.out; rw [hV]; exact ⟨Z, h1.far (p := ⟨ab, 4, none⟩) (Nat.ne_of_lt hab1) _, h2⟩)
    have A3 : Hid (Blk V ab 43 (actOf c.num 2 n cc key).cs) := Lib.hid (by
      have h := A2.out.set_ 4 (.string key)
      rw [hV]
      have e : ((actOf c.num 2 n cc ⟨#[]⟩).cs.setIfInBounds 4 (.string key)) = (actOf c.num 2 n cc key).cs := by simp [ActV.cs, actOf, zeroAct]
      rw [e] at h
      exact h)
    have H3 := Lib.hid (H.out.keep B3.out)
    have v2 := H3.out.cl.dir
    have KY := Lib.hid (key_any' c.D key)
    clear hV n4 f4 A2 R2 B2
    cases hkb : keyB key with
    | true =>
      rw [hkb] at KY
      have RD := Lib.hid (READ.out V B3.out hkb)
      clear READ
      go_upto_region 21 with (go_at_call 43; refine (KY.out _).mono ?_; rintro e w' ⟨rfl, rfl⟩)
      obtain ⟨g1, g2⟩ := blkN_has (n := 11) A3.out rfl
      have hbt := HT.out.blk.lt
      have hbm := HT.out.k1.lt
      go_wp2_with (go_at_call 44; go_loud (refine RD.out.mono ?_; rintro e w9 ⟨b, k, x, rfl, hL⟩; have HL := Lib.hid hL; obtain ⟨Z, hZ, hzs⟩ := R3.out; have hZ9 := hZ.chg hL.chg (by omega); have rm := blkN_room hZ9 hzs; obtain ⟨C, hC, hcc⟩ := callV_ok (some ⟨b, 0, none⟩) 1 1 (actOf c.num 2 n cc key) false; rw [hC]; have HC := Lib.hid hC; clear hL hC))
      have RF : Hid (Blk (putN w9 w.heap.size 0 C) w.heap.size 102 C) := Lib.hid (putN_fill hZ9 (hzs.trans hcc.1.symm))
      have LF := Lib.hid (HL.out.up B3.out HT.out hp H0.out.1 H0.out.2.1 H0.out.2.2.1 H0.out.2.2.2 ⟨Nat.le_refl _, hZ.lt⟩ (putN_chg (S := fun j => j = w.heap.size) (Chg.refl _ w9) (.inr rfl) 0 C))
      have hl := load_call hcc.1 RF.out.range
      exact bodyPost_ret (v := .tuple #[.agg C, .int .i64 0]) (by simp [results, Try.results27, asAddr, hl]) rfl (.inl ⟨hkb, b, k, x, by rw [HC.out], LF.out⟩)
    | false =>
      rw [hkb] at KY
      clear READ
      obtain ⟨Z, hZ, hzs⟩ := R3.out
      have rm := blkN_room (n := 13) hZ hzs
      have cz : CellsN 13 #[.slice none 0 0, .int .i64 0, .int .i64 0, .int .i64 0, .int .i64 0, .string ⟨#[]⟩, .string ⟨#[]⟩, .bool false, .int .i64 0, .int .i64 0, .int .i64 0, .int .i64 0, .bool false] := ⟨rfl, by simp [Value.oneCell']⟩
      have CV : Hid (callV (.slice none 0 0) zeroAct false = .agg #[.slice none 0 0, .int .i64 0, .int .i64 0, .int .i64 0, .int .i64 0, .string ⟨#[]⟩, .string ⟨#[]⟩, .bool false, .int .i64 0, .int .i64 0, .int .i64 0, .int .i64 0, .bool false]) := Lib.hid (by simp [callV, zeroAct, ActV.cs])
      go_wp2_with (go_at_call 43; refine (KY.out _).mono ?_; rintro e w' ⟨rfl, rfl⟩)
      generalize (#[.slice none 0 0, .int .i64 0, .int .i64 0, .int .i64 0, .int .i64 0, .string ⟨#[]⟩, .string ⟨#[]⟩, .bool false, .int .i64 0, .int .i64 0, .int .i64 0, .int .i64 0, .bool false] : Array Value) = C at cz CV ⊢
      have RF : Hid (Blk (putN w' w.heap.size 0 C) w.heap.size 102 C) := Lib.hid (putN_fill hZ (hzs.trans cz.1.symm))
      have hl := load_call cz.1 RF.out.range
      exact bodyPost_ret (v := .tuple #[.agg C, .int .i64 120]) (by simp [results, Try.results27, asAddr, hl]) rfl (.inr ⟨hkb, by rw [CV.out], putN_below B3.out (Nat.le_refl _) 0 C⟩)
end Go.Proofs.Ytpaihfdmjkfegaa.Cl

/- Call, over what does hands back: walked. -/
namespace Go.Proofs.Ytpaihfdmjkfegaa.Cl
open Go.RowKit Go.Lib Go.Proofs.Ytpaihfdmjkfegaa.Msg Go.Proofs.Ytpaihfdmjkfegaa.Ck

attribute [local go_sem ↓] loadAct_eq storeAct_eq storeCall_eq loadCall_eq
attribute [local go_sem] run_loadAct run_storeAct run_storeCall run_loadCall

set_option maxRecDepth 100000 in
set_option maxHeartbeats 4000000 in
/-- Call where does goes well. R: what does leaves, of the world ahead and the world behind. -/
theorem call_ok (p : Nat) (kind : Int) (key val : ByteArray) (w : World) (R : World → World → Option Addr → Nat → Nat → ActV → Bool → Prop)
    (hd : ∀ W, Below w.heap.size w W → Calls Try.prog 27 #[.pointer (some ⟨p, 0, none⟩), .int .i64 kind, .string key, .string val] W fun e w' => ∃ A m cap a d, e = .returned (.tuple #[callV (.slice A m cap) a d, .int .i64 0]) ∧ R W w' A m cap a d ∧ ∃ S, Chg S W w' ∧ ¬ S w.heap.size)
    (up : ∀ W w' w'' A m cap a d, Below w.heap.size w W → w.heap.size < W.heap.size → R W w' A m cap a d → Chg (fun j => j = w.heap.size) w' w'' → R w w'' A m cap a d) :
    Calls Try.prog 14 #[.pointer (some ⟨p, 0, none⟩), .int .i64 kind, .string key, .string val] w fun e w' => ∃ A m cap a d, e = .returned (.tuple #[.slice A m cap, .agg a.cs, .bool d, .int .i64 0]) ∧ R w w' A m cap a d := by
  have HD := Lib.hid hd
  have UP := Lib.hid up
  clear hd up
  go_enter Try.func14, Try.ntmps14
  go_upto_region 1 with (fail)
  refine world_out (fun W hW => ?_)
  have BW : Hid (Below w.heap.size w W) := Lib.hid (by rw [hW]; exact (Below.refl _ _).alloc (Nat.le_refl _) _)
  have LW : Hid (w.heap.size < W.heap.size) := Lib.hid (by rw [hW]; simp)
  have ZW : Hid (Blk W w.heap.size 43 zeroAct.cs) := Lib.hid (by rw [hW]; exact Blk.new w 43 _)
  clear hW
  have D := Lib.hid (HD.out W BW.out)
  clear HD
  go_upto_region 2 with (go_at_call 27; go_loud (refine D.out.mono ?_; rintro e w9 ⟨A, m, cap, a, d, rfl, hR, hB⟩; have HR : Hid (R W w9 A m cap a d ∧ Blk w9 w.heap.size 43 zeroAct.cs) := Lib.hid ⟨hR, Exists.elim hB (fun S h => ZW.out.chg h.1 h.2)⟩; obtain ⟨C, hC, hcc⟩ := callV_ok A m cap a d; rw [hC]; have HC := Lib.hid hC; have rn := roomN_new (n := 13) w9 102 #[.slice none 0 0, .int .i64 0, .int .i64 0, .int .i64 0, .int .i64 0, .string ⟨#[]⟩, .string ⟨#[]⟩, .bool false, .int .i64 0, .int .i64 0, .int .i64 0, .int .i64 0, .bool false] rfl; clear hR hB hC))
  refine world_out (fun V hV => ?_)
  have ZV : Hid (Blk V w9.heap.size 102 C) := Lib.hid (by rw [hV]; exact putN_fill (Blk.new w9 102 _) hcc.1.symm)
  have KV : Hid (Below w9.heap.size w9 V) := Lib.hid (by rw [hV]; exact putN_below ((Below.refl _ _).alloc (Nat.le_refl _) _) (Nat.le_refl _) 0 C)
  have lw9 : w.heap.size < w9.heap.size := HR.out.2.lt
  have AV : Hid (Blk V w.heap.size 43 zeroAct.cs) := Lib.hid (HR.out.2.below KV.out lw9)
  obtain ⟨b, hb⟩ : ∃ b, b = w9.heap.size := ⟨_, rfl⟩
  rw [← hb] at ZV ⊢
  have hbw : w.heap.size < b := by omega
  have CE : Hid (C = #[.slice A m cap] ++ a.cs ++ #[.bool d]) := Lib.hid (by
    have h := HC.out
    unfold callV at h
    injection h with h
    exact h.symm)
  have F : Hid (∀ v, Chg (fun j => j = w.heap.size) V v → v.cell? ⟨b, 0, none⟩ = some (.slice A m cap) ∧ v.cell? ⟨b, 12, none⟩ = some (.bool d) ∧ HasN 11 v b 1 ∧ valN 11 v b 1 = a.cs) := Lib.hid (fun v hv => by
    have g := ZV.out.chg hv (by omega)
    have e := CE.out
    have r : v.rangeAt b 1 a.cs.toList := fun j u hu => by
      rw [Array.getElem?_toList] at hu
      have hj : j < 11 := by have := (Array.getElem?_eq_some_iff.1 hu).1; exact this
      rw [g.cell, e, Array.getElem?_append_left (by simp [ActV.cs]; omega), Array.getElem?_append_right (by simp)]
      simpa [Nat.add_comm] using hu
    have hh := valN_eq (n := 11) rfl r
    exact ⟨by rw [g.cell, e]; simp [ActV.cs], by rw [g.cell, e]; simp [ActV.cs], hh.1, hh.2⟩)
  have AC := a.cells
  have rm : RoomN 11 V.drew w.heap.size 0 := blkN_room (n := 11) AV.out.drew rfl
  have HA : Hid (a.cs.size = 11) := Lib.hid rfl
  have PF : Hid (∀ X : Array Value, X.size = 11 → Blk (putN V.drew w.heap.size 0 X) w.heap.size 43 X) := Lib.hid (fun X hX => putN_fill (w := V.drew) AV.out.drew (by rw [hX]; rfl))
  have UF : Hid (∀ X : Array Value, R w (putN V.drew w.heap.size 0 X) A m cap a d) := Lib.hid (fun X => UP.out W w9 _ A m cap a d BW.out LW.out HR.out.1 (putN_chg (S := fun j => j = w.heap.size) (Chg.of KV.out).drew (.inr rfl) 0 X))
  have S0 := Lib.hid (F.out V (Chg.refl _ _))
  have S0d := Lib.hid (F.out V.drew (Chg.refl _ _).drew)
  have S1 := Lib.hid (fun X : Array Value => F.out (putN V.drew w.heap.size 0 X) (putN_chg (S := fun j => j = w.heap.size) (Chg.refl _ _).drew (.inr rfl) 0 X))
  generalize hAA : a.cs = AA at F AC HA S0 S0d S1
  have EA := Lib.hid hAA
  clear hV rn hb hAA
  go_upto_region 4 with (fail)
  go_region_held3 (fun v => v.cell? ⟨b, 0, none⟩ = some (.slice A m cap) ∧ v.cell? ⟨b, 12, none⟩ = some (.bool d) ∧ HasN 11 v b 1 ∧ valN 11 v b 1 = AA) (first | with_reducible exact S0.out | with_reducible exact S0d.out | with_reducible exact S1.out _) (fail)
  have hl := load_act HA.out (PF.out AA HA.out).range
  go_wp2_with fail
  exact bodyPost_ret (v := .tuple #[.slice A m cap, .agg AA, .bool d, .int .i64 0]) (by simp [results, Try.results14, asAddr, hl]) rfl ⟨A, m, cap, a, d, by rw [EA.out], UF.out AA⟩

set_option maxRecDepth 100000 in
set_option maxHeartbeats 4000000 in
/-- Call where does refuses. -/
theorem call_err (p : Nat) (kind : Int) (key val : ByteArray) (er : Int) (w : World) (he : er ≠ 0)
    (hd : ∀ W, Below w.heap.size w W → Calls Try.prog 27 #[.pointer (some ⟨p, 0, none⟩), .int .i64 kind, .string key, .string val] W fun e w' => e = .returned (.tuple #[callV (.slice none 0 0) zeroAct false, .int .i64 er]) ∧ Below W.heap.size W w') :
    Calls Try.prog 14 #[.pointer (some ⟨p, 0, none⟩), .int .i64 kind, .string key, .string val] w fun e w' => e = .returned (.tuple #[.slice none 0 0, .agg zeroAct.cs, .bool false, .int .i64 er]) ∧ Below w.heap.size w w' := by
  have HD := Lib.hid hd
  clear hd
  go_enter Try.func14, Try.ntmps14
  go_upto_region 1 with (fail)
  refine world_out (fun W hW => ?_)
  have BW : Hid (Below w.heap.size w W) := Lib.hid (by rw [hW]; exact (Below.refl _ _).alloc (Nat.le_refl _) _)
  have ZW : Hid (Blk W w.heap.size 43 zeroAct.cs) := Lib.hid (by rw [hW]; exact Blk.new w 43 _)
  clear hW
  have D := Lib.hid (HD.out W BW.out)
  clear HD
  go_upto_region 2 with (go_at_call 27; go_loud (refine D.out.mono ?_; rintro e w9 ⟨rfl, hB⟩; have HB := Lib.hid hB; obtain ⟨C, hC, hcc⟩ := callV_ok none 0 0 zeroAct false; rw [hC]; have rn := roomN_new (n := 13) w9 102 #[.slice none 0 0, .int .i64 0, .int .i64 0, .int .i64 0, .int .i64 0, .string ⟨#[]⟩, .string ⟨#[]⟩, .bool false, .int .i64 0, .int .i64 0, .int .i64 0, .int .i64 0, .bool false] rfl; clear hB hC))
  refine world_out (fun V hV => ?_)
  have KV : Hid (Below w.heap.size w V) := Lib.hid (by rw [hV]; have s := HB.out.size; have t := BW.out.size; exact putN_below ((BW.out.trans (HB.out.mono t)).alloc (by omega) _) (by omega) 0 C)
  have AV : Hid (Blk V w.heap.size 43 zeroAct.cs) := Lib.hid (by rw [hV]; exact putN_far ((ZW.out.below HB.out ZW.out.lt).alloc _) (by have := ZW.out.lt; have := HB.out.size; omega))
  have rm : RoomN 11 V w.heap.size 0 := blkN_room (n := 11) AV.out rfl
  have az : CellsN 11 #[.int .i64 0, .int .i64 0, .int .i64 0, .int .i64 0, .string ⟨#[]⟩, .string ⟨#[]⟩, .bool false, .int .i64 0, .int .i64 0, .int .i64 0, .int .i64 0] := ⟨rfl, by simp [Value.oneCell']⟩
  have EZ : Hid (zeroAct.cs = #[.int .i64 0, .int .i64 0, .int .i64 0, .int .i64 0, .string ⟨#[]⟩, .string ⟨#[]⟩, .bool false, .int .i64 0, .int .i64 0, .int .i64 0, .int .i64 0]) := Lib.hid rfl
  clear hV rn
  go_wp2_with fail
  generalize (#[.int .i64 0, .int .i64 0, .int .i64 0, .int .i64 0, .string ⟨#[]⟩, .string ⟨#[]⟩, .bool false, .int .i64 0, .int .i64 0, .int .i64 0, .int .i64 0] : Array Value) = X at az EZ ⊢
  have PF : Hid (Blk (putN V w.heap.size 0 X) w.heap.size 43 X) := Lib.hid (putN_fill AV.out (by rw [az.1]; rfl))
  have hl := load_act az.1 PF.out.range
  exact bodyPost_ret (v := .tuple #[.slice none 0 0, .agg X, .bool false, .int .i64 er]) (by simp [results, Try.results14, asAddr, hl]) rfl ⟨by rw [EZ.out], putN_below KV.out (Nat.le_refl _) 0 X⟩
end Go.Proofs.Ytpaihfdmjkfegaa.Cl

/- Call at a begin, at a read; Waits, Tx. -/
namespace Go.Proofs.Ytpaihfdmjkfegaa.Cl
open Go.RowKit Go.Lib Go.Proofs.Ytpaihfdmjkfegaa.Msg Go.Proofs.Ytpaihfdmjkfegaa.Ck

theorem call_begin (p : Nat) (c : Client) (k v : ByteArray) (w : World) (hC : ClAt w p c) (ht : c.vt = .pointer none) (hw : c.waits = false) (ha : 0 ≤ c.cnt ∧ c.cnt < 1099511627776) (hn : 0 ≤ c.num ∧ c.num < 16) :
    Calls Try.prog 14 #[.pointer (some ⟨p, 0, none⟩), .int .i64 1, .string k, .string v] w fun e w' => ∃ tb m1 m2 m3 m4, e = .returned (.tuple #[.slice none 0 0, .agg (beginAct c.num (c.cnt + 1)).cs, .bool true, .int .i64 0]) ∧ Begun p c w w' tb m1 m2 m3 m4 := by
  have hp := hC.blk.lt
  have h := call_ok p 1 k v w (fun W w' A m cap a d => A = none ∧ m = 0 ∧ cap = 0 ∧ a = beginAct c.num (c.cnt + 1) ∧ d = true ∧ ∃ tb m1 m2 m3 m4, Begun p c W w' tb m1 m2 m3 m4)
    (fun W hW => (does_begin p c k v W (hC.below hW hp) ht hw ha hn).mono (fun e w' ⟨tb, m1, m2, m3, m4, he, hB⟩ => ⟨none, 0, 0, _, true, he, ⟨rfl, rfl, rfl, rfl, rfl, tb, m1, m2, m3, m4, hB⟩, _, hB.chg, fun e => by omega⟩))
    (fun W w' w'' A m cap a d hW hlt hR hc => by
      obtain ⟨r1, r2, r3, r4, r5, tb, m1, m2, m3, m4, hB⟩ := hR
      exact ⟨r1, r2, r3, r4, r5, tb, m1, m2, m3, m4, hB.up hW hp ⟨Nat.le_refl _, hlt⟩ hc⟩)
  exact h.mono (fun e w' ⟨A, m, cap, a, d, he, r1, r2, r3, r4, r5, tb, m1, m2, m3, m4, hB⟩ => by
    subst r1 r2 r3 r4 r5
    exact ⟨tb, m1, m2, m3, m4, he, hB⟩)

theorem call_read (lo p : Nat) (c : Client) (ob oc gb gc g q : Nat) (L : List Ent) (gs : List Nat) (sp : List ByteArray) (tb : Nat) (n cc : Int) (m1 m2 m3 m4 : Nat) (key val : ByteArray) (w : World) (h : CliAt lo w p c ob oc gb gc g q L gs sp) (hsp : sp.length + 1 = g) (hg8 : g ≤ 8)
    (ht : c.vt = .pointer (some ⟨tb, 0, none⟩)) (hw : c.waits = false) (hT : Tx0 w tb n cc m1 m2 m3 m4) (hs : 0 ≤ c.seq ∧ c.seq < 1000000) (w0 : World) (c0 : Client) (gs0 : List Nat) (h0 : CliAt lo w0 p c0 ob oc gb gc g q L gs0 sp) (K0 : Chg (fun b => b = p ∨ b = gb) w0 w) (he : c.vo = c0.vo ∧ c.vg = c0.vg ∧ c.D = c0.D) (hw0 : w0.heap.size ≤ tb ∧ w0.heap.size ≤ m1 ∧ w0.heap.size ≤ m2 ∧ w0.heap.size ≤ m3 ∧ w0.heap.size ≤ m4) (hmm : m1 ≠ m2 ∧ m1 ≠ m3 ∧ m1 ≠ m4) (hk : keyB key = true) :
    Calls Try.prog 14 #[.pointer (some ⟨p, 0, none⟩), .int .i64 2, .string key, .string val] w fun e w' => ∃ b k x, e = .returned (.tuple #[.slice (some ⟨b, 0, none⟩) 1 1, .agg (actOf c.num 2 n cc key).cs, .bool false, .int .i64 0]) ∧ Locked lo p c ob oc gb gc g q L gs sp tb n cc m1 m2 m3 m4 (actOf c.num 2 n cc key) 1 w w' b k x := by
  have hp := h.cl.blk.lt
  have t1 := hT.blk.lt
  have t2 := hT.k1.lt
  have hh := call_ok p 2 key val w (fun W w' A m cap a d => d = false ∧ a = actOf c.num 2 n cc key ∧ m = 1 ∧ cap = 1 ∧ ∃ b k x, A = some ⟨b, 0, none⟩ ∧ Locked lo p c ob oc gb gc g q L gs sp tb n cc m1 m2 m3 m4 (actOf c.num 2 n cc key) 1 W w' b k x)
    (fun W hW => (does_read lo p c ob oc gb gc g q L gs sp tb n cc m1 m2 m3 m4 key val W (h.keep hW) hsp hg8 ht hw (hT.below hW) hs w0 c0 gs0 h0 (K0.then hW) he hw0 hmm).mono (fun e w' hR => by
      rcases hR with ⟨_, b, k, x, he', hL⟩ | ⟨hk', _⟩
      · exact ⟨some ⟨b, 0, none⟩, 1, 1, _, false, he', ⟨rfl, rfl, rfl, rfl, b, k, x, rfl, hL⟩, _, hL.chg, fun e => by omega⟩
      · rw [hk] at hk'
        cases hk'))
    (fun W w' w'' A m cap a d hW hlt hR hc => by
      obtain ⟨r1, r2, r3, r4, b, k, x, r5, hL⟩ := hR
      exact ⟨r1, r2, r3, r4, b, k, x, r5, hL.up hW hT hp h0 K0 he ⟨hw0.1, hw0.2.1⟩ ⟨Nat.le_refl _, hlt⟩ hc⟩)
  exact hh.mono (fun e w' ⟨A, m, cap, a, d, he', r1, r2, r3, r4, b, k, x, r5, hL⟩ => by
    subst r1 r2 r3 r4 r5
    exact ⟨b, k, x, he', hL⟩)

theorem call_read_bad (lo p : Nat) (c : Client) (ob oc gb gc g q : Nat) (L : List Ent) (gs : List Nat) (sp : List ByteArray) (tb : Nat) (n cc : Int) (m1 m2 m3 m4 : Nat) (key val : ByteArray) (w : World) (h : CliAt lo w p c ob oc gb gc g q L gs sp) (hsp : sp.length + 1 = g) (hg8 : g ≤ 8)
    (ht : c.vt = .pointer (some ⟨tb, 0, none⟩)) (hw : c.waits = false) (hT : Tx0 w tb n cc m1 m2 m3 m4) (hs : 0 ≤ c.seq ∧ c.seq < 1000000) (w0 : World) (c0 : Client) (gs0 : List Nat) (h0 : CliAt lo w0 p c0 ob oc gb gc g q L gs0 sp) (K0 : Chg (fun b => b = p ∨ b = gb) w0 w) (he : c.vo = c0.vo ∧ c.vg = c0.vg ∧ c.D = c0.D) (hw0 : w0.heap.size ≤ tb ∧ w0.heap.size ≤ m1 ∧ w0.heap.size ≤ m2 ∧ w0.heap.size ≤ m3 ∧ w0.heap.size ≤ m4) (hmm : m1 ≠ m2 ∧ m1 ≠ m3 ∧ m1 ≠ m4) (hk : keyB key = false) :
    Calls Try.prog 14 #[.pointer (some ⟨p, 0, none⟩), .int .i64 2, .string key, .string val] w fun e w' => e = .returned (.tuple #[.slice none 0 0, .agg zeroAct.cs, .bool false, .int .i64 120]) ∧ Below w.heap.size w w' :=
  call_err p 2 key val 120 w (by decide) (fun W hW => (does_read lo p c ob oc gb gc g q L gs sp tb n cc m1 m2 m3 m4 key val W (h.keep hW) hsp hg8 ht hw (hT.below hW) hs w0 c0 gs0 h0 (K0.then hW) he hw0 hmm).mono (fun e w' hR => by
    rcases hR with ⟨hk', _⟩ | ⟨_, he', hb⟩
    · rw [hk] at hk'
      cases hk'
    · exact ⟨he', hb⟩))

theorem waits_any (p : Nat) (c : Client) (w : World) (hC : ClAt w p c) : Calls Try.prog 19 #[.pointer (some ⟨p, 0, none⟩)] w fun e w' => e = .returned (.bool c.waits) ∧ w' = w := by
  have c8 := hC.waits
  clear hC
  go_enter Try.func19, Try.ntmps19
  go_wp2
  go_ret
  exact ⟨rfl, rfl⟩
end Go.Proofs.Ytpaihfdmjkfegaa.Cl

/- Take, where a node says that it does not lead: walked. -/
namespace Go.Proofs.Ytpaihfdmjkfegaa.Cl
open Go.RowKit Go.Lib Go.Proofs.Ytpaihfdmjkfegaa.Msg Go.Proofs.Ytpaihfdmjkfegaa.Ck

attribute [local go_sem ↓] loadAct_eq storeAct_eq
attribute [local go_sem] run_loadAct run_storeAct

set_option maxRecDepth 100000 in
set_option maxHeartbeats 4000000 in
theorem take_hint (lo p : Nat) (c : Client) (ob oc gb gc g q : Nat) (L : List Ent) (gs : List Nat) (sp : List ByteArray) (k hint : Nat) (C : Array Value) (s n cc : Int) (w : World) (h : CliAt lo w p c ob oc gb gc g q L gs sp) (hq : c.q = (q : Int)) (hw : c.waits = true) (hk : c.grp = (k : Int)) (hkg : k < g) (hg8 : g ≤ 8) (hh : hint < q)
    (hC : MsgC C) (C0 : C[0]? = some (.int .i64 9)) (C12 : C[12]? = some (.int .i64 s)) (C13 : C[13]? = some (.int .i64 n)) (C14 : C[14]? = some (.int .i64 cc)) (C22 : C[22]? = some (.int .i64 130)) (C23 : C[23]? = some (.int .i64 (hint : Int)))
    (M12 : c.M[12]? = some (.int .i64 s)) (M13 : c.M[13]? = some (.int .i64 n)) (M14 : c.M[14]? = some (.int .i64 cc)) :
    Calls Try.prog 15 #[.pointer (some ⟨p, 0, none⟩), .agg C] w fun e w' => e = .returned (.tuple #[.agg zeroAct.cs, .bool false]) ∧ CliAt lo w' p { c with hinted := true } ob oc gb gc g q L (gs.set k hint) sp ∧ Chg (fun b => b = p ∨ b = gb) w w' := by
  have H := Lib.hid h
  have hp := h.cl.blk.lt
  have hgl : gb < w.heap.size := by obtain ⟨cur, q1, _⟩ := h.guess; exact q1.lt
  have CC := Lib.hid (And.intro C0 (And.intro C12 (And.intro C13 (And.intro C14 (And.intro C22 C23)))))
  have MM := Lib.hid (And.intro M12 (And.intro M13 M14))
  have HC := Lib.hid hC
  have kg : (k : Int) < (g : Int) := by omega
  have hq' : (hint : Int) < (q : Int) := by omega
  clear h C0 C12 C13 C14 C22 C23 M12 M13 M14 hC
  go_enter Try.func15, Try.ntmps15
  go_upto_region 1 with (fail)
  refine world_out (fun W hW => ?_)
  obtain ⟨b, hb⟩ : ∃ b, b = w.heap.size := ⟨_, rfl⟩
  have BW : Hid (Below w.heap.size w W) := Lib.hid (by rw [hW]; exact ((Below.refl _ _).alloc (Nat.le_refl _) _).alloc (by simp) _)
  have BC : Hid (Blk W b 55 C) := Lib.hid (by rw [hW, hb]; exact (Blk.new w 55 C).alloc _)
  have BR : Hid (Blk W (b + 1) 43 zeroAct.cs) := Lib.hid (by rw [hW, hb]; exact Blk.new2 w 55 C 43 _)
  have H1 := Lib.hid (H.out.keep BW.out)
  rw [← hb]
  have hbw : w.heap.size ≤ b := by omega
  have pb : p < b := by omega
  have gbb : gb < b := by omega
  clear hW hb
  have b0 : W.cell? ⟨b, 0, none⟩ = some (.int .i64 9) := by rw [BC.out.cell]; exact CC.out.1
  have b12 : W.cell? ⟨b, 12, none⟩ = some (.int .i64 s) := by rw [BC.out.cell]; exact CC.out.2.1
  have b13 : W.cell? ⟨b, 13, none⟩ = some (.int .i64 n) := by rw [BC.out.cell]; exact CC.out.2.2.1
  have b14 : W.cell? ⟨b, 14, none⟩ = some (.int .i64 cc) := by rw [BC.out.cell]; exact CC.out.2.2.2.1
  have p8 := H1.out.cl.waits
  rw [hw] at p8
  have p23 : W.cell? ⟨p, 23, none⟩ = some (.int .i64 s) := H1.out.cl.m 12 (by decide) MM.out.1
  have p24 : W.cell? ⟨p, 24, none⟩ = some (.int .i64 n) := H1.out.cl.m 13 (by decide) MM.out.2.1
  have p25 : W.cell? ⟨p, 25, none⟩ = some (.int .i64 cc) := H1.out.cl.m 14 (by decide) MM.out.2.2
  go_quiet (fail)
  go_upto_region 3 with (fail)
  refine world_out (fun V hV => ?_)
  have BV : Hid (Below w.heap.size w V) := Lib.hid (by rw [hV]; exact below_drewN BW.out _)
  have CV : Hid (Blk V b 55 C) := Lib.hid (by rw [hV]; exact BC.out.drewN _)
  have RV : Hid (Blk V (b + 1) 43 zeroAct.cs) := Lib.hid (by rw [hV]; exact BR.out.drewN _)
  have H2 := Lib.hid (H.out.keep BV.out)
  clear hV b0 b12 b13 b14 p8 p23 p24 p25 H1 BW BC BR
  have b22 : V.cell? ⟨b, 22, none⟩ = some (.int .i64 130) := by rw [CV.out.cell]; exact CC.out.2.2.2.2.1
  have b23 : V.cell? ⟨b, 23, none⟩ = some (.int .i64 (hint : Int)) := by rw [CV.out.cell]; exact CC.out.2.2.2.2.2
  have p1 := H2.out.cl.q
  rw [hq] at p1
  go_upto_region 4 with (fail)
  go_quiet (fail)
  go_upto_region 5 with (fail)
  refine world_out (fun X hX => ?_)
  have BX : Hid (Below w.heap.size w X) := Lib.hid (by rw [hX]; exact below_drewN BV.out _)
  have CX : Hid (Blk X b 55 C) := Lib.hid (by rw [hX]; exact CV.out.drewN _)
  have RX : Hid (Blk X (b + 1) 43 zeroAct.cs) := Lib.hid (by rw [hX]; exact RV.out.drewN _)
  have H3 := Lib.hid (H.out.keep BX.out)
  clear hX b22 b23 p1 H2 BV CV RV
  have x23 : X.cell? ⟨b, 23, none⟩ = some (.int .i64 (hint : Int)) := by rw [CX.out.cell]; exact CC.out.2.2.2.2.2
  have x4 := H3.out.cl.vg
  rw [H3.out.vg] at x4
  have x10 := H3.out.cl.grp
  rw [hk] at x10
  have x9 := H3.out.cl.hinted
  have f9 := H3.out.cl.frz 9
  obtain ⟨z, hz⟩ : ∃ z, gs[k]? = some z := ⟨_, List.getElem?_eq_getElem (by rw [H.out.lenG]; exact hkg)⟩
  have xG := H3.out.node hz
  have fG : X.frozen? ⟨gb, k, none⟩ = false := by obtain ⟨cur, q1, _⟩ := H3.out.guess; exact q1.frozen k
  have pg := H.out.pg
  have gp : gb ≠ p := Ne.symm pg
  have F : Hid (∀ v, Chg (fun j => j = gb) X v → v.cell? ⟨p, 4, none⟩ = some (.slice (some ⟨gb, 0, none⟩) g gc) ∧ v.cell? ⟨p, 10, none⟩ = some (.int .i64 (k : Int)) ∧ v.cell? ⟨b, 23, none⟩ = some (.int .i64 (hint : Int))) := Lib.hid (fun v hv => ⟨hv.cell x4 pg, hv.cell x10 pg, hv.cell x23 (by show b ≠ gb; omega)⟩)
  have S0 := Lib.hid (F.out X (Chg.refl _ _))
  have S1 := Lib.hid (F.out (X.setCell ⟨gb, k, none⟩ (.int .i64 (hint : Int))) ((Chg.refl _ _).set1 k _))
  have S2 : Hid (((X.setCell ⟨gb, k, none⟩ (.int .i64 (hint : Int))).setCell ⟨p, 9, none⟩ (.bool true)).cell? ⟨p, 4, none⟩ = some (.slice (some ⟨gb, 0, none⟩) g gc) ∧ ((X.setCell ⟨gb, k, none⟩ (.int .i64 (hint : Int))).setCell ⟨p, 9, none⟩ (.bool true)).cell? ⟨p, 10, none⟩ = some (.int .i64 (k : Int)) ∧ ((X.setCell ⟨gb, k, none⟩ (.int .i64 (hint : Int))).setCell ⟨p, 9, none⟩ (.bool true)).cell? ⟨b, 23, none⟩ = some (.int .i64 (hint : Int))) := Lib.hid (by
    refine ⟨?_, ?_, ?_⟩
    · rw [World.cell?_setCell_other _ _ _ _ (fun e => by injection e; omega)]; exact S1.out.1
    · rw [World.cell?_setCell_other _ _ _ _ (fun e => by injection e; omega)]; exact S1.out.2.1
    · rw [World.cell?_setCell_other _ _ _ _ (fun e => by injection e; omega)]; exact S1.out.2.2)
  go_region_held3 (fun v => v.cell? ⟨p, 4, none⟩ = some (.slice (some ⟨gb, 0, none⟩) g gc) ∧ v.cell? ⟨p, 10, none⟩ = some (.int .i64 (k : Int)) ∧ v.cell? ⟨b, 23, none⟩ = some (.int .i64 (hint : Int))) (first | exact S0.out | exact S1.out | exact S2.out) (fail)
  go_upto_region 6 with (fail)
  refine world_out (fun Y hY => ?_)
  have HY : Hid (CliAt lo Y p { c with hinted := true } ob oc gb gc g q L (gs.set k hint) sp) := Lib.hid (by rw [hY]; exact ((H3.out.aim k hint hkg).put (c' := { c with hinted := true }) 9 (.bool true) (by decide) rfl rfl rfl rfl rfl rfl).keep (Below.refl _ _).drew)
  have KY : Hid (Chg (fun j => j = p ∨ j = gb) w Y) := Lib.hid (by rw [hY]; exact (((Chg.of BX.out).set (p := ⟨gb, k, none⟩) (.inr (.inr rfl)) _).set (p := ⟨p, 9, none⟩) (.inr (.inl rfl)) _).drew)
  have RY : Hid (Blk Y (b + 1) 43 zeroAct.cs) := Lib.hid (by rw [hY]; exact ((RX.out.far (p := ⟨gb, k, none⟩) (by show b + 1 ≠ gb; omega) _).far (p := ⟨p, 9, none⟩) (by show b + 1 ≠ p; omega) _).drew)
  clear hY S0 S1 S2 F x23 x4 x10 x9 f9 xG fG H3 BX CX RX
  have rm : RoomN 11 Y (b + 1) 0 := blkN_room (n := 11) RY.out rfl
  have az : CellsN 11 #[.int .i64 0, .int .i64 0, .int .i64 0, .int .i64 0, .string ⟨#[]⟩, .string ⟨#[]⟩, .bool false, .int .i64 0, .int .i64 0, .int .i64 0, .int .i64 0] := ⟨rfl, by simp [Value.oneCell']⟩
  have EZ : Hid (zeroAct.cs = #[.int .i64 0, .int .i64 0, .int .i64 0, .int .i64 0, .string ⟨#[]⟩, .string ⟨#[]⟩, .bool false, .int .i64 0, .int .i64 0, .int .i64 0, .int .i64 0]) := Lib.hid rfl
  go_wp2_with fail
  generalize (#[.int .i64 0, .int .i64 0, .int .i64 0, .int .i64 0, .string ⟨#[]⟩, .string ⟨#[]⟩, .bool false, .int .i64 0, .int .i64 0, .int .i64 0, .int .i64 0] : Array Value) = X at az EZ ⊢
  have PF : Hid (Blk (putN Y (b + 1) 0 X) (b + 1) 43 X) := Lib.hid (putN_fill RY.out (by rw [az.1]; rfl))
  have hl := load_act az.1 PF.out.range
  have K0 : Chg (fun j => j = p ∨ j = gb) w (putN Y (b + 1) 0 X) := putN_chg KY.out (.inl (by omega)) 0 X
  refine bodyPost_ret (v := .tuple #[.agg X, .bool false]) (by simp [results, Try.results15, asAddr, hl]) rfl ⟨by rw [EZ.out], ?_, K0⟩
  refine H.out.to K0 ⟨putN_far HY.out.cl.blk (by omega), HY.out.cl.msg⟩ rfl rfl rfl HY.out.lenG ?_
  obtain ⟨cur, r1, r2⟩ := HY.out.guess
  exact ⟨cur, putN_far r1 (by omega), r2⟩
end Go.Proofs.Ytpaihfdmjkfegaa.Cl

/- Tx, where none is open: walked. -/
namespace Go.Proofs.Ytpaihfdmjkfegaa.Cl
open Go.RowKit Go.Lib Go.Proofs.Ytpaihfdmjkfegaa.Msg Go.Proofs.Ytpaihfdmjkfegaa.Ck

theorem tx_none (p : Nat) (c : Client) (w : World) (hC : ClAt w p c) (ht : c.vt = .pointer none) : Calls Try.prog 17 #[.pointer (some ⟨p, 0, none⟩)] w fun e w' => e = .returned (.tuple #[.agg #[.int .i64 0, .int .i64 0], .bool false]) ∧ Below w.heap.size w w' := by
  have c7 := hC.vt
  have hp := hC.blk.lt
  rw [ht] at c7
  clear hC
  go_enter Try.func17, Try.ntmps17
  go_wp2
  exact bodyPost_ret (v := .tuple #[.agg #[.int .i64 0, .int .i64 0], .bool false]) (by simp [results, Try.results17, go_sem]) rfl ⟨rfl, (Below.refl _ _).alloc (Nat.le_refl _) _⟩
end Go.Proofs.Ytpaihfdmjkfegaa.Cl
