/- begin at a full counter; an answer; calls that write and end: walked. -/
import Derived.Test.YtpaihfdmjkfegaaCqHJ
import Derived.Test.YtpaihfdmjkfegaaCqEF
import Derived.Test.YtpaihfdmjkfegaaCpT
/- begin at a full counter; an answer; calls that write and end: walked. -/
/- begin at a full counter; an answer; calls that write and end: walked. -/
namespace Go.Proofs.Ytpaihfdmjkfegaa.Cl
open Go.RowKit Go.Lib Go.Maps Go.Proofs.Ytpaihfdmjkfegaa.MapF Go.Proofs.Ytpaihfdmjkfegaa.Msg Go.Proofs.Ytpaihfdmjkfegaa.Ck

section
attribute [local go_sem ↓] loadAct_eq storeAct_eq storeCall_eq loadCall_eq
attribute [local go_sem] run_loadAct run_storeAct run_storeCall run_loadCall

def FullR (W : World) (v5 : Value) (wr : World) : Prop := v5 = .int .i64 2 ∧ Below W.heap.size W wr

set_option maxRecDepth 100000 in
set_option maxHeartbeats 4000000 in
theorem begin_full (p : Nat) (c : Client) (w : World) (hC : ClAt w p c) (ht : c.vt = .pointer none) (ha : 1099511627776 ≤ c.cnt) :
    Calls Try.prog 41 #[.pointer (some ⟨p, 0, none⟩)] w fun e w' => e = .returned (.tuple #[callV (.slice none 0 0) zeroAct false, .int .i64 2]) ∧ Below w.heap.size w w' := by
  have HC := Lib.hid hC
  have NX := Lib.hid (fun v => next_full c.cnt c.num v ha)
  have hp := hC.blk.lt
  have c7 := hC.vt
  have c5 := hC.cnt
  have c0 := hC.num
  rw [ht] at c7
  clear hC ht ha
  go_enter Try.func41, Try.ntmps41
  go_upto_region 3 with (fail)
  refine Msg.world_out (fun W hW => ?_)
  have BW : Hid (Below w.heap.size w W) := Lib.hid (by rw [hW]; exact (Below.refl _ _).alloc (Nat.le_refl _) _)
  have R0 : Hid (∃ Z, Blk W w.heap.size 102 Z ∧ Z.size = 13) := Lib.hid ⟨_, by rw [hW]; exact Blk.new w 102 _, rfl⟩
  clear hW c7 c5 c0
  have C1 := Lib.hid (HC.out.below BW.out hp)
  have F : Hid (∀ v, Below W.heap.size W v → v.cell? ⟨p, 5, none⟩ = some (.int .i64 c.cnt) ∧ v.cell? ⟨p, 0, none⟩ = some (.int .i64 c.num)) := Lib.hid (fun v hv => by
    have := C1.out.below hv C1.out.blk.lt
    exact ⟨this.cnt, this.num⟩)
  go_cut [5] from 12 (FullR W)
  case first =>
    have S1 := Lib.hid (F.out W (Below.refl _ _))
    have S5 := Lib.hid (F.out _ ((Below.refl _ _).alloc (Nat.le_refl _) (.cells #[.int .i64 0, .int .i64 0] 41)))
    go_region_held3 (fun v => v.cell? ⟨p, 5, none⟩ = some (.int .i64 c.cnt) ∧ v.cell? ⟨p, 0, none⟩ = some (.int .i64 c.num)) (first | exact S1.out | exact S2.out | exact S3.out | exact S4.out | exact S5.out | exact S6.out) (first
      | (go_at_call 51; refine (NX.out _).mono ?_; rintro e w2 ⟨rfl, hb2⟩
         have B2 : Hid (Below W.heap.size W w2) := Lib.hid ((((Below.refl _ _).alloc (Nat.le_refl _) (.cells #[.int .i64 0, .int .i64 0] 41)).drew).trans (hb2.mono (Nat.le_of_lt (Blk.new W 41 #[.int .i64 0, .int .i64 0]).lt)))
         have Q2 : Hid (Blk w2 W.heap.size 41 #[.int .i64 0, .int .i64 0]) := Lib.hid (Blk.below (Blk.new W 41 #[.int .i64 0, .int .i64 0]).drew hb2 (Blk.new W 41 #[.int .i64 0, .int .i64 0]).lt)
         have n0 := Q2.out.cell 0
         have n1 := Q2.out.cell 1
         have f0 := Q2.out.frozen 0
         have f1 := Q2.out.frozen 1
         have S2 := Lib.hid (F.out w2 B2.out)
         have S6 := Lib.hid (F.out _ ((B2.out.setCell (p := ⟨W.heap.size, 0, none⟩) (Nat.le_refl _) (.int .i64 0)).setCell (p := ⟨W.heap.size, 1, none⟩) (Nat.le_refl _) (.int .i64 0)))
         clear hb2)
      | (go_at_call 51; refine (NX.out _).mono ?_; rintro e w2 ⟨rfl, hb2⟩
         have B2 : Hid (Below W.heap.size W w2) := Lib.hid ((Below.refl W.heap.size W).drew.trans hb2)
         have S2 := Lib.hid (F.out w2 B2.out)
         have S3 := Lib.hid (F.out _ (B2.out.alloc B2.out.size (.cells #[.int .i64 0, .int .i64 0] 41)))
         clear hb2))
    all_goals
      go_wp2_with fail
      go_meet
      case rel =>
        first
          | exact ⟨rfl, (B2.out.setCell (p := ⟨W.heap.size, 0, none⟩) (Nat.le_refl _) _).setCell (p := ⟨W.heap.size, 1, none⟩) (Nat.le_refl _) _⟩
          | exact ⟨rfl, B2.out.alloc B2.out.size _⟩
  case rest =>
    obtain ⟨rfl, hBW⟩ := hcut
    have B2 : Hid (Below w.heap.size w wc) := Lib.hid (BW.out.trans (hBW.mono BW.out.size))
    obtain ⟨Z, hZ0, hzs⟩ := R0.out
    have hZ := hZ0.below hBW hZ0.lt
    have rm := blkN_room (n := 13) hZ hzs
    have cz : CellsN 13 #[.slice none 0 0, .int .i64 0, .int .i64 0, .int .i64 0, .int .i64 0, .string ⟨#[]⟩, .string ⟨#[]⟩, .bool false, .int .i64 0, .int .i64 0, .int .i64 0, .int .i64 0, .bool false] := ⟨rfl, by simp [Value.oneCell']⟩
    have CV : Hid (callV (.slice none 0 0) zeroAct false = .agg #[.slice none 0 0, .int .i64 0, .int .i64 0, .int .i64 0, .int .i64 0, .string ⟨#[]⟩, .string ⟨#[]⟩, .bool false, .int .i64 0, .int .i64 0, .int .i64 0, .int .i64 0, .bool false]) := Lib.hid (by simp [callV, zeroAct, ActV.cs])
    clear F R0 C1 BW hBW NX
    go_wp2_with fail
    generalize (#[.slice none 0 0, .int .i64 0, .int .i64 0, .int .i64 0, .int .i64 0, .string ⟨#[]⟩, .string ⟨#[]⟩, .bool false, .int .i64 0, .int .i64 0, .int .i64 0, .int .i64 0, .bool false] : Array Value) = C at cz CV ⊢
    have RF : Hid (Blk (putN wc w.heap.size 0 C) w.heap.size 102 C) := Lib.hid (putN_fill hZ (hzs.trans cz.1.symm))
    have hl := load_call cz.1 RF.out.range
    exact bodyPost_ret (v := .tuple #[.agg C, .int .i64 2]) (by simp [results, Try.results41, asAddr, hl]) rfl ⟨by rw [CV.out], putN_below B2.out (Nat.le_refl _) 0 C⟩

set_option maxRecDepth 100000 in
set_option maxHeartbeats 4000000 in
theorem does_full (p : Nat) (c : Client) (k v : ByteArray) (w : World) (hC : ClAt w p c) (ht : c.vt = .pointer none) (hw : c.waits = false) (ha : 1099511627776 ≤ c.cnt) :
    Calls Try.prog 27 #[.pointer (some ⟨p, 0, none⟩), .int .i64 1, .string k, .string v] w fun e w' => e = .returned (.tuple #[callV (.slice none 0 0) zeroAct false, .int .i64 2]) ∧ Below w.heap.size w w' := by
  have BG := Lib.hid (fun (v : World) (hv : Below w.heap.size w v) => begin_full p c v (hC.below hv hC.blk.lt) ht ha)
  have c8 := hC.waits
  have hp := hC.blk.lt
  rw [hw] at c8
  clear hC ht ha
  go_enter Try.func27, Try.ntmps27
  go_upto_region 6 with (fail)
  refine Msg.world_out (fun W hW => ?_)
  have BW : Hid (Below w.heap.size w W) := Lib.hid (by rw [hW]; exact (Below.refl _ _).alloc (Nat.le_refl _) _)
  have R1 : Hid (∃ Z, Blk W w.heap.size 102 Z ∧ Z.size = 13) := Lib.hid ⟨_, by rw [hW]; exact Blk.new w 102 _, rfl⟩
  clear hW c8
  have B := Lib.hid (BG.out W BW.out)
  clear BG
  go_wp2_with (go_at_call 41; go_loud (refine B.out.mono ?_; rintro e w9 ⟨rfl, h1⟩; have B9 := Lib.hid h1; obtain ⟨Z, hZ, hzs⟩ := R1.out; have hZ9 := hZ.below h1 hZ.lt; have rm := blkN_room hZ9 hzs; obtain ⟨C, hC, hcc⟩ := callV_ok none 0 0 zeroAct false; rw [hC]; have HC := Lib.hid hC; clear h1 hC))
  have RF : Hid (Blk (putN w9 w.heap.size 0 C) w.heap.size 102 C) := Lib.hid (putN_fill hZ9 (hzs.trans hcc.1.symm))
  have hl := load_call hcc.1 RF.out.range
  exact bodyPost_ret (v := .tuple #[.agg C, .int .i64 2]) (by simp [results, Try.results27, asAddr, hl]) rfl ⟨by rw [HC.out], putN_below (BW.out.trans (B9.out.mono BW.out.size)) (Nat.le_refl _) 0 C⟩
end

theorem call_full (p : Nat) (c : Client) (k v : ByteArray) (w : World) (hC : ClAt w p c) (ht : c.vt = .pointer none) (hw : c.waits = false) (ha : 1099511627776 ≤ c.cnt) :
    Calls Try.prog 14 #[.pointer (some ⟨p, 0, none⟩), .int .i64 1, .string k, .string v] w fun e w' => e = .returned (.tuple #[.slice none 0 0, .agg zeroAct.cs, .bool false, .int .i64 2]) ∧ Below w.heap.size w w' :=
  call_err p 1 k v 2 w (by decide) (fun W hW => does_full p c k v W (hC.below hW hC.blk.lt) ht hw ha)

/-- The message of an answer, OK. -/
def ansM (s n c : Int) (st : Int) (fo : Bool) (v : ByteArray) : Array Value := #[.int .i64 9, .int .i64 0, .int .i64 0, .int .i64 0, .int .i64 0, .int .i64 0, .int .i64 0, .int .i64 0, .int .i64 0, .bool false, .slice none 0 0, .slice none 0 0,
   .int .i64 s, .int .i64 n, .int .i64 c, .int .i64 0, .string ⟨#[]⟩, .int .i64 0, .slice none 0 0, .slice none 0 0, .int .i64 st, .int .i64 0, .int .i64 0, .int .i64 (-1), .bool fo, .string v]
theorem ansM_ok (s n c st : Int) (fo : Bool) (v : ByteArray) : MsgC (ansM s n c st fo v) := ⟨rfl, by simp [ansM, Value.oneCell']⟩

section
attribute [local go_sem ↓] loadMsg_eq storeMsg_eq buildMsg_eq
attribute [local go_sem] run_loadMsg run_storeMsg run_buildMsg
set_option maxRecDepth 100000 in
set_option maxHeartbeats 4000000 in
theorem answer_no (M : Array Value) (v : ByteArray) (s n c : Int) (w : World) (hM : MsgC M) (m12 : M[12]? = some (.int .i64 s)) (m13 : M[13]? = some (.int .i64 n)) (m14 : M[14]? = some (.int .i64 c)) :
    Calls Try.prog 16 #[.agg M, .string v, .bool false] w fun e w' => e = .returned (.agg (ansM s n c 0 false ⟨#[]⟩)) ∧ Below w.heap.size w w' := by
  have HM := Lib.hid (And.intro hM (And.intro m12 (And.intro m13 m14)))
  clear hM m12 m13 m14
  go_enter Try.func16, Try.ntmps16
  go_upto_region 1 with (fail)
  refine Msg.world_out (fun W hW => ?_)
  obtain ⟨b, hb⟩ : ∃ b, b = w.heap.size := ⟨_, rfl⟩
  have BW : Hid (Below w.heap.size w W) := Lib.hid (by rw [hW]; exact ((Below.refl _ _).alloc (Nat.le_refl _) _).alloc (by simp) _)
  have BM : Hid (Blk W b 55 M) := Lib.hid (by rw [hW, hb]; exact (Blk.new w 55 M).alloc _)
  have BR : Hid (Blk W (b + 1) 55 zeroC) := Lib.hid (by rw [hW, hb]; exact Blk.new2 w 55 M 55 _)
  have x12 : W.cell? ⟨b, 12, none⟩ = some (.int .i64 s) := by rw [BM.out.cell]; exact HM.out.2.1
  have x13 : W.cell? ⟨b, 13, none⟩ = some (.int .i64 n) := by rw [BM.out.cell]; exact HM.out.2.2.1
  have x14 : W.cell? ⟨b, 14, none⟩ = some (.int .i64 c) := by rw [BM.out.cell]; exact HM.out.2.2.2
  have hbw : w.heap.size ≤ b := Nat.le_of_eq hb.symm
  have lb : b + 1 < W.heap.size := BR.out.lt
  rw [← hb]
  clear hW hb
  have mc := ansM_ok s n c 0 false ⟨#[]⟩
  unfold ansM at mc
  have rz := room_new W zeroC rfl
  unfold zeroC at rz
  go_upto_region 4 with (fail)
  refine Msg.world_out (fun V hV => ?_)
  have BV : Hid (Below W.heap.size W V) := Lib.hid (by rw [hV]; exact below_setCells ((Below.refl _ _).alloc (Nat.le_refl _) _) _ _ (Nat.le_refl _) _)
  have MV : Hid (Blk V W.heap.size 55 (ansM s n c 0 false ⟨#[]⟩)) := Lib.hid (by rw [hV]; exact blk_fill (Blk.new W 55 _) (C := ansM s n c 0 false ⟨#[]⟩) rfl)
  have RV := Lib.hid (BR.out.below BV.out BR.out.lt)
  clear hV mc rz x12 x13 x14
  have mc := ansM_ok s n c 0 false ⟨#[]⟩
  obtain ⟨C, hC⟩ : ∃ C, C = ansM s n c 0 false ⟨#[]⟩ := ⟨_, rfl⟩
  rw [← hC] at MV mc
  have EC := Lib.hid hC
  clear hC
  obtain ⟨hh, hm⟩ := blk_has MV.out mc.1
  have rm := blk_room RV.out rfl
  go_wp2_with fail
  have hl := load_var (w := V.setCells (b + 1) 0 C.toList) mc.1 (World.rangeAt_setCells_same V _ _ _ (by rw [Array.length_toList, mc.1]; exact rm))
  refine bodyPost_ret (v := .agg C) ?_ rfl ⟨by rw [EC.out], below_setCells (BW.out.trans (BV.out.mono BW.out.size)) _ _ (by omega) _⟩
  show Sem.run _ _ (V.setCells (b + 1) 0 C.toList) = _
  simp [results, Try.results16, asAddr, hl]
end
end Go.Proofs.Ytpaihfdmjkfegaa.Cl

/- Call at a write, an abort, a commit. -/
namespace Go.Proofs.Ytpaihfdmjkfegaa.Cl
open Go.RowKit Go.Lib Go.Maps Go.Proofs.Ytpaihfdmjkfegaa.MapF Go.Proofs.Ytpaihfdmjkfegaa.Msg Go.Proofs.Ytpaihfdmjkfegaa.Ck

theorem Ended.up {p : Nat} {c : Client} {n cc : Int} {k : Nat} {node kind : Int} {ws : List WrV} {gi : List Int} {a : ActV} {w W w' w'' : World} {mb : Nat} (h : Ended p c n cc k node kind ws gi a W w' mb) (hW : Below w.heap.size w W) (hlt : w.heap.size < W.heap.size) (hp : p < w.heap.size) (hc : Chg (fun j => j = w.heap.size) w' w'') :
    Ended p c n cc k node kind ws gi a w w'' mb := by
  have hb := h.hb
  obtain ⟨mid, u18, u19, v18, v19, h1, h2, h3, h4, h5, h6, h7, h8⟩ := h.it
  refine ⟨by omega, ⟨mid, u18, u19, v18, v19, by omega, h2, h3.chg hc (by omega), h4.chg hc (by omega), h5.chg hc (fun j _ hj => by omega), h6.chg hc (fun j _ hj => by omega), (h7.chg hc (fun j _ hj => by omega)).more (fun j hj => by omega), (h8.chg hc (fun j _ hj => by omega)).more (fun j hj => by omega)⟩, ?_⟩
  exact ((Chg.of hW).on h.chg).trans hc (fun j hj e => by omega)

def TxOne (n cc : Int) (k : Nat) (key : ByteArray) : TxS := ⟨n, cc, k, [(k : Int)], [key], [], fun _ => none, fun _ => none, []⟩
theorem Locked.txAt {lo p : Nat} {c : Client} {ob oc gb gc g q : Nat} {L : List Ent} {gs : List Nat} {sp : List ByteArray} {tb : Nat} {n cc : Int} {m1 m2 m3 m4 : Nat} {a : ActV} {mode : Int} {w w' : World} {b k x : Nat} (h : Locked lo p c ob oc gb gc g q L gs sp tb n cc m1 m2 m3 m4 a mode w w' b k x) (ok : okS a.key)
    (hm : m1 ≠ m2 ∧ m1 ≠ m3 ∧ m1 ≠ m4 ∧ m2 ≠ m3 ∧ m2 ≠ m4 ∧ m3 ≠ m4) : ∃ gg gcap, TxAt (fun _ => True) w' ⟨tb, m1, m2, m3, m4, .slice (some ⟨gg, 0, none⟩) 1 gcap, 1⟩ (TxOne n cc k a.key) := by
  obtain ⟨gg, gcap, _, T⟩ := h.tx
  have e0 : (fun _ => none) = setF [] := by funext y; rw [setF_none]
  have e1 : setF [a.key] = upd (fun _ => none) a.key (some true) := by
    rw [e0, setF_ins]
    simp [ins]
  refine ⟨gg, gcap, T.blk, T.grp, fun _ _ => trivial, ?_, ?_, (Nil.isF T.k3).mono (Nat.zero_le _), (Nil.isF T.k4).mono (Nat.zero_le _), hm, ⟨trivial, trivial, trivial, trivial, trivial⟩, ⟨by simp [TxOne], fun y hy => ?_⟩, ⟨by simp [TxOne], fun y hy => (nomatch hy), fun y => by simp [TxOne], fun y z hz => (nomatch hz)⟩⟩
  · show IsF mB w' m1 1 (setF [a.key])
    rw [e1]
    exact T.k1
  · show IsF mB w' m2 1 (setF [])
    rw [← e0]
    exact (Nil.isF T.k2).mono (Nat.zero_le _)
  · have : y = a.key := by simpa [TxOne] using hy
    rw [this]
    exact ok

theorem okS_key {s : ByteArray} (h : keyB s = true) : okS s := by
  unfold keyB at h
  simp only [Bool.and_eq_true, decide_eq_true_eq] at h
  unfold okS maxLen
  omega

theorem call_write (lo p : Nat) (c : Client) (ob oc gb gc g q : Nat) (L : List Ent) (gs : List Nat) (sp : List ByteArray) (tb : Nat) (n cc : Int) (m1 m2 m3 m4 : Nat) (key val : ByteArray) (w : World) (h : CliAt lo w p c ob oc gb gc g q L gs sp) (hsp : sp.length + 1 = g) (hg8 : g ≤ 8)
    (ht : c.vt = .pointer (some ⟨tb, 0, none⟩)) (hw : c.waits = false) (hT : Tx0 w tb n cc m1 m2 m3 m4) (hs : 0 ≤ c.seq ∧ c.seq < 1000000) (w0 : World) (c0 : Client) (gs0 : List Nat) (h0 : CliAt lo w0 p c0 ob oc gb gc g q L gs0 sp) (K0 : Chg (fun b => b = p ∨ b = gb) w0 w) (he : c.vo = c0.vo ∧ c.vg = c0.vg ∧ c.D = c0.D) (hw0 : w0.heap.size ≤ tb ∧ w0.heap.size ≤ m1 ∧ w0.heap.size ≤ m2 ∧ w0.heap.size ≤ m3 ∧ w0.heap.size ≤ m4) (hmm : m1 ≠ m2 ∧ m1 ≠ m3 ∧ m1 ≠ m4) (hk : keyB key = true) (hv : val.size ≤ 200) :
    Calls Try.prog 14 #[.pointer (some ⟨p, 0, none⟩), .int .i64 3, .string key, .string val] w fun e w' => ∃ b k x, e = .returned (.tuple #[.slice (some ⟨b, 0, none⟩) 1 1, .agg (actW c.num 3 n cc key val).cs, .bool false, .int .i64 0]) ∧ Locked lo p c ob oc gb gc g q L gs sp tb n cc m1 m2 m3 m4 (actW c.num 3 n cc key val) 2 w w' b k x := by
  have hp := h.cl.blk.lt
  have t1 := hT.blk.lt
  have t2 := hT.k1.lt
  have hd := fun (W : World) (hW : Below w.heap.size w W) => does_write lo p c ob oc gb gc g q L gs sp W (h.keep hW) tb _ n cc key val ht hw (hT.below hW).blk rfl rfl m2 rfl hk hv
    (fun V hV => by
      have k2 := ((hT.below hW).below hV).k2
      have lk := (Nil.isF (M := mB) k2).look Try.underlying107 (z0 := false) (zero4 V) key (okS_key hk)
      exact lk)
    (fun W' w' A m cap a d er => er = 0 ∧ d = false ∧ a = actW c.num 3 n cc key val ∧ m = 1 ∧ cap = 1 ∧ ∃ b k x, A = some ⟨b, 0, none⟩ ∧ Locked lo p c ob oc gb gc g q L gs sp tb n cc m1 m2 m3 m4 (actW c.num 3 n cc key val) 2 W' w' b k x)
    (fun V hV => (lock_any lo p c ob oc gb gc g q L gs sp tb n cc m1 m2 m3 m4 (actW c.num 3 n cc key val) 2 V ((h.keep hW).keep hV) hsp hg8 ht ((hT.below hW).below hV) hk hs w0 c0 gs0 h0 ((K0.then hW).then hV) he hw0 hmm).mono (fun e w' ⟨b, k, x, he', hL⟩ => ⟨some ⟨b, 0, none⟩, 1, 1, _, false, 0, he', ⟨rfl, rfl, rfl, rfl, rfl, b, k, x, rfl, hL⟩, _, hL.chg, fun e => by have := hW.size; omega⟩))
    (fun V w' w'' A m cap a d er hV hlt hR hc => by
      obtain ⟨r0, r1, r2, r3, r4, b, k, x, r5, hL⟩ := hR
      exact ⟨r0, r1, r2, r3, r4, b, k, x, r5, hL.up hV (hT.below hW) (Nat.lt_of_lt_of_le hp hW.size) h0 (K0.then hW) he ⟨hw0.1, hw0.2.1⟩ ⟨Nat.le_refl _, hlt⟩ hc⟩)
  have hh := call_ok p 3 key val w (fun W w' A m cap a d => d = false ∧ a = actW c.num 3 n cc key val ∧ m = 1 ∧ cap = 1 ∧ ∃ b k x, A = some ⟨b, 0, none⟩ ∧ Locked lo p c ob oc gb gc g q L gs sp tb n cc m1 m2 m3 m4 (actW c.num 3 n cc key val) 2 W w' b k x)
    (fun W hW => (hd W hW).mono (fun e w' ⟨A, m, cap, a, d, er, he', r0, r1, r2, r3, r4, b, k, x, r5, hL⟩ => by
      subst r0
      exact ⟨A, m, cap, a, d, he', ⟨r1, r2, r3, r4, b, k, x, r5, hL⟩, _, hL.chg, fun e => by omega⟩))
    (fun W w' w'' A m cap a d hW hlt hR hc => by
      obtain ⟨r1, r2, r3, r4, b, k, x, r5, hL⟩ := hR
      exact ⟨r1, r2, r3, r4, b, k, x, r5, hL.up hW hT hp h0 K0 he ⟨hw0.1, hw0.2.1⟩ ⟨Nat.le_refl _, hlt⟩ hc⟩)
  exact hh.mono (fun e w' ⟨A, m, cap, a, d, he', r1, r2, r3, r4, b, k, x, r5, hL⟩ => by
    subst r1 r2 r3 r4 r5
    exact ⟨b, k, x, he', hL⟩)

section
variable (lo p : Nat) (c : Client) (ob oc gb gc g q : Nat) (L : List Ent) (gs : List Nat) (sp : List ByteArray) (A0 : Nat → Prop) (xb : TxB) (t : TxS) (k x : Nat) (key val : ByteArray) (w : World)
theorem call_abort (h : CliAt lo w p c ob oc gb gc g q L gs sp) (ht : c.vt = .pointer (some ⟨xb.tb, 0, none⟩)) (hw : c.waits = false) (hT : TxAt A0 w xb t) (hks : t.ks ≠ []) (hkl : t.ks.length ≤ 1000) (hgl : t.gr.length ≤ 1000) (hkg : k < g) (hhome : t.home = (k : Int)) (hx : gs[k]? = some x) (hs : 0 ≤ c.seq ∧ c.seq < 1000000) :
    Calls Try.prog 14 #[.pointer (some ⟨p, 0, none⟩), .int .i64 6, .string key, .string val] w fun e w' => ∃ mb, e = .returned (.tuple #[.slice (some ⟨mb, 0, none⟩) 1 1, .agg (actOf c.num 6 t.n t.c ⟨#[]⟩).cs, .bool false, .int .i64 0]) ∧ Ended p c t.n t.c k (x : Int) 8 [] t.gr (actOf c.num 6 t.n t.c ⟨#[]⟩) w w' mb := by
  have hp := h.cl.blk.lt
  have hh := call_ok p 6 key val w (fun W w' A m cap a d => d = false ∧ a = actOf c.num 6 t.n t.c ⟨#[]⟩ ∧ m = 1 ∧ cap = 1 ∧ ∃ mb, A = some ⟨mb, 0, none⟩ ∧ Ended p c t.n t.c k (x : Int) 8 [] t.gr (actOf c.num 6 t.n t.c ⟨#[]⟩) W w' mb)
    (fun W hW => (does_abort lo p c ob oc gb gc g q L gs sp W (h.keep hW) xb.tb _ t.n t.c key val ht hw (hT.keep hW).blk rfl rfl
      (fun W' w' A m cap a d er => er = 0 ∧ d = false ∧ a = actOf c.num 6 t.n t.c ⟨#[]⟩ ∧ m = 1 ∧ cap = 1 ∧ ∃ mb, A = some ⟨mb, 0, none⟩ ∧ Ended p c t.n t.c k (x : Int) 8 [] t.gr (actOf c.num 6 t.n t.c ⟨#[]⟩) W' w' mb)
      (fun V hV => (end_abort p c A0 xb t gb g gc k (x : Int) (actOf c.num 6 t.n t.c ⟨#[]⟩) V ((h.keep hW).keep hV).cl ht ((hT.keep hW).keep hV) hks hkl hgl rfl h.vg hkg hhome h.pg (((h.keep hW).keep hV).node hx) hs).mono (fun e w' ⟨mb, he', hE⟩ => ⟨some ⟨mb, 0, none⟩, 1, 1, _, false, he', ⟨rfl, rfl, rfl, rfl, rfl, mb, rfl, hE⟩, _, hE.chg, fun e => by have := hW.size; omega⟩))
      (fun V w' w'' A m cap a d er hV hlt hR hc => by
        obtain ⟨r0, r1, r2, r3, r4, mb, r5, hE⟩ := hR
        exact ⟨r0, r1, r2, r3, r4, mb, r5, hE.up hV hlt (Nat.lt_of_lt_of_le hp hW.size) hc⟩)).mono (fun e w' ⟨A, m, cap, a, d, er, he', r0, r1, r2, r3, r4, mb, r5, hE⟩ => by
      subst r0
      exact ⟨A, m, cap, a, d, he', ⟨r1, r2, r3, r4, mb, r5, hE⟩, _, hE.chg, fun e => by omega⟩))
    (fun W w' w'' A m cap a d hW hlt hR hc => by
      obtain ⟨r1, r2, r3, r4, mb, r5, hE⟩ := hR
      exact ⟨r1, r2, r3, r4, mb, r5, hE.up hW hlt hp hc⟩)
  exact hh.mono (fun e w' ⟨A, m, cap, a, d, he', r1, r2, r3, r4, mb, r5, hE⟩ => by
    subst r1 r2 r3 r4 r5
    exact ⟨mb, he', hE⟩)

def Laid (t : TxS) (ws : List WrV) : Prop := (ws.map (·.1)).Perm t.ls ∧ (∀ y ∈ ws, t.la y.1 = some y) ∧ ws.Pairwise (fun y z => keyLt z y = false)
theorem call_commit (h : CliAt lo w p c ob oc gb gc g q L gs sp) (ht : c.vt = .pointer (some ⟨xb.tb, 0, none⟩)) (hw : c.waits = false) (hT : TxAt A0 w xb t) (hN : xb.N ≤ 1000) (hks : t.ks ≠ []) (hkl : t.ks.length ≤ 1000) (hgl : t.gr.length ≤ 1000) (hkg : k < g) (hhome : t.home = (k : Int)) (hx : gs[k]? = some x) (hs : 0 ≤ c.seq ∧ c.seq < 1000000) :
    Calls Try.prog 14 #[.pointer (some ⟨p, 0, none⟩), .int .i64 5, .string key, .string val] w fun e w' => ∃ mb ws, e = .returned (.tuple #[.slice (some ⟨mb, 0, none⟩) 1 1, .agg (actOf c.num 5 t.n t.c ⟨#[]⟩).cs, .bool false, .int .i64 0]) ∧ Laid t ws ∧ Ended p c t.n t.c k (x : Int) 7 ws t.gr (actOf c.num 5 t.n t.c ⟨#[]⟩) w w' mb := by
  have hp := h.cl.blk.lt
  have hh := call_ok p 5 key val w (fun W w' A m cap a d => d = false ∧ a = actOf c.num 5 t.n t.c ⟨#[]⟩ ∧ m = 1 ∧ cap = 1 ∧ ∃ mb ws, A = some ⟨mb, 0, none⟩ ∧ Laid t ws ∧ Ended p c t.n t.c k (x : Int) 7 ws t.gr (actOf c.num 5 t.n t.c ⟨#[]⟩) W w' mb)
    (fun W hW => (does_commit lo p c ob oc gb gc g q L gs sp W (h.keep hW) xb.tb _ t.n t.c key val ht hw (hT.keep hW).blk rfl rfl
      (fun W' w' A m cap a d er => er = 0 ∧ d = false ∧ a = actOf c.num 5 t.n t.c ⟨#[]⟩ ∧ m = 1 ∧ cap = 1 ∧ ∃ mb ws, A = some ⟨mb, 0, none⟩ ∧ Laid t ws ∧ Ended p c t.n t.c k (x : Int) 7 ws t.gr (actOf c.num 5 t.n t.c ⟨#[]⟩) W' w' mb)
      (fun V hV => (end_commit p c A0 xb t gb g gc k (x : Int) (actOf c.num 5 t.n t.c ⟨#[]⟩) V ((h.keep hW).keep hV).cl ht ((hT.keep hW).keep hV) hks hkl hgl rfl hN h.vg hkg hhome h.pg (((h.keep hW).keep hV).node hx) hs).mono (fun e w' ⟨mb, ws, he', l1, l2, l3, hE⟩ => ⟨some ⟨mb, 0, none⟩, 1, 1, _, false, he', ⟨rfl, rfl, rfl, rfl, rfl, mb, ws, rfl, ⟨l1, l2, l3⟩, hE⟩, _, hE.chg, fun e => by have := hW.size; omega⟩))
      (fun V w' w'' A m cap a d er hV hlt hR hc => by
        obtain ⟨r0, r1, r2, r3, r4, mb, ws, r5, r6, hE⟩ := hR
        exact ⟨r0, r1, r2, r3, r4, mb, ws, r5, r6, hE.up hV hlt (Nat.lt_of_lt_of_le hp hW.size) hc⟩)).mono (fun e w' ⟨A, m, cap, a, d, er, he', r0, r1, r2, r3, r4, mb, ws, r5, r6, hE⟩ => by
      subst r0
      exact ⟨A, m, cap, a, d, he', ⟨r1, r2, r3, r4, mb, ws, r5, r6, hE⟩, _, hE.chg, fun e => by omega⟩))
    (fun W w' w'' A m cap a d hW hlt hR hc => by
      obtain ⟨r1, r2, r3, r4, mb, ws, r5, r6, hE⟩ := hR
      exact ⟨r1, r2, r3, r4, mb, ws, r5, r6, hE.up hW hlt hp hc⟩)
  exact hh.mono (fun e w' ⟨A, m, cap, a, d, he', r1, r2, r3, r4, mb, ws, r5, r6, hE⟩ => by
    subst r1 r2 r3 r4 r5
    exact ⟨mb, ws, he', r6, hE⟩)
theorem call_end (kd : Int) (hkd : kd = 5 ∨ kd = 6) (h : CliAt lo w p c ob oc gb gc g q L gs sp) (ht : c.vt = .pointer (some ⟨xb.tb, 0, none⟩)) (hw : c.waits = false) (hT : TxAt A0 w xb t) (hN : xb.N ≤ 1000) (hks : t.ks ≠ []) (hkl : t.ks.length ≤ 1000) (hgl : t.gr.length ≤ 1000) (hkg : k < g) (hhome : t.home = (k : Int)) (hx : gs[k]? = some x) (hs : 0 ≤ c.seq ∧ c.seq < 1000000) :
    Calls Try.prog 14 #[.pointer (some ⟨p, 0, none⟩), .int .i64 kd, .string key, .string val] w fun e w' => ∃ mb kind ws, e = .returned (.tuple #[.slice (some ⟨mb, 0, none⟩) 1 1, .agg (actOf c.num kd t.n t.c ⟨#[]⟩).cs, .bool false, .int .i64 0]) ∧ Ended p c t.n t.c k (x : Int) kind ws t.gr (actOf c.num kd t.n t.c ⟨#[]⟩) w w' mb := by
  rcases hkd with rfl | rfl
  · exact (call_commit lo p c ob oc gb gc g q L gs sp A0 xb t k x key val w h ht hw hT hN hks hkl hgl hkg hhome hx hs).mono (fun e w' ⟨mb, ws, he, _, hE⟩ => ⟨mb, 7, ws, he, hE⟩)
  · exact (call_abort lo p c ob oc gb gc g q L gs sp A0 xb t k x key val w h ht hw hT hks hkl hgl hkg hhome hx hs).mono (fun e w' ⟨mb, he, hE⟩ => ⟨mb, 8, [], he, hE⟩)
end
/-- A client goes on: its old blocks are as they were at the start, but for its own and its guesses. -/
theorem CliAt.move {lo : Nat} {w0 w w' : World} {p : Nat} {c0 c c' : Client} {ob oc gb gc g q : Nat} {L : List Ent} {gs0 gs : List Nat} {sp : List ByteArray} {S : Nat → Prop} (h0 : CliAt lo w0 p c0 ob oc gb gc g q L gs0 sp) (h : CliAt lo w p c ob oc gb gc g q L gs sp) (K : Chg (fun b => b = p ∨ b = gb) w0 w) (k : Chg S w w') (hS : ∀ b, b < w.heap.size → S b → b = p ∨ w0.heap.size ≤ b)
    (h1 : ClAt w' p c') (ho : c'.vo = c.vo) (hg : c'.vg = c.vg) (hD : c'.D = c0.D) : CliAt lo w' p c' ob oc gb gc g q L gs sp ∧ Chg (fun b => b = p ∨ b = gb) w0 w' := by
  have hgl : gb < w0.heap.size := by obtain ⟨cur, q1, _⟩ := h0.guess; exact q1.lt
  have pg := h0.pg
  have s0 := K.size
  have K' : Chg (fun b => b = p ∨ b = gb) w0 w' := K.trans k (fun j hj e => by rcases hS j (by omega) e with e | e; (· exact .inl e); omega)
  refine ⟨h0.to K' h1 ((ho.trans h.vo).trans h0.vo.symm) ((hg.trans h.vg).trans h0.vg.symm) hD h.lenG ?_, K'⟩
  obtain ⟨cur, q1, q2⟩ := h.guess
  exact ⟨cur, q1.chg k (fun e => by rcases hS gb q1.lt e with e | e; (· exact pg e.symm); omega), q2⟩
/-- What an end's asking leaves, in short. -/
theorem Ended.msg {p : Nat} {c : Client} {n cc : Int} {k : Nat} {node kind : Int} {ws : List WrV} {gi : List Int} {a : ActV} {w w' : World} {mb : Nat} (h : Ended p c n cc k node kind ws gi a w w' mb) :
    ∃ MS c', (Blk w' mb 55 MS ∧ MsgC MS ∧ MS[12]? = some (.int .i64 (c.seq + 1)) ∧ MS[13]? = some (.int .i64 n) ∧ MS[14]? = some (.int .i64 cc)) ∧
      (ClAt w' p c' ∧ c'.waits = true ∧ c'.act = a ∧ c'.M[12]? = some (.int .i64 (c.seq + 1)) ∧ c'.M[13]? = some (.int .i64 n) ∧ c'.M[14]? = some (.int .i64 cc)) ∧
      (c'.vo = c.vo ∧ c'.vg = c.vg ∧ c'.D = c.D ∧ c'.num = c.num ∧ c'.cnt = c.cnt ∧ c'.seq = c.seq + 1) := by
  obtain ⟨mid, u18, u19, v18, v19, e1, e2, e3, e4, e5, e6, e7, e8⟩ := h.it
  obtain ⟨A5, c5, rfl, _⟩ := e5
  obtain ⟨A6, c6, rfl, _⟩ := e6
  obtain ⟨A7, c7, rfl, _⟩ := e7
  obtain ⟨A8, c8, rfl, _⟩ := e8
  refine ⟨_, _, ⟨e3, msgC_set (msgC_set (msgC_set (msgC_set (reqM_ok (endM_ok _ _ _ _ _ _ _) _ _ _ _) 3 rfl) 4 rfl) 18 rfl) 19 rfl, ?_, ?_, ?_⟩, ⟨e4, rfl, rfl, ?_, ?_, ?_⟩, ⟨rfl, rfl, rfl, rfl, rfl, rfl⟩⟩
  all_goals simp [aimedM, reqM, endM]
theorem newCnt_zero {x : Int} (h : 0 ≤ x) : newCnt x 0 = x := by
  unfold newCnt
  split <;> omega
theorem newCnt_facts (x st : Int) (h : x ≤ 1099511627776) : x ≤ newCnt x st ∧ newCnt x st ≤ 1099511627776 := by
  unfold newCnt
  split <;> omega
end Go.Proofs.Ytpaihfdmjkfegaa.Cl

/- answer, where a value was found: walked. -/
namespace Go.Proofs.Ytpaihfdmjkfegaa.Cl
open Go.RowKit Go.Lib Go.Maps Go.Proofs.Ytpaihfdmjkfegaa.MapF Go.Proofs.Ytpaihfdmjkfegaa.Msg Go.Proofs.Ytpaihfdmjkfegaa.Ck
attribute [local go_sem ↓] loadMsg_eq storeMsg_eq buildMsg_eq
attribute [local go_sem] run_loadMsg run_storeMsg run_buildMsg

set_option maxRecDepth 100000 in
set_option maxHeartbeats 4000000 in
theorem answer_yes (M : Array Value) (v : ByteArray) (s n c : Int) (w : World) (hM : MsgC M) (m12 : M[12]? = some (.int .i64 s)) (m13 : M[13]? = some (.int .i64 n)) (m14 : M[14]? = some (.int .i64 c)) :
    Calls Try.prog 16 #[.agg M, .string v, .bool true] w fun e w' => e = .returned (.agg (ansM s n c 0 true v)) ∧ Below w.heap.size w w' := by
  have HM := Lib.hid (And.intro hM (And.intro m12 (And.intro m13 m14)))
  clear hM m12 m13 m14
  go_enter Try.func16, Try.ntmps16
  go_upto_region 1 with (fail)
  refine Msg.world_out (fun W hW => ?_)
  obtain ⟨b, hb⟩ : ∃ b, b = w.heap.size := ⟨_, rfl⟩
  have BW : Hid (Below w.heap.size w W) := Lib.hid (by rw [hW]; exact ((Below.refl _ _).alloc (Nat.le_refl _) _).alloc (by simp) _)
  have BM : Hid (Blk W b 55 M) := Lib.hid (by rw [hW, hb]; exact (Blk.new w 55 M).alloc _)
  have BR : Hid (Blk W (b + 1) 55 zeroC) := Lib.hid (by rw [hW, hb]; exact Blk.new2 w 55 M 55 _)
  have x12 : W.cell? ⟨b, 12, none⟩ = some (.int .i64 s) := by rw [BM.out.cell]; exact HM.out.2.1
  have x13 : W.cell? ⟨b, 13, none⟩ = some (.int .i64 n) := by rw [BM.out.cell]; exact HM.out.2.2.1
  have x14 : W.cell? ⟨b, 14, none⟩ = some (.int .i64 c) := by rw [BM.out.cell]; exact HM.out.2.2.2
  have hbw : w.heap.size ≤ b := Nat.le_of_eq hb.symm
  have lb : b + 1 < W.heap.size := BR.out.lt
  rw [← hb]
  clear hW hb
  have mc := ansM_ok s n c 0 true ⟨#[]⟩
  unfold ansM at mc
  have rz := room_new W zeroC rfl
  unfold zeroC at rz
  go_upto_region 2 with (fail)
  refine Msg.world_out (fun U hU => ?_)
  obtain ⟨d, hd⟩ : ∃ d, d = W.heap.size := ⟨_, rfl⟩
  have BU : Hid (Below W.heap.size W U) := Lib.hid (by rw [hU]; exact below_setCells ((Below.refl _ _).alloc (Nat.le_refl _) _) _ _ (Nat.le_refl _) _)
  have MU : Hid (Blk U d 55 (ansM s n c 0 true ⟨#[]⟩)) := Lib.hid (by rw [hU, hd]; exact blk_fill (Blk.new W 55 _) (C := ansM s n c 0 true ⟨#[]⟩) rfl)
  have dW : W.heap.size ≤ d := Nat.le_of_eq hd.symm
  rw [← hd]
  clear hU hd mc rz x12 x13 x14
  have x25 : U.cell? ⟨d, 25, none⟩ = some (.string ⟨#[]⟩) := MU.out.cell 25
  have f25 := MU.out.frozen 25
  go_upto_region 4 with (fail)
  refine Msg.world_out (fun V hV => ?_)
  have BV : Hid (Below W.heap.size W V) := Lib.hid (by rw [hV]; exact BU.out.setCell (p := ⟨d, 25, none⟩) dW _)
  have MV : Hid (Blk V d 55 (ansM s n c 0 true v)) := Lib.hid (by rw [hV]; exact MU.out.set_ 25 _)
  have RV := Lib.hid (BR.out.below BV.out BR.out.lt)
  clear hV x25 f25 MU BU
  have mc := ansM_ok s n c 0 true v
  obtain ⟨C, hC⟩ : ∃ C, C = ansM s n c 0 true v := ⟨_, rfl⟩
  rw [← hC] at MV mc
  have EC := Lib.hid hC
  clear hC
  obtain ⟨hh, hm⟩ := blk_has MV.out mc.1
  have rm := blk_room RV.out rfl
  go_wp2_with fail
  have hl := load_var (w := V.setCells (b + 1) 0 C.toList) mc.1 (World.rangeAt_setCells_same V _ _ _ (by rw [Array.length_toList, mc.1]; exact rm))
  refine bodyPost_ret (v := .agg C) ?_ rfl ⟨by rw [EC.out], below_setCells (BW.out.trans (BV.out.mono BW.out.size)) _ _ (by omega) _⟩
  show Sem.run _ _ (V.setCells (b + 1) 0 C.toList) = _
  simp [results, Try.results16, asAddr, hl]
end Go.Proofs.Ytpaihfdmjkfegaa.Cl
