/- Take of an OK answer to a read: walked. -/
import Derived.Test.YtpaihfdmjkfegaaCpLR
namespace Go.Proofs.Ytpaihfdmjkfegaa.Cl
open Go.RowKit Go.Lib Go.Maps Go.Proofs.Ytpaihfdmjkfegaa.MapF Go.Proofs.Ytpaihfdmjkfegaa.Msg Go.Proofs.Ytpaihfdmjkfegaa.Ck

attribute [local go_sem ↓] loadAct_eq storeAct_eq
attribute [local go_sem] run_loadAct run_storeAct

/-- Cells ahead are cells behind, but for two blocks. -/
structure Kept (p gb : Nat) (w w' : World) : Prop where
  size : w.heap.size ≤ w'.heap.size
  blk : ∀ b t cs, b ≠ p → b ≠ gb → Blk w b t cs → Blk w' b t cs
  cell : ∀ (a : Addr) v, a.block ≠ p → a.block ≠ gb → w.cell? a = some v → w'.cell? a = some v
/-- A map lies there. -/
def IsMp (w : World) (b : Nat) : Prop := ∃ es n, w.heap[b]? = some (.map es n)
theorem _root_.Go.Proofs.Ytpaihfdmjkfegaa.MapF.IsF.isMp {P : Program} {t : TypeId} {κ α : Type} {M : MapTy P t κ α} {w : World} {b n : Nat} {f : κ → Option α} (h : IsF M w b n f) : IsMp w b := by
  obtain ⟨D, ⟨es, clock, e1, _⟩, _⟩ := h
  exact ⟨es, clock, e1⟩
theorem IsMp.no_cell {w : World} {b : Nat} (h : IsMp w b) (a : Addr) (ha : a.block = b) : w.cell? a = none := by
  obtain ⟨es, n, h⟩ := h
  subst ha
  simp [World.cell?, h]
theorem IsMp.ne_cell {w : World} {b : Nat} (h : IsMp w b) {a : Addr} {v : Value} (ha : w.cell? a = some v) : a.block ≠ b := fun e => by
  rw [h.no_cell a e] at ha
  cases ha
theorem IsMp.ne_blk {w : World} {b g : Nat} {t : TypeId} {cs : Array Value} (h : IsMp w b) (ha : Blk w g t cs) : g ≠ b := fun e => by
  obtain ⟨es, n, h⟩ := h
  unfold Blk at ha
  rw [e, h] at ha
  cases ha
theorem Chg.kept {S : Nat → Prop} {p gb : Nat} {w w' : World} (k : Chg S w w') (hS : ∀ b, b < w.heap.size → S b → b = p ∨ b = gb ∨ IsMp w b) : Kept p gb w w' := by
  refine ⟨k.size, fun b t cs h1 h2 h => h.chg k (fun hb => ?_), fun a v h1 h2 h => k.cell h (fun hb => ?_)⟩
  · rcases hS b h.lt hb with e | e | e
    · exact h1 e
    · exact h2 e
    · exact e.ne_blk h rfl
  · rcases hS _ (World.block_lt_of_cell? w _ h) hb with e | e | e
    · exact h1 e
    · exact h2 e
    · exact e.ne_cell h rfl
/-- The client's own cells, or its guesses, are changed; maps, too. -/
theorem CliAt.more {lo : Nat} {v v' : World} {p : Nat} {c c' : Client} {ob oc gb gc g q : Nat} {L : List Ent} {gs gs' : List Nat} {sp : List ByteArray} (h : CliAt lo v p c ob oc gb gc g q L gs sp) (k : Kept p gb v v') (h1 : ClAt v' p c') (ho : c'.vo = c.vo) (hg : c'.vg = c.vg) (hD : c'.D = c.D)
    (hl : gs'.length = g) (h2 : ∃ cur, Blk v' gb 3 cur ∧ ∀ i x : Nat, gs'[i]? = some x → cur[i]? = some (.int .i64 (x : Int))) : CliAt lo v' p c' ob oc gb gc g q L gs' sp := by
  have hob : ∀ cur, Blk v ob 23 cur → ob ≠ p ∧ ob ≠ gb := fun cur hc => by
    refine ⟨hc.ne_ h.cl.blk (by decide), ?_⟩
    obtain ⟨cur', h3, _⟩ := h.guess
    exact hc.ne_ h3 (by decide)
  refine ⟨h1, h.hp, h.hg, ho.trans h.vo, hg.trans h.vg, h.lenL, hl, ?_, h2, fun e he => ?_, ?_⟩
  · obtain ⟨cur, h3, h4⟩ := h.order
    exact ⟨cur, k.blk _ _ _ (hob cur h3).1 (hob cur h3).2 h3, h4⟩
  · obtain ⟨⟨h3, O, o, h4, h5, h6⟩, h7, h8⟩ := h.ents e he
    exact ⟨⟨h3, O, o, h4, h5, Nat.lt_of_lt_of_le h6.1 k.size, fun i x hx => k.cell _ _ (h7 O o h4) (h8 O o h4) (h6.2 i x hx)⟩, h7, h8⟩
  · obtain ⟨A, cap, h3, h4, h5, h6, h7⟩ := h.dir
    rw [hD]
    refine ⟨A, cap, k.cell _ _ h4 h5 h3, h4, h5, fun hl => ?_, h7⟩
    obtain ⟨b, o, e, q1, q2, q3⟩ := h6 hl
    exact ⟨b, o, e, q1, Nat.lt_of_lt_of_le q2 k.size, fun i x hx => k.cell _ _ (h7 b o hl e).1 (h7 b o hl e).2 (q3 i x hx)⟩
/-- The counter behind an answer's stamp. -/
def newCnt (cnt st : Int) : Int := if cnt < st ∧ st ≤ 1099511627776 then st else cnt
def pickS (b : Bool) (x y : ByteArray) : ByteArray := if b then x else y
def readAct (a : ActV) (fo : Bool) (v : ByteArray) (st : Int) : ActV := { a with found := fo, stamp := st, value := pickS fo v a.value, code := 0 }
theorem ClAt.drewN {v : World} {p : Nat} {c : Client} (h : ClAt v p c) (n : Nat) : ClAt (v.drewN n) p c := ⟨h.blk.drewN n, h.msg⟩
def CntB (p : Nat) (c : Client) (st : Int) (W : World) (v83 : Value) (wr : World) : Prop :=
  v83 = .bool (decide (c.cnt < st ∧ st ≤ 1099511627776)) ∧ ClAt wr p { c with waits := false } ∧ Chg (fun b => b = p) W wr
def CntR (p : Nat) (c : Client) (st : Int) (W : World) (v5 : Value) (wr : World) : Prop :=
  v5 = .bool false ∧ ClAt wr p { c with waits := false, cnt := newCnt c.cnt st } ∧ Chg (fun b => b = p) W wr

def AnsR (Y : World) (d : Nat) (A : Array Value) (u : ByteArray) (v7 : Value) (wr : World) : Prop :=
  v7 = .bool true ∧ Blk wr d 43 (A.setIfInBounds 5 (.string u)) ∧ Chg (fun b => b = d) Y wr
set_option maxRecDepth 100000 in
set_option maxHeartbeats 4000000 in
theorem take_read (lo p : Nat) (c : Client) (ob oc gb gc g q : Nat) (L : List Ent) (gs : List Nat) (sp : List ByteArray) (tb m3 nr : Nat) (fr : ByteArray → Option (Bool × ByteArray × Int)) (C : Array Value) (s n cc st : Int) (fo : Bool) (v : ByteArray) (w : World) (h : CliAt lo w p c ob oc gb gc g q L gs sp) (hw : c.waits = true)
    (hcall : c.act.call = 2) (ht : c.vt = .pointer (some ⟨tb, 0, none⟩)) (hT : w.cell? ⟨tb, 6, none⟩ = some (.map (some m3))) (hpt : p ≠ tb) (hF : IsF mS w m3 nr fr) (hnr : nr < maxLen) (hk : okS c.act.key)
    (hC : MsgC C) (C0 : C[0]? = some (.int .i64 9)) (C12 : C[12]? = some (.int .i64 s)) (C13 : C[13]? = some (.int .i64 n)) (C14 : C[14]? = some (.int .i64 cc)) (C22 : C[22]? = some (.int .i64 0)) (C20 : C[20]? = some (.int .i64 st)) (C24 : C[24]? = some (.bool fo)) (C25 : C[25]? = some (.string v))
    (M12 : c.M[12]? = some (.int .i64 s)) (M13 : c.M[13]? = some (.int .i64 n)) (M14 : c.M[14]? = some (.int .i64 cc)) :
    Calls Try.prog 15 #[.pointer (some ⟨p, 0, none⟩), .agg C] w fun e w' => e = .returned (.tuple #[.agg (readAct c.act fo v st).cs, .bool true]) ∧ CliAt lo w' p { c with waits := false, cnt := newCnt c.cnt st } ob oc gb gc g q L gs sp ∧
      IsF mS w' m3 (nr + 1) (upd fr c.act.key (some (fo, (pickS fo v c.act.value), st))) ∧ Chg (fun b => b = p ∨ b = m3) w w' := by
  have H := Lib.hid h
  have hp := h.cl.blk.lt
  have CC := Lib.hid (And.intro C0 (And.intro C12 (And.intro C13 (And.intro C14 (And.intro C22 (And.intro C20 (And.intro C24 C25)))))))
  have MM := Lib.hid (And.intro M12 (And.intro M13 M14))
  have HC := Lib.hid hC
  have TT := Lib.hid (And.intro hT (And.intro hF (And.intro hnr hk)))
  have tbl : tb < w.heap.size := World.block_lt_of_cell? w _ hT
  have m3l : m3 < w.heap.size := hF.lt
  have pm3 : p ≠ m3 := fun e => by
    obtain ⟨D, ⟨es, clock, e1, _⟩, _⟩ := hF
    have h1 := h.cl.blk
    unfold Blk at h1
    rw [e, e1] at h1
    cases h1
  have HCALL := Lib.hid hcall
  clear h C0 C12 C13 C14 C22 C20 C24 C25 M12 M13 M14 hC hT hF hnr hk hcall
  go_enter Try.func15, Try.ntmps15
  go_upto_region 1 with (fail)
  refine world_out (fun W hW => ?_)
  obtain ⟨b, hb⟩ : ∃ b, b = w.heap.size := ⟨_, rfl⟩
  have BW : Hid (Below w.heap.size w W) := Lib.hid (by rw [hW]; exact ((Below.refl _ _).alloc (Nat.le_refl _) _).alloc (by simp) _)
  have BC : Hid (Blk W b 55 C) := Lib.hid (by rw [hW, hb]; exact (Blk.new w 55 C).alloc _)
  have BR : Hid (Blk W (b + 1) 43 zeroAct.cs) := Lib.hid (by rw [hW, hb]; exact Blk.new2 w 55 C 43 _)
  have H1 := Lib.hid (H.out.keep BW.out)
  rw [← hb]
  have hbw : w.heap.size ≤ b := by omega
  have pb : p < b := by omega
  clear hW hb
  have b0 : W.cell? ⟨b, 0, none⟩ = some (.int .i64 9) := by rw [BC.out.cell]; exact CC.out.1
  have b12 : W.cell? ⟨b, 12, none⟩ = some (.int .i64 s) := by rw [BC.out.cell]; exact CC.out.2.1
  have b13 : W.cell? ⟨b, 13, none⟩ = some (.int .i64 n) := by rw [BC.out.cell]; exact CC.out.2.2.1
  have b14 : W.cell? ⟨b, 14, none⟩ = some (.int .i64 cc) := by rw [BC.out.cell]; exact CC.out.2.2.2.1
  have p8 := H1.out.cl.waits
  rw [hw] at p8
  have p23 : W.cell? ⟨p, 23, none⟩ = some (.int .i64 s) := H1.out.cl.m 12 (by decide) MM.out.1
  have p24 : W.cell? ⟨p, 24, none⟩ = some (.int .i64 n) := H1.out.cl.m 13 (by decide) MM.out.2.1
  have p25 : W.cell? ⟨p, 25, none⟩ = some (.int .i64 cc) := H1.out.cl.m 14 (by decide) MM.out.2.2
  go_quiet (fail)
  go_upto_region 3 with (fail)
  refine world_out (fun V hV => ?_)
  have BV : Hid (Below w.heap.size w V) := Lib.hid (by rw [hV]; exact below_drewN BW.out _)
  have CV : Hid (Blk V b 55 C) := Lib.hid (by rw [hV]; exact BC.out.drewN _)
  have RV : Hid (Blk V (b + 1) 43 zeroAct.cs) := Lib.hid (by rw [hV]; exact BR.out.drewN _)
  have H2 := Lib.hid (H.out.keep BV.out)
  clear hV b0 b12 b13 b14 p8 p23 p24 p25 H1 BW BC BR
  have b22 : V.cell? ⟨b, 22, none⟩ = some (.int .i64 0) := by rw [CV.out.cell]; exact CC.out.2.2.2.2.1
  have p8 := H2.out.cl.waits
  have f8 := H2.out.cl.frz 8
  go_upto_region 8 with (fail)
  refine world_out (fun X hX => ?_)
  have HX : Hid (ClAt X p { c with waits := false }) := Lib.hid (by rw [hX]; exact H2.out.cl.put 8 _ (by decide) rfl rfl rfl)
  have KX : Hid (Chg (fun b => b = p) w X) := Lib.hid (by rw [hX]; exact (Chg.of (S := fun b => b = p) BV.out).set (p := ⟨p, 8, none⟩) (.inr rfl) _)
  have CX : Hid (Blk X b 55 C) := Lib.hid (by rw [hX]; exact CV.out.far (p := ⟨p, 8, none⟩) (by show b ≠ p; omega) _)
  have RX : Hid (Blk X (b + 1) 43 zeroAct.cs) := Lib.hid (by rw [hX]; exact RV.out.far (p := ⟨p, 8, none⟩) (by show b + 1 ≠ p; omega) _)
  clear hX b22 p8 f8 H2 BV CV RV
  go_cut [83] from 8 (CntB p c st X)
  case first =>
    have x20 : X.cell? ⟨b, 20, none⟩ = some (.int .i64 st) := by rw [CX.out.cell]; exact CC.out.2.2.2.2.2.1
    have x5 : X.cell? ⟨p, 5, none⟩ = some (.int .i64 c.cnt) := HX.out.cnt
    by_cases h1 : c.cnt < st
    · by_cases h2 : st ≤ 1099511627776
      · go_quiet (fail)
        go_wp2_with fail
        go_meet
        case rel => exact ⟨congrArg Value.bool (decide_eq_true (by omega)).symm, HX.out.drewN _, (Chg.refl _ X).drewN _⟩
      · go_quiet (fail)
        go_wp2_with fail
        go_meet
        case rel => exact ⟨congrArg Value.bool (decide_eq_false (by omega)).symm, HX.out.drewN _, (Chg.refl _ X).drewN _⟩
    · go_quiet (fail)
      go_wp2_with fail
      go_meet
      case rel => exact ⟨congrArg Value.bool (decide_eq_false (by omega)).symm, HX.out.drewN _, (Chg.refl _ X).drewN _⟩
  case rest =>
  obtain ⟨rfl, hcl, hch⟩ := hcut
  have HY := Lib.hid hcl
  have KY := Lib.hid hch
  have CY : Hid (Blk wc b 55 C) := Lib.hid (CX.out.chg hch (by omega))
  clear hcl hch
  obtain ⟨bb, hbb⟩ : ∃ bb, bb = decide (c.cnt < st ∧ st ≤ 1099511627776) := ⟨_, rfl⟩
  have HB := Lib.hid hbb
  rw [← hbb]
  clear hbb
  go_upto_if 83 with (fail)
  go_cut [5] from 8 (CntR p c st X)
  case first =>
    cases bb with
    | true =>
      have x20 : wc.cell? ⟨b, 20, none⟩ = some (.int .i64 st) := by rw [CY.out.cell]; exact CC.out.2.2.2.2.2.1
      have x5 : wc.cell? ⟨p, 5, none⟩ = some (.int .i64 c.cnt) := HY.out.cnt
      have g5 := HY.out.frz 5
      go_wp2_with fail
      go_meet
      case rel =>
        have e : newCnt c.cnt st = st := if_pos (of_decide_eq_true HB.out.symm)
        exact ⟨rfl, by rw [e]; exact HY.out.put (c' := { c with waits := false, cnt := st }) 5 (.int .i64 st) (by decide) rfl rfl rfl, KY.out.set (p := ⟨p, 5, none⟩) (.inr rfl) _⟩
    | false =>
      go_wp2_with fail
      go_meet
      case rel =>
        have e : newCnt c.cnt st = c.cnt := if_neg (of_decide_eq_false HB.out.symm)
        exact ⟨rfl, by rw [e]; exact HY.out, KY.out⟩
  case rest =>
    obtain ⟨rfl, hcl, hch⟩ := hcut
    clear HY KY CY HB
    have HY := Lib.hid hcl
    have KY : Hid (Chg (fun b => b = p) w wc) := Lib.hid (KX.out.on hch)
    have CY : Hid (Blk wc b 55 C) := Lib.hid (CX.out.chg hch (by omega))
    have RY : Hid (Blk wc (b + 1) 43 zeroAct.cs) := Lib.hid (RX.out.chg hch (by omega))
    have LY := RY.out.lt
    clear hcl hch HX KX CX RX
    obtain ⟨g1, g2⟩ := HY.out.hasA
    obtain ⟨A, hA⟩ : ∃ A, A = c.act.cs := ⟨_, rfl⟩
    have AC : CellsN 11 A := hA ▸ c.act.cells
    rw [← hA] at g2
    have EA := Lib.hid hA
    have rn := roomN_new (n := 11) wc 43 #[.int .i64 0, .int .i64 0, .int .i64 0, .int .i64 0, .string ⟨#[]⟩, .string ⟨#[]⟩, .bool false, .int .i64 0, .int .i64 0, .int .i64 0, .int .i64 0] rfl
    clear hA
    go_upto_region 11 with (fail)
    refine world_out (fun Y hY => ?_)
    obtain ⟨d, hd⟩ : ∃ d, d = wc.heap.size := ⟨_, rfl⟩
    rw [← hd] at hY LY ⊢
    have PY : Hid (Blk Y d 43 A) := Lib.hid (by rw [hY, hd]; exact putN_fill (Blk.new wc 43 _) (by rw [AC.1]; rfl))
    have LL : Hid (d < Y.heap.size) := Lib.hid PY.out.lt
    have BY : Hid (Below wc.heap.size wc Y) := Lib.hid (by rw [hY]; exact putN_below ((Below.refl _ _).alloc (Nat.le_refl _) _) (by omega) 0 A)
    have HZ : Hid (ClAt Y p { c with waits := false, cnt := newCnt c.cnt st }) := Lib.hid (HY.out.below BY.out HY.out.blk.lt)
    have KZ : Hid (Chg (fun b => b = p) w Y) := Lib.hid (KY.out.then BY.out)
    have CZ : Hid (Blk Y b 55 C) := Lib.hid (CY.out.below BY.out CY.out.lt)
    have RZ : Hid (Blk Y (b + 1) 43 zeroAct.cs) := Lib.hid (RY.out.below BY.out RY.out.lt)
    have y22 : Y.cell? ⟨b, 22, none⟩ = some (.int .i64 0) := by rw [CZ.out.cell]; exact CC.out.2.2.2.2.1
    have d1 : Y.cell? ⟨d, 1, none⟩ = some (.int .i64 2) := by rw [PY.out.cell, EA.out]; simp [ActV.cs, HCALL.out]
    have d7 := PY.out.cell 7
    rw [EA.out] at d7
    simp only [ActV.cs] at d7
    have fd := PY.out.frozen 7
    have bd : b ≠ d := by omega
    clear hY g1 g2 rn hd HY KY CY RY BY
    go_upto_region 16 with (fail)
    refine world_out (fun V1 hV1 => ?_)
    have P1 : Hid (Blk V1 d 43 (A.setIfInBounds 7 (.int .i64 0))) := Lib.hid (by rw [hV1]; exact PY.out.set_ 7 _)
    have K1 : Hid (Chg (fun b => b = d) Y V1) := Lib.hid (by rw [hV1]; exact (Chg.refl _ Y).set1 7 _)
    have C1 : Hid (Blk V1 b 55 C) := Lib.hid (CZ.out.chg K1.out (by omega))
    clear hV1 y22 d1 d7 fd
    have x24 : V1.cell? ⟨b, 24, none⟩ = some (.bool fo) := by rw [C1.out.cell]; exact CC.out.2.2.2.2.2.2.1
    have x20 : V1.cell? ⟨b, 20, none⟩ = some (.int .i64 st) := by rw [C1.out.cell]; exact CC.out.2.2.2.2.2.1
    have c6 : ∃ u, V1.cell? ⟨d, 6, none⟩ = some u := ⟨.bool c.act.found, by rw [P1.out.cell, EA.out]; simp [ActV.cs]⟩
    have c8 : ∃ u, V1.cell? ⟨d, 8, none⟩ = some u := ⟨.int .i64 c.act.stamp, by rw [P1.out.cell, EA.out]; simp [ActV.cs]⟩
    obtain ⟨u6, c6⟩ := c6
    obtain ⟨u8, c8⟩ := c8
    have f6 := P1.out.frozen 6
    have f8 := P1.out.frozen 8
    have F : Hid (∀ v', Chg (fun b => b = d) V1 v' → v'.cell? ⟨b, 24, none⟩ = some (.bool fo) ∧ v'.cell? ⟨b, 20, none⟩ = some (.int .i64 st)) := Lib.hid (fun v' hv => ⟨hv.cell x24 bd, hv.cell x20 bd⟩)
    have S0 := Lib.hid (F.out V1.drew (Chg.refl _ _).drew)
    have S1 := Lib.hid (F.out (V1.setCell ⟨d, 6, none⟩ (.bool fo)).drew ((Chg.refl _ _).set1 6 _).drew)
    have S2 := Lib.hid (F.out (V1.setCell ⟨d, 8, none⟩ (.int .i64 st)).drew ((Chg.refl _ _).set1 8 _).drew)
    have S3 := Lib.hid (F.out ((V1.setCell ⟨d, 6, none⟩ (.bool fo)).setCell ⟨d, 8, none⟩ (.int .i64 st)).drew (((Chg.refl _ _).set1 6 _).set1 8 _).drew)
    have S4 := Lib.hid (F.out ((V1.setCell ⟨d, 8, none⟩ (.int .i64 st)).setCell ⟨d, 6, none⟩ (.bool fo)).drew (((Chg.refl _ _).set1 8 _).set1 6 _).drew)
    go_region_held3 (fun v' => v'.cell? ⟨b, 24, none⟩ = some (.bool fo) ∧ v'.cell? ⟨b, 20, none⟩ = some (.int .i64 st)) (first | with_reducible exact S0.out | with_reducible exact S1.out | with_reducible exact S2.out | with_reducible exact S3.out | with_reducible exact S4.out) (fail)
    go_upto_region 17 with (fail)
    refine world_out (fun V2 hV2 => ?_)
    have P2 : Hid (Blk V2 d 43 (((A.setIfInBounds 7 (.int .i64 0)).setIfInBounds 6 (.bool fo)).setIfInBounds 8 (.int .i64 st))) := Lib.hid (by rw [hV2]; exact ((P1.out.set_ 6 _).set_ 8 _).drew)
    have K2 : Hid (Chg (fun b => b = d) Y V2) := Lib.hid (by rw [hV2]; exact ((K1.out.set1 6 _).set1 8 _).drew)
    have C2 : Hid (Blk V2 b 55 C) := Lib.hid (CZ.out.chg K2.out (by omega))
    clear hV2 S0 S1 S2 S3 S4 F x24 x20 c6 c8 f6 f8 P1 K1 C1
    have x24 : V2.cell? ⟨b, 24, none⟩ = some (.bool fo) := by rw [C2.out.cell]; exact CC.out.2.2.2.2.2.2.1
    have x25 : V2.cell? ⟨b, 25, none⟩ = some (.string v) := by rw [C2.out.cell]; exact CC.out.2.2.2.2.2.2.2
    have c4 : ∃ u, V2.cell? ⟨d, 4, none⟩ = some u := ⟨.string c.act.key, by rw [P2.out.cell, EA.out]; simp [ActV.cs]⟩
    have c5 : V2.cell? ⟨d, 5, none⟩ = some (.string c.act.value) := by rw [P2.out.cell, EA.out]; simp [ActV.cs]
    have f5 := P2.out.frozen 5
    go_upto_if 111 with (fail)
    go_cut [7] from 8 (AnsR Y d (((A.setIfInBounds 7 (.int .i64 0)).setIfInBounds 6 (.bool fo)).setIfInBounds 8 (.int .i64 st)) (pickS fo v c.act.value))
    case first =>
      cases fo with
      | true =>
        go_wp2_with fail
        go_meet
        case rel => exact ⟨rfl, P2.out.set_ 5 _, K2.out.set1 5 _⟩
      | false =>
        go_wp2_with fail
        go_meet
        case rel =>
          exact ⟨rfl, by rw [set_self (by rw [← P2.out.cell]; exact c5)]; exact P2.out, K2.out⟩
    case rest =>
      obtain ⟨rfl, hP, hK⟩ := hcut
      have hP' : Blk wc d 43 (readAct c.act fo v st).cs := by
        have e : ((((A.setIfInBounds 7 (.int .i64 0)).setIfInBounds 6 (.bool fo)).setIfInBounds 8 (.int .i64 st)).setIfInBounds 5 (.string (pickS fo v c.act.value))) = (readAct c.act fo v st).cs := by
          rw [EA.out]
          simp [ActV.cs, readAct]
        rw [e] at hP
        exact hP
      clear hP x24 x25 c4 c5 f5 P2 K2 C2
      have tbd : ¬ tb = d := by omega
      have m3d : ¬ m3 = d := by omega
      have dm3 : ¬ d = m3 := by omega
      have tm3 : ¬ tb = m3 := fun e => by
        obtain ⟨D, ⟨es, clock, e1, _⟩, _⟩ := TT.out.2.1
        have h1 := TT.out.1
        rw [e] at h1
        simp [World.cell?, e1] at h1
      have P3 := Lib.hid hP'
      have K3 : Hid (Chg (fun b => b = p ∨ b = d) w wc) := Lib.hid ((KZ.out.more (fun _ _ e => .inl e)).on (hK.more (fun _ _ e => .inr e)))
      have Z3 : Hid (ClAt wc p { c with waits := false, cnt := newCnt c.cnt st }) := Lib.hid (HZ.out.chg hK (by omega))
      have R3 : Hid (Blk wc (b + 1) 43 zeroAct.cs) := Lib.hid (RZ.out.chg hK (by omega))
      have T3 : wc.cell? ⟨tb, 6, none⟩ = some (.map (some m3)) := K3.out.cell TT.out.1 (by show ¬ (tb = p ∨ tb = d); omega)
      have F3 : Hid (IsF mS wc m3 nr fr) := Lib.hid (isF_same TT.out.2.1 (K3.out.block m3 m3l (by omega)))
      have SZ : Hid (d < wc.heap.size) := Lib.hid P3.out.lt
      clear hP' hK HZ KZ CZ RZ
      have q7 := Z3.out.vt
      rw [ht] at q7
      obtain ⟨D, hD⟩ : ∃ D, D = (readAct c.act fo v st).cs := ⟨_, rfl⟩
      have DC : CellsN 11 D := hD ▸ (readAct c.act fo v st).cells
      have d4 : wc.cell? ⟨d, 4, none⟩ = some (.string c.act.key) := by rw [P3.out.cell]; simp [ActV.cs, readAct]
      have d5 : wc.cell? ⟨d, 5, none⟩ = some (.string (pickS fo v c.act.value)) := by rw [P3.out.cell]; simp [ActV.cs, readAct]
      have d6 : wc.cell? ⟨d, 6, none⟩ = some (.bool fo) := by rw [P3.out.cell]; simp [ActV.cs, readAct]
      have d8 : wc.cell? ⟨d, 8, none⟩ = some (.int .i64 st) := by rw [P3.out.cell]; simp [ActV.cs, readAct]
      rw [← hD] at P3
      have ED := Lib.hid hD
      clear hD
      obtain ⟨w5, hst, hF5, hturn⟩ := IsF.store (w := wc.drew) (t := 108) (e := 106) F3.out Try.underlying108 TT.out.2.2.1 c.act.key TT.out.2.2.2 (fo, (pickS fo v c.act.value), st)
      have hst' : (Instr.mapUpdate 108 (.map (some m3)) (.string c.act.key) (.agg #[.bool fo, .string (pickS fo v c.act.value), .int .i64 st])).run Try.prog wc.drew = .ok () w5 := hst
      have K5 : Hid (Chg (fun j => j = m3) wc w5) := Lib.hid (((Chg.refl _ wc).drew).on (Chg.grown hturn.grown))
      have F5 := Lib.hid hF5
      clear hst hF5 hturn
      obtain ⟨uu, huu⟩ : ∃ uu, uu = (pickS fo v c.act.value) := ⟨_, rfl⟩
      rw [← huu] at d5 hst' F5
      have EU := Lib.hid huu
      clear huu
      go_upto_region 19 with (fail)
      have S0 : Hid (wc.drew.cell? ⟨p, 7, none⟩ = some (.pointer (some ⟨tb, 0, none⟩)) ∧ wc.drew.cell? ⟨tb, 6, none⟩ = some (.map (some m3)) ∧ wc.drew.cell? ⟨d, 4, none⟩ = some (.string c.act.key) ∧ wc.drew.cell? ⟨d, 5, none⟩ = some (.string uu) ∧ wc.drew.cell? ⟨d, 6, none⟩ = some (.bool fo) ∧ wc.drew.cell? ⟨d, 8, none⟩ = some (.int .i64 st)) := Lib.hid ⟨q7, T3, d4, d5, d6, d8⟩
      have S1 : Hid (w5.cell? ⟨p, 7, none⟩ = some (.pointer (some ⟨tb, 0, none⟩)) ∧ w5.cell? ⟨tb, 6, none⟩ = some (.map (some m3)) ∧ w5.cell? ⟨d, 4, none⟩ = some (.string c.act.key) ∧ w5.cell? ⟨d, 5, none⟩ = some (.string uu) ∧ w5.cell? ⟨d, 6, none⟩ = some (.bool fo) ∧ w5.cell? ⟨d, 8, none⟩ = some (.int .i64 st)) := Lib.hid ⟨K5.out.cell q7 pm3, K5.out.cell T3 tm3, K5.out.cell d4 dm3, K5.out.cell d5 dm3, K5.out.cell d6 dm3, K5.out.cell d8 dm3⟩
      go_region_held3 (fun v' => v'.cell? ⟨p, 7, none⟩ = some (.pointer (some ⟨tb, 0, none⟩)) ∧ v'.cell? ⟨tb, 6, none⟩ = some (.map (some m3)) ∧ v'.cell? ⟨d, 4, none⟩ = some (.string c.act.key) ∧ v'.cell? ⟨d, 5, none⟩ = some (.string uu) ∧ v'.cell? ⟨d, 6, none⟩ = some (.bool fo) ∧ v'.cell? ⟨d, 8, none⟩ = some (.int .i64 st)) (first | with_reducible exact S0.out | with_reducible exact S1.out) (fail)
      clear hst' S0 S1 d4 d5 d6 d8 q7 T3
      have Z5 : Hid (ClAt w5 p { c with waits := false, cnt := newCnt c.cnt st }) := Lib.hid (Z3.out.chg K5.out pm3)
      have P5 : Hid (Blk w5 d 43 D) := Lib.hid (P3.out.chg K5.out (Ne.symm m3d))
      have R5 : Hid (Blk w5 (b + 1) 43 zeroAct.cs) := Lib.hid (R3.out.chg K5.out (by omega))
      have KZ : Hid (Chg (fun j => j = p ∨ j = m3 ∨ j = d) w w5) := Lib.hid ((K3.out.more (fun _ _ e => by omega)).on (K5.out.more (fun _ _ e => .inr (.inl e))))
      obtain ⟨g1, g2⟩ := blkN_has P5.out DC.1
      have rm : RoomN 11 w5 (b + 1) 0 := blkN_room (n := 11) R5.out rfl
      go_wp2_with fail
      have PF : Hid (Blk (putN w5 (b + 1) 0 D) (b + 1) 43 D) := Lib.hid (putN_fill R5.out (by rw [DC.1]; rfl))
      have hl := load_act DC.1 PF.out.range
      have K0 : Chg (fun j => j = p ∨ j = m3) w (putN w5 (b + 1) 0 D) := (KZ.out.more (S' := fun j => j = p ∨ j = m3) (fun j hj e => by omega)).trans (putN_chg (S := fun j => j = b + 1) (Chg.refl _ w5) (.inr rfl) 0 D) (fun j hj e => by omega)
      refine bodyPost_ret (v := .tuple #[.agg D, .bool true]) (by simp [results, Try.results15, asAddr, hl]) rfl ⟨by rw [ED.out], ?_, ?_, K0⟩
      · refine H.out.more (K0.kept (fun j hj e => by rcases e with e | e; exact .inl e; exact .inr (.inr (e ▸ TT.out.2.1.isMp)))) ⟨putN_far Z5.out.blk (by omega), Z5.out.msg⟩ rfl rfl rfl H.out.lenG ?_
        obtain ⟨cur, r1, r2⟩ := H.out.guess
        exact ⟨cur, r1.chg K0 (by have := H.out.pg; have := TT.out.2.1.isMp.ne_blk r1; omega), r2⟩
      · rw [← EU.out]
        exact isF_same F5.out ((putN_chg (S := fun j => j = b + 1) (Chg.refl _ w5) (.inr rfl) 0 D).block m3 F5.out.lt (by omega))
end Go.Proofs.Ytpaihfdmjkfegaa.Cl
