/- does, over what its callee hands back: walked (printed by does_mk.py). -/
import Derived.Test.YtpaihfdmjkfegaaCqEF
/- does, over what its callee hands back: walked (printed by does_mk.py). -/
namespace Go.Proofs.Ytpaihfdmjkfegaa.Cl
open Go.RowKit Go.Lib Go.Maps Go.Proofs.Ytpaihfdmjkfegaa.MapF Go.Proofs.Ytpaihfdmjkfegaa.Msg Go.Proofs.Ytpaihfdmjkfegaa.Cls Go.Proofs.Ytpaihfdmjkfegaa.Ck

attribute [local go_sem ↓] loadAct_eq storeAct_eq storeCall_eq loadCall_eq
attribute [local go_sem] run_loadAct run_storeAct run_storeCall run_loadCall


set_option maxRecDepth 100000 in
set_option maxHeartbeats 4000000 in
theorem does_lay (lo p : Nat) (c : Client) (ob oc gb gc g q : Nat) (L : List Ent) (gs : List Nat) (sp : List ByteArray) (w : World) (h : CliAt lo w p c ob oc gb gc g q L gs sp) (tb : Nat) (T : Array Value) (n cc : Int) (key val : ByteArray)
    (ht : c.vt = .pointer (some ⟨tb, 0, none⟩)) (hw : c.waits = false) (hT : Blk w tb 110 T) (hT0 : T[0]? = some (.int .i64 n)) (hT1 : T[1]? = some (.int .i64 cc)) (m2 : Nat) (hT5 : T[5]? = some (.map (some m2))) (hk : keyB key = true) (hv : val.size ≤ 200)
    (hm : ∀ W, Below w.heap.size w W → (Instr.lookup 107 (.map (some m2)) (.string key) false).run Try.prog W = .ok (.bool true) W) (R : World → World → Prop)
    (hr : ∀ W, Below w.heap.size w W → Calls Try.prog 28 #[.pointer (some ⟨p, 0, none⟩), .agg (actW c.num 3 n cc key val).cs] W fun e w' => e = .returned (.tuple #[]) ∧ R W w' ∧ ∃ S, Chg S W w' ∧ ∀ j, w.heap.size ≤ j → ¬ S j)
    (up : ∀ W w' w'', Below w.heap.size w W → w.heap.size < W.heap.size → R W w' → Chg (fun j => j = w.heap.size) w' w'' → R w w'') :
    Calls Try.prog 27 #[.pointer (some ⟨p, 0, none⟩), .int .i64 3, .string key, .string val] w fun e w' => e = .returned (.tuple #[callV (.slice none 0 0) (actW c.num 3 n cc key val) true, .int .i64 0]) ∧ R w w' := by
  have H := Lib.hid h
  have HT := Lib.hid hT
  have HR := Lib.hid (And.intro hr up)
  have HT01 := Lib.hid (And.intro hT0 hT1)
  have HM := Lib.hid (And.intro hT5 (And.intro hm hk))
  have hv' : (val.size : Int) ≤ 200 := by omega
  have c8 := h.cl.waits
  rw [hw] at c8
  have c7 := h.cl.vt
  rw [ht] at c7
  have hp := h.cl.blk.lt
  clear h hT hr up hT0 hT1 hT5 hm
  go_enter Try.func27, Try.ntmps27
  go_upto_region 9 with (fail)
  refine world_out (fun W hW => ?_)
  have BW : Hid (Below w.heap.size w W) := Lib.hid (by rw [hW]; exact (Below.refl _ _).alloc (Nat.le_refl _) _)
  have R1 : Hid (∃ Z, Blk W w.heap.size 102 Z ∧ Z.size = 13) := Lib.hid ⟨_, by rw [hW]; exact Blk.new w 102 _, rfl⟩
  have H1 := Lib.hid (H.out.keep BW.out)
  have T1 := Lib.hid (HT.out.below BW.out HT.out.lt)
  clear hW c8 c7
  go_cut [10] from 52 (ActR W (actOf c.num 3 n cc ⟨#[]⟩))
  case first =>
    have F : Hid (∀ v, Below W.heap.size W v → v.cell? ⟨p, 0, none⟩ = some (.int .i64 c.num) ∧ v.cell? ⟨p, 7, none⟩ = some (.pointer (some ⟨tb, 0, none⟩)) ∧ v.cell? ⟨tb, 0, none⟩ = some (.int .i64 n) ∧ v.cell? ⟨tb, 1, none⟩ = some (.int .i64 cc)) := Lib.hid (fun v hv => by
      have c7 := (H1.out.keep hv).cl.vt
      rw [ht] at c7
      have t := T1.out.below hv T1.out.lt
      exact ⟨(H1.out.keep hv).cl.num, c7, by rw [t.cell]; exact HT01.out.1, by rw [t.cell]; exact HT01.out.2⟩)
    have S0 := Lib.hid (F.out W (Below.refl _ _))
    have S1 := Lib.hid (F.out (W.alloc (.cells #[.int .i64 0, .int .i64 0, .int .i64 0, .int .i64 0, .string ⟨#[]⟩, .string ⟨#[]⟩, .bool false, .int .i64 0, .int .i64 0, .int .i64 0, .int .i64 0] 43)) ((Below.refl _ _).alloc (Nat.le_refl _) _))
    have S2 := Lib.hid (fun C : Array Value => F.out (putN (W.alloc (.cells #[.int .i64 0, .int .i64 0, .int .i64 0, .int .i64 0, .string ⟨#[]⟩, .string ⟨#[]⟩, .bool false, .int .i64 0, .int .i64 0, .int .i64 0, .int .i64 0] 43)).drew W.heap.size 0 C) (putN_below ((Below.refl _ _).alloc (Nat.le_refl _) _).drew (Nat.le_refl _) 0 C))
    have S0d := Lib.hid (F.out W.drew (Below.refl _ _).drew)
    have S1d := Lib.hid (F.out (W.alloc (.cells #[.int .i64 0, .int .i64 0, .int .i64 0, .int .i64 0, .string ⟨#[]⟩, .string ⟨#[]⟩, .bool false, .int .i64 0, .int .i64 0, .int .i64 0, .int .i64 0] 43)).drew ((Below.refl _ _).alloc (Nat.le_refl _) _).drew)
    have rm : RoomN 11 (W.alloc (.cells #[.int .i64 0, .int .i64 0, .int .i64 0, .int .i64 0, .string ⟨#[]⟩, .string ⟨#[]⟩, .bool false, .int .i64 0, .int .i64 0, .int .i64 0, .int .i64 0] 43)).drew W.heap.size 0 := roomN_new W 43 _ rfl
    have ac : CellsN 11 #[.int .i64 c.num, .int .i64 3, .int .i64 n, .int .i64 cc, .string ⟨#[]⟩, .string ⟨#[]⟩, .bool false, .int .i64 0, .int .i64 0, .int .i64 0, .int .i64 0] := ⟨rfl, by simp [Value.oneCell']⟩
    have EQ : Hid (#[.int .i64 c.num, .int .i64 3, .int .i64 n, .int .i64 cc, .string ⟨#[]⟩, .string ⟨#[]⟩, .bool false, .int .i64 0, .int .i64 0, .int .i64 0, .int .i64 0] = (actOf c.num 3 n cc ⟨#[]⟩).cs) := Lib.hid (by simp [actOf, zeroAct, ActV.cs])
    have PF : Hid (∀ C : Array Value, C.size = 11 → Blk (putN (W.alloc (.cells #[.int .i64 0, .int .i64 0, .int .i64 0, .int .i64 0, .string ⟨#[]⟩, .string ⟨#[]⟩, .bool false, .int .i64 0, .int .i64 0, .int .i64 0, .int .i64 0] 43)).drew W.heap.size 0 C) W.heap.size 43 C ∧ Below W.heap.size W (putN (W.alloc (.cells #[.int .i64 0, .int .i64 0, .int .i64 0, .int .i64 0, .string ⟨#[]⟩, .string ⟨#[]⟩, .bool false, .int .i64 0, .int .i64 0, .int .i64 0, .int .i64 0] 43)).drew W.heap.size 0 C)) := Lib.hid (fun C hC => ⟨putN_fill (w := (W.alloc (.cells #[.int .i64 0, .int .i64 0, .int .i64 0, .int .i64 0, .string ⟨#[]⟩, .string ⟨#[]⟩, .bool false, .int .i64 0, .int .i64 0, .int .i64 0, .int .i64 0] 43)).drew) (Blk.new W 43 _).drew (by rw [hC]; rfl), putN_below ((Below.refl _ _).alloc (Nat.le_refl _) _).drew (Nat.le_refl _) 0 C⟩)
    go_region_held3 (fun v => v.cell? ⟨p, 0, none⟩ = some (.int .i64 c.num) ∧ v.cell? ⟨p, 7, none⟩ = some (.pointer (some ⟨tb, 0, none⟩)) ∧ v.cell? ⟨tb, 0, none⟩ = some (.int .i64 n) ∧ v.cell? ⟨tb, 1, none⟩ = some (.int .i64 cc)) (first | with_reducible exact S0.out | with_reducible exact S0d.out | with_reducible exact S1.out | with_reducible exact S1d.out | with_reducible exact S2.out _) (fail)
    all_goals
      go_wp2_with fail
      go_meet
      case rel => exact ⟨W.heap.size, rfl, Nat.le_refl _, by rw [← EQ.out]; exact (PF.out _ rfl).1, (PF.out _ rfl).2⟩
  case rest =>
    obtain ⟨ab, rfl, hab, hA, hBW⟩ := hcut
    have B2 : Hid (Below w.heap.size w wc) := Lib.hid (BW.out.trans (hBW.mono BW.out.size))
    have R2 : Hid (∃ Z, Blk wc w.heap.size 102 Z ∧ Z.size = 13) := Lib.hid (by obtain ⟨Z, h1, h2⟩ := R1.out; exact ⟨Z, h1.below hBW h1.lt, h2⟩)
    have hab1 : w.heap.size < ab := by obtain ⟨Z, h1, _⟩ := R1.out; have := h1.lt; omega
    have A2 := Lib.hid hA
    have n4 : wc.cell? ⟨ab, 4, none⟩ = some (.string ⟨#[]⟩) := by rw [hA.cell]; simp [ActV.cs, actOf, zeroAct]
    have f4 := hA.frozen 4
    clear hA hBW R1 H1 T1 BW
    go_upto_region 13 with (fail)
    refine world_out (fun V hV => ?_)
    have B3 : Hid (Below w.heap.size w V) := Lib.hid (by rw [hV]; exact B2.out.setCell (p := ⟨ab, 4, none⟩) (Nat.le_of_lt hab1) _)
    have R3 : Hid (∃ Z, Blk V w.heap.size 102 Z ∧ Z.size = 13) := Lib.hid (by obtain ⟨Z, h1, h2⟩ := R2.out; rw [hV]; exact ⟨Z, h1.far (p := ⟨ab, 4, none⟩) (Nat.ne_of_lt hab1) _, h2⟩)
    have A3 : Hid (Blk V ab 43 (actOf c.num 3 n cc key).cs) := Lib.hid (by
      have h := A2.out.set_ 4 (.string key)
      rw [hV]
      have e : ((actOf c.num 3 n cc ⟨#[]⟩).cs.setIfInBounds 4 (.string key)) = (actOf c.num 3 n cc key).cs := by simp [ActV.cs, actOf, zeroAct]
      rw [e] at h
      exact h)
    have H3 := Lib.hid (H.out.keep B3.out)
    have v2 := H3.out.cl.dir
    have KY := Lib.hid (key_any' c.D key)
    clear hV n4 f4 A2 R2 B2
    rw [HM.out.2.2] at KY
    have v7 := H3.out.cl.vt
    rw [ht] at v7
    have t5 : V.cell? ⟨tb, 5, none⟩ = some (.map (some m2)) := by rw [(HT.out.below B3.out HT.out.lt).cell]; exact HM.out.1
    have lk := HM.out.2.1 V B3.out
    have n5 : V.cell? ⟨ab, 5, none⟩ = some (.string ⟨#[]⟩) := by rw [A3.out.cell]; simp [ActV.cs, actOf, zeroAct]
    have f5 := A3.out.frozen 5
    go_upto_region 20 with (go_at_call 43; refine (KY.out _).mono ?_; rintro e w' ⟨rfl, rfl⟩)
    refine world_out (fun X hX => ?_)
    have B4 : Hid (Below w.heap.size w X) := Lib.hid (by rw [hX]; exact B3.out.setCell (p := ⟨ab, 5, none⟩) (Nat.le_of_lt hab1) _)
    have R4 : Hid (∃ Z, Blk X w.heap.size 102 Z ∧ Z.size = 13) := Lib.hid (by obtain ⟨Z, h1, h2⟩ := R3.out; rw [hX]; exact ⟨Z, h1.far (p := ⟨ab, 5, none⟩) (Nat.ne_of_lt hab1) _, h2⟩)
    have A4 : Hid (Blk X ab 43 (actW c.num 3 n cc key val).cs) := Lib.hid (by
      have h := A3.out.set_ 5 (.string val)
      rw [hX]
      have e : ((actOf c.num 3 n cc key).cs.setIfInBounds 5 (.string val)) = (actW c.num 3 n cc key val).cs := by simp [ActV.cs, actW, actOf, zeroAct]
      rw [e] at h
      exact h)
    clear hX n5 f5 A3 R3 v2 H3 v7 t5 lk
    have A3 := A4
    have R3 := R4
    clear A4 R4
    have H3 := Lib.hid (H.out.keep B4.out)
    clear B3
    have B3 := B4
    clear B4
    have v7 := H3.out.cl.vt
    rw [ht] at v7
    have t5 : X.cell? ⟨tb, 5, none⟩ = some (.map (some m2)) := by rw [(HT.out.below B3.out HT.out.lt).cell]; exact HM.out.1
    have lk := HM.out.2.1 X B3.out
    have HC0 := Lib.hid (HR.out.1 X B3.out)
    go_upto_region 23 with (fail)
    obtain ⟨g1, g2⟩ := blkN_has (n := 11) A3.out rfl
    obtain ⟨Z, hZ, hzs⟩ := R3.out
    have lw := hZ.lt
    have A4 : Hid (Blk _ ab 43 (actW c.num 3 n cc key val).cs) := A3
    clear g1 g2 A3
    obtain ⟨AA, hAA⟩ : ∃ AA, AA = actW c.num 3 n cc key val := ⟨_, rfl⟩
    rw [← hAA] at A4 HC0
    have A3 := A4
    obtain ⟨g1, g2⟩ := blkN_has A3.out AA.cells.1
    have EAA := Lib.hid hAA
    clear hAA
    go_upto_region 24 with (go_at_call 28; go_loud (refine HC0.out.mono ?_; rintro e w9 ⟨rfl, hL, hS⟩; have HL := Lib.hid hL; have HS := Lib.hid hS; clear hL hS))
    have hZ9 : Blk w9 w.heap.size 102 Z := Exists.elim HS.out (fun S hS => hZ.chg hS.1 (hS.2 _ (Nat.le_refl _)))
    have A9 : Blk w9 ab 43 AA.cs := Exists.elim HS.out (fun S hS => A3.out.chg hS.1 (hS.2 _ (Nat.le_of_lt hab1)))
    have rm : RoomN 13 w9 w.heap.size 0 := blkN_room hZ9 hzs
    have g3 : HasN 11 w9 ab 0 := (blkN_has A9 AA.cells.1).1
    have g4 : valN 11 w9 ab 0 = #[.int .i64 AA.who, .int .i64 AA.call, .int .i64 AA.n, .int .i64 AA.c, .string AA.key, .string AA.value, .bool AA.found, .int .i64 AA.code, .int .i64 AA.stamp, .int .i64 AA.from_, .int .i64 AA.to] := by rw [(blkN_has A9 AA.cells.1).2, ActV.cs_eq]
    have cw : CellsN 13 #[.slice none 0 0, .int .i64 AA.who, .int .i64 AA.call, .int .i64 AA.n, .int .i64 AA.c, .string AA.key, .string AA.value, .bool AA.found, .int .i64 AA.code, .int .i64 AA.stamp, .int .i64 AA.from_, .int .i64 AA.to, .bool true] := ⟨rfl, by simp [Value.oneCell']⟩
    have EV : Hid (callV (.slice none 0 0) AA true = .agg #[.slice none 0 0, .int .i64 AA.who, .int .i64 AA.call, .int .i64 AA.n, .int .i64 AA.c, .string AA.key, .string AA.value, .bool AA.found, .int .i64 AA.code, .int .i64 AA.stamp, .int .i64 AA.from_, .int .i64 AA.to, .bool true]) := Lib.hid (by simp [callV, ActV.cs])
    clear g1 g2
    go_wp2_with fail
    generalize (#[.slice none 0 0, .int .i64 AA.who, .int .i64 AA.call, .int .i64 AA.n, .int .i64 AA.c, .string AA.key, .string AA.value, .bool AA.found, .int .i64 AA.code, .int .i64 AA.stamp, .int .i64 AA.from_, .int .i64 AA.to, .bool true] : Array Value) = C at cw EV ⊢
    have RF : Hid (Blk (putN w9 w.heap.size 0 C) w.heap.size 102 C) := Lib.hid (putN_fill hZ9 (hzs.trans cw.1.symm))
    have LF := Lib.hid (HR.out.2 _ _ _ B3.out lw HL.out (putN_chg (S := fun j => j = w.heap.size) (Chg.refl _ w9) (.inr rfl) 0 C))
    have hl := load_call cw.1 RF.out.range
    exact bodyPost_ret (v := .tuple #[.agg C, .int .i64 0]) (by simp [results, Try.results27, asAddr, hl]) rfl ⟨by rw [← EAA.out, EV.out], LF.out⟩

set_option maxRecDepth 100000 in
set_option maxHeartbeats 4000000 in
theorem does_laydel (lo p : Nat) (c : Client) (ob oc gb gc g q : Nat) (L : List Ent) (gs : List Nat) (sp : List ByteArray) (w : World) (h : CliAt lo w p c ob oc gb gc g q L gs sp) (tb : Nat) (T : Array Value) (n cc : Int) (key val : ByteArray)
    (ht : c.vt = .pointer (some ⟨tb, 0, none⟩)) (hw : c.waits = false) (hT : Blk w tb 110 T) (hT0 : T[0]? = some (.int .i64 n)) (hT1 : T[1]? = some (.int .i64 cc)) (m2 : Nat) (hT5 : T[5]? = some (.map (some m2))) (hk : keyB key = true)
    (hm : ∀ W, Below w.heap.size w W → (Instr.lookup 107 (.map (some m2)) (.string key) false).run Try.prog W = .ok (.bool true) W) (R : World → World → Prop)
    (hr : ∀ W, Below w.heap.size w W → Calls Try.prog 28 #[.pointer (some ⟨p, 0, none⟩), .agg (actW c.num 4 n cc key ⟨#[]⟩).cs] W fun e w' => e = .returned (.tuple #[]) ∧ R W w' ∧ ∃ S, Chg S W w' ∧ ∀ j, w.heap.size ≤ j → ¬ S j)
    (up : ∀ W w' w'', Below w.heap.size w W → w.heap.size < W.heap.size → R W w' → Chg (fun j => j = w.heap.size) w' w'' → R w w'') :
    Calls Try.prog 27 #[.pointer (some ⟨p, 0, none⟩), .int .i64 4, .string key, .string val] w fun e w' => e = .returned (.tuple #[callV (.slice none 0 0) (actW c.num 4 n cc key ⟨#[]⟩) true, .int .i64 0]) ∧ R w w' := by
  have H := Lib.hid h
  have HT := Lib.hid hT
  have HR := Lib.hid (And.intro hr up)
  have HT01 := Lib.hid (And.intro hT0 hT1)
  have HM := Lib.hid (And.intro hT5 (And.intro hm hk))
  have c8 := h.cl.waits
  rw [hw] at c8
  have c7 := h.cl.vt
  rw [ht] at c7
  have hp := h.cl.blk.lt
  clear h hT hr up hT0 hT1 hT5 hm
  go_enter Try.func27, Try.ntmps27
  go_upto_region 9 with (fail)
  refine world_out (fun W hW => ?_)
  have BW : Hid (Below w.heap.size w W) := Lib.hid (by rw [hW]; exact (Below.refl _ _).alloc (Nat.le_refl _) _)
  have R1 : Hid (∃ Z, Blk W w.heap.size 102 Z ∧ Z.size = 13) := Lib.hid ⟨_, by rw [hW]; exact Blk.new w 102 _, rfl⟩
  have H1 := Lib.hid (H.out.keep BW.out)
  have T1 := Lib.hid (HT.out.below BW.out HT.out.lt)
  clear hW c8 c7
  go_cut [10] from 52 (ActR W (actOf c.num 4 n cc ⟨#[]⟩))
  case first =>
    have F : Hid (∀ v, Below W.heap.size W v → v.cell? ⟨p, 0, none⟩ = some (.int .i64 c.num) ∧ v.cell? ⟨p, 7, none⟩ = some (.pointer (some ⟨tb, 0, none⟩)) ∧ v.cell? ⟨tb, 0, none⟩ = some (.int .i64 n) ∧ v.cell? ⟨tb, 1, none⟩ = some (.int .i64 cc)) := Lib.hid (fun v hv => by
      have c7 := (H1.out.keep hv).cl.vt
      rw [ht] at c7
      have t := T1.out.below hv T1.out.lt
      exact ⟨(H1.out.keep hv).cl.num, c7, by rw [t.cell]; exact HT01.out.1, by rw [t.cell]; exact HT01.out.2⟩)
    have S0 := Lib.hid (F.out W (Below.refl _ _))
    have S1 := Lib.hid (F.out (W.alloc (.cells #[.int .i64 0, .int .i64 0, .int .i64 0, .int .i64 0, .string ⟨#[]⟩, .string ⟨#[]⟩, .bool false, .int .i64 0, .int .i64 0, .int .i64 0, .int .i64 0] 43)) ((Below.refl _ _).alloc (Nat.le_refl _) _))
    have S2 := Lib.hid (fun C : Array Value => F.out (putN (W.alloc (.cells #[.int .i64 0, .int .i64 0, .int .i64 0, .int .i64 0, .string ⟨#[]⟩, .string ⟨#[]⟩, .bool false, .int .i64 0, .int .i64 0, .int .i64 0, .int .i64 0] 43)).drew W.heap.size 0 C) (putN_below ((Below.refl _ _).alloc (Nat.le_refl _) _).drew (Nat.le_refl _) 0 C))
    have S0d := Lib.hid (F.out W.drew (Below.refl _ _).drew)
    have S1d := Lib.hid (F.out (W.alloc (.cells #[.int .i64 0, .int .i64 0, .int .i64 0, .int .i64 0, .string ⟨#[]⟩, .string ⟨#[]⟩, .bool false, .int .i64 0, .int .i64 0, .int .i64 0, .int .i64 0] 43)).drew ((Below.refl _ _).alloc (Nat.le_refl _) _).drew)
    have rm : RoomN 11 (W.alloc (.cells #[.int .i64 0, .int .i64 0, .int .i64 0, .int .i64 0, .string ⟨#[]⟩, .string ⟨#[]⟩, .bool false, .int .i64 0, .int .i64 0, .int .i64 0, .int .i64 0] 43)).drew W.heap.size 0 := roomN_new W 43 _ rfl
    have ac : CellsN 11 #[.int .i64 c.num, .int .i64 4, .int .i64 n, .int .i64 cc, .string ⟨#[]⟩, .string ⟨#[]⟩, .bool false, .int .i64 0, .int .i64 0, .int .i64 0, .int .i64 0] := ⟨rfl, by simp [Value.oneCell']⟩
    have EQ : Hid (#[.int .i64 c.num, .int .i64 4, .int .i64 n, .int .i64 cc, .string ⟨#[]⟩, .string ⟨#[]⟩, .bool false, .int .i64 0, .int .i64 0, .int .i64 0, .int .i64 0] = (actOf c.num 4 n cc ⟨#[]⟩).cs) := Lib.hid (by simp [actOf, zeroAct, ActV.cs])
    have PF : Hid (∀ C : Array Value, C.size = 11 → Blk (putN (W.alloc (.cells #[.int .i64 0, .int .i64 0, .int .i64 0, .int .i64 0, .string ⟨#[]⟩, .string ⟨#[]⟩, .bool false, .int .i64 0, .int .i64 0, .int .i64 0, .int .i64 0] 43)).drew W.heap.size 0 C) W.heap.size 43 C ∧ Below W.heap.size W (putN (W.alloc (.cells #[.int .i64 0, .int .i64 0, .int .i64 0, .int .i64 0, .string ⟨#[]⟩, .string ⟨#[]⟩, .bool false, .int .i64 0, .int .i64 0, .int .i64 0, .int .i64 0] 43)).drew W.heap.size 0 C)) := Lib.hid (fun C hC => ⟨putN_fill (w := (W.alloc (.cells #[.int .i64 0, .int .i64 0, .int .i64 0, .int .i64 0, .string ⟨#[]⟩, .string ⟨#[]⟩, .bool false, .int .i64 0, .int .i64 0, .int .i64 0, .int .i64 0] 43)).drew) (Blk.new W 43 _).drew (by rw [hC]; rfl), putN_below ((Below.refl _ _).alloc (Nat.le_refl _) _).drew (Nat.le_refl _) 0 C⟩)
    go_region_held3 (fun v => v.cell? ⟨p, 0, none⟩ = some (.int .i64 c.num) ∧ v.cell? ⟨p, 7, none⟩ = some (.pointer (some ⟨tb, 0, none⟩)) ∧ v.cell? ⟨tb, 0, none⟩ = some (.int .i64 n) ∧ v.cell? ⟨tb, 1, none⟩ = some (.int .i64 cc)) (first | with_reducible exact S0.out | with_reducible exact S0d.out | with_reducible exact S1.out | with_reducible exact S1d.out | with_reducible exact S2.out _) (fail)
    all_goals
      go_wp2_with fail
      go_meet
      case rel => exact ⟨W.heap.size, rfl, Nat.le_refl _, by rw [← EQ.out]; exact (PF.out _ rfl).1, (PF.out _ rfl).2⟩
  case rest =>
    obtain ⟨ab, rfl, hab, hA, hBW⟩ := hcut
    have B2 : Hid (Below w.heap.size w wc) := Lib.hid (BW.out.trans (hBW.mono BW.out.size))
    have R2 : Hid (∃ Z, Blk wc w.heap.size 102 Z ∧ Z.size = 13) := Lib.hid (by obtain ⟨Z, h1, h2⟩ := R1.out; exact ⟨Z, h1.below hBW h1.lt, h2⟩)
    have hab1 : w.heap.size < ab := by obtain ⟨Z, h1, _⟩ := R1.out; have := h1.lt; omega
    have A2 := Lib.hid hA
    have n4 : wc.cell? ⟨ab, 4, none⟩ = some (.string ⟨#[]⟩) := by rw [hA.cell]; simp [ActV.cs, actOf, zeroAct]
    have f4 := hA.frozen 4
    clear hA hBW R1 H1 T1 BW
    go_upto_region 13 with (fail)
    refine world_out (fun V hV => ?_)
    have B3 : Hid (Below w.heap.size w V) := Lib.hid (by rw [hV]; exact B2.out.setCell (p := ⟨ab, 4, none⟩) (Nat.le_of_lt hab1) _)
    have R3 : Hid (∃ Z, Blk V w.heap.size 102 Z ∧ Z.size = 13) := Lib.hid (by obtain ⟨Z, h1, h2⟩ := R2.out; rw [hV]; exact ⟨Z, h1.far (p := ⟨ab, 4, none⟩) (Nat.ne_of_lt hab1) _, h2⟩)
    have A3 : Hid (Blk V ab 43 (actOf c.num 4 n cc key).cs) := Lib.hid (by
      have h := A2.out.set_ 4 (.string key)
      rw [hV]
      have e : ((actOf c.num 4 n cc ⟨#[]⟩).cs.setIfInBounds 4 (.string key)) = (actOf c.num 4 n cc key).cs := by simp [ActV.cs, actOf, zeroAct]
      rw [e] at h
      exact h)
    have H3 := Lib.hid (H.out.keep B3.out)
    have v2 := H3.out.cl.dir
    have KY := Lib.hid (key_any' c.D key)
    clear hV n4 f4 A2 R2 B2
    rw [HM.out.2.2] at KY
    have v7 := H3.out.cl.vt
    rw [ht] at v7
    have t5 : V.cell? ⟨tb, 5, none⟩ = some (.map (some m2)) := by rw [(HT.out.below B3.out HT.out.lt).cell]; exact HM.out.1
    have lk := HM.out.2.1 V B3.out
    have HC0 := Lib.hid (HR.out.1 V B3.out)
    go_upto_region 23 with (go_at_call 43; refine (KY.out _).mono ?_; rintro e w' ⟨rfl, rfl⟩)
    obtain ⟨g1, g2⟩ := blkN_has (n := 11) A3.out rfl
    obtain ⟨Z, hZ, hzs⟩ := R3.out
    have lw := hZ.lt
    have A4 : Hid (Blk _ ab 43 (actW c.num 4 n cc key ⟨#[]⟩).cs) := A3
    clear g1 g2 A3
    obtain ⟨AA, hAA⟩ : ∃ AA, AA = actW c.num 4 n cc key ⟨#[]⟩ := ⟨_, rfl⟩
    rw [← hAA] at A4 HC0
    have A3 := A4
    obtain ⟨g1, g2⟩ := blkN_has A3.out AA.cells.1
    have EAA := Lib.hid hAA
    clear hAA
    go_upto_region 24 with (go_at_call 28; go_loud (refine HC0.out.mono ?_; rintro e w9 ⟨rfl, hL, hS⟩; have HL := Lib.hid hL; have HS := Lib.hid hS; clear hL hS))
    have hZ9 : Blk w9 w.heap.size 102 Z := Exists.elim HS.out (fun S hS => hZ.chg hS.1 (hS.2 _ (Nat.le_refl _)))
    have A9 : Blk w9 ab 43 AA.cs := Exists.elim HS.out (fun S hS => A3.out.chg hS.1 (hS.2 _ (Nat.le_of_lt hab1)))
    have rm : RoomN 13 w9 w.heap.size 0 := blkN_room hZ9 hzs
    have g3 : HasN 11 w9 ab 0 := (blkN_has A9 AA.cells.1).1
    have g4 : valN 11 w9 ab 0 = #[.int .i64 AA.who, .int .i64 AA.call, .int .i64 AA.n, .int .i64 AA.c, .string AA.key, .string AA.value, .bool AA.found, .int .i64 AA.code, .int .i64 AA.stamp, .int .i64 AA.from_, .int .i64 AA.to] := by rw [(blkN_has A9 AA.cells.1).2, ActV.cs_eq]
    have cw : CellsN 13 #[.slice none 0 0, .int .i64 AA.who, .int .i64 AA.call, .int .i64 AA.n, .int .i64 AA.c, .string AA.key, .string AA.value, .bool AA.found, .int .i64 AA.code, .int .i64 AA.stamp, .int .i64 AA.from_, .int .i64 AA.to, .bool true] := ⟨rfl, by simp [Value.oneCell']⟩
    have EV : Hid (callV (.slice none 0 0) AA true = .agg #[.slice none 0 0, .int .i64 AA.who, .int .i64 AA.call, .int .i64 AA.n, .int .i64 AA.c, .string AA.key, .string AA.value, .bool AA.found, .int .i64 AA.code, .int .i64 AA.stamp, .int .i64 AA.from_, .int .i64 AA.to, .bool true]) := Lib.hid (by simp [callV, ActV.cs])
    clear g1 g2
    go_wp2_with fail
    generalize (#[.slice none 0 0, .int .i64 AA.who, .int .i64 AA.call, .int .i64 AA.n, .int .i64 AA.c, .string AA.key, .string AA.value, .bool AA.found, .int .i64 AA.code, .int .i64 AA.stamp, .int .i64 AA.from_, .int .i64 AA.to, .bool true] : Array Value) = C at cw EV ⊢
    have RF : Hid (Blk (putN w9 w.heap.size 0 C) w.heap.size 102 C) := Lib.hid (putN_fill hZ9 (hzs.trans cw.1.symm))
    have LF := Lib.hid (HR.out.2 _ _ _ B3.out lw HL.out (putN_chg (S := fun j => j = w.heap.size) (Chg.refl _ w9) (.inr rfl) 0 C))
    have hl := load_call cw.1 RF.out.range
    exact bodyPost_ret (v := .tuple #[.agg C, .int .i64 0]) (by simp [results, Try.results27, asAddr, hl]) rfl ⟨by rw [← EAA.out, EV.out], LF.out⟩
end Go.Proofs.Ytpaihfdmjkfegaa.Cl

/- does, over what its callee hands back: walked (printed by does_mk.py). -/
namespace Go.Proofs.Ytpaihfdmjkfegaa.Cl
open Go.RowKit Go.Lib Go.Maps Go.Proofs.Ytpaihfdmjkfegaa.MapF Go.Proofs.Ytpaihfdmjkfegaa.Msg Go.Proofs.Ytpaihfdmjkfegaa.Cls Go.Proofs.Ytpaihfdmjkfegaa.Ck

attribute [local go_sem ↓] loadAct_eq storeAct_eq storeCall_eq loadCall_eq
attribute [local go_sem] run_loadAct run_storeAct run_storeCall run_loadCall


set_option maxRecDepth 100000 in
set_option maxHeartbeats 4000000 in
theorem does_ask (lo p : Nat) (c : Client) (ob oc gb gc g q : Nat) (L : List Ent) (gs : List Nat) (sp : List ByteArray) (w : World) (h : CliAt lo w p c ob oc gb gc g q L gs sp) (tb : Nat) (T : Array Value) (n cc : Int) (key val : ByteArray)
    (ht : c.vt = .pointer (some ⟨tb, 0, none⟩)) (hw : c.waits = false) (hT : Blk w tb 110 T) (hT0 : T[0]? = some (.int .i64 n)) (hT1 : T[1]? = some (.int .i64 cc)) (hk : keyB key = true) (R : World → World → Option Addr → Nat → Nat → ActV → Bool → Int → Prop)
    (hr : ∀ W, Below w.heap.size w W → Calls Try.prog 44 #[.pointer (some ⟨p, 0, none⟩), .agg (actOf c.num 2 n cc key).cs] W fun e w' => ∃ A m cap a d er, e = .returned (.tuple #[callV (.slice A m cap) a d, .int .i64 er]) ∧ R W w' A m cap a d er ∧ ∃ S, Chg S W w' ∧ ¬ S w.heap.size)
    (up : ∀ W w' w'' A m cap a d er, Below w.heap.size w W → w.heap.size < W.heap.size → R W w' A m cap a d er → Chg (fun j => j = w.heap.size) w' w'' → R w w'' A m cap a d er) :
    Calls Try.prog 27 #[.pointer (some ⟨p, 0, none⟩), .int .i64 2, .string key, .string val] w fun e w' => ∃ A m cap a d er, e = .returned (.tuple #[callV (.slice A m cap) a d, .int .i64 er]) ∧ R w w' A m cap a d er := by
  have H := Lib.hid h
  have HT := Lib.hid hT
  have HR := Lib.hid (And.intro hr up)
  have HT01 := Lib.hid (And.intro hT0 hT1)
  have HM := Lib.hid hk
  have c8 := h.cl.waits
  rw [hw] at c8
  have c7 := h.cl.vt
  rw [ht] at c7
  have hp := h.cl.blk.lt
  clear h hT hr up hT0 hT1
  go_enter Try.func27, Try.ntmps27
  go_upto_region 9 with (fail)
  refine world_out (fun W hW => ?_)
  have BW : Hid (Below w.heap.size w W) := Lib.hid (by rw [hW]; exact (Below.refl _ _).alloc (Nat.le_refl _) _)
  have R1 : Hid (∃ Z, Blk W w.heap.size 102 Z ∧ Z.size = 13) := Lib.hid ⟨_, by rw [hW]; exact Blk.new w 102 _, rfl⟩
  have H1 := Lib.hid (H.out.keep BW.out)
  have T1 := Lib.hid (HT.out.below BW.out HT.out.lt)
  clear hW c8 c7
  go_cut [10] from 52 (ActR W (actOf c.num 2 n cc ⟨#[]⟩))
  case first =>
    have F : Hid (∀ v, Below W.heap.size W v → v.cell? ⟨p, 0, none⟩ = some (.int .i64 c.num) ∧ v.cell? ⟨p, 7, none⟩ = some (.pointer (some ⟨tb, 0, none⟩)) ∧ v.cell? ⟨tb, 0, none⟩ = some (.int .i64 n) ∧ v.cell? ⟨tb, 1, none⟩ = some (.int .i64 cc)) := Lib.hid (fun v hv => by
      have c7 := (H1.out.keep hv).cl.vt
      rw [ht] at c7
      have t := T1.out.below hv T1.out.lt
      exact ⟨(H1.out.keep hv).cl.num, c7, by rw [t.cell]; exact HT01.out.1, by rw [t.cell]; exact HT01.out.2⟩)
    have S0 := Lib.hid (F.out W (Below.refl _ _))
    have S1 := Lib.hid (F.out (W.alloc (.cells #[.int .i64 0, .int .i64 0, .int .i64 0, .int .i64 0, .string ⟨#[]⟩, .string ⟨#[]⟩, .bool false, .int .i64 0, .int .i64 0, .int .i64 0, .int .i64 0] 43)) ((Below.refl _ _).alloc (Nat.le_refl _) _))
    have S2 := Lib.hid (fun C : Array Value => F.out (putN (W.alloc (.cells #[.int .i64 0, .int .i64 0, .int .i64 0, .int .i64 0, .string ⟨#[]⟩, .string ⟨#[]⟩, .bool false, .int .i64 0, .int .i64 0, .int .i64 0, .int .i64 0] 43)).drew W.heap.size 0 C) (putN_below ((Below.refl _ _).alloc (Nat.le_refl _) _).drew (Nat.le_refl _) 0 C))
    have S0d := Lib.hid (F.out W.drew (Below.refl _ _).drew)
    have S1d := Lib.hid (F.out (W.alloc (.cells #[.int .i64 0, .int .i64 0, .int .i64 0, .int .i64 0, .string ⟨#[]⟩, .string ⟨#[]⟩, .bool false, .int .i64 0, .int .i64 0, .int .i64 0, .int .i64 0] 43)).drew ((Below.refl _ _).alloc (Nat.le_refl _) _).drew)
    have rm : RoomN 11 (W.alloc (.cells #[.int .i64 0, .int .i64 0, .int .i64 0, .int .i64 0, .string ⟨#[]⟩, .string ⟨#[]⟩, .bool false, .int .i64 0, .int .i64 0, .int .i64 0, .int .i64 0] 43)).drew W.heap.size 0 := roomN_new W 43 _ rfl
    have ac : CellsN 11 #[.int .i64 c.num, .int .i64 2, .int .i64 n, .int .i64 cc, .string ⟨#[]⟩, .string ⟨#[]⟩, .bool false, .int .i64 0, .int .i64 0, .int .i64 0, .int .i64 0] := ⟨rfl, by simp [Value.oneCell']⟩
    have EQ : Hid (#[.int .i64 c.num, .int .i64 2, .int .i64 n, .int .i64 cc, .string ⟨#[]⟩, .string ⟨#[]⟩, .bool false, .int .i64 0, .int .i64 0, .int .i64 0, .int .i64 0] = (actOf c.num 2 n cc ⟨#[]⟩).cs) := Lib.hid (by simp [actOf, zeroAct, ActV.cs])
    have PF : Hid (∀ C : Array Value, C.size = 11 → Blk (putN (W.alloc (.cells #[.int .i64 0, .int .i64 0, .int .i64 0, .int .i64 0, .string ⟨#[]⟩, .string ⟨#[]⟩, .bool false, .int .i64 0, .int .i64 0, .int .i64 0, .int .i64 0] 43)).drew W.heap.size 0 C) W.heap.size 43 C ∧ Below W.heap.size W (putN (W.alloc (.cells #[.int .i64 0, .int .i64 0, .int .i64 0, .int .i64 0, .string ⟨#[]⟩, .string ⟨#[]⟩, .bool false, .int .i64 0, .int .i64 0, .int .i64 0, .int .i64 0] 43)).drew W.heap.size 0 C)) := Lib.hid (fun C hC => ⟨putN_fill (w := (W.alloc (.cells #[.int .i64 0, .int .i64 0, .int .i64 0, .int .i64 0, .string ⟨#[]⟩, .string ⟨#[]⟩, .bool false, .int .i64 0, .int .i64 0, .int .i64 0, .int .i64 0] 43)).drew) (Blk.new W 43 _).drew (by rw [hC]; rfl), putN_below ((Below.refl _ _).alloc (Nat.le_refl _) _).drew (Nat.le_refl _) 0 C⟩)
    go_region_held3 (fun v => v.cell? ⟨p, 0, none⟩ = some (.int .i64 c.num) ∧ v.cell? ⟨p, 7, none⟩ = some (.pointer (some ⟨tb, 0, none⟩)) ∧ v.cell? ⟨tb, 0, none⟩ = some (.int .i64 n) ∧ v.cell? ⟨tb, 1, none⟩ = some (.int .i64 cc)) (first | with_reducible exact S0.out | with_reducible exact S0d.out | with_reducible exact S1.out | with_reducible exact S1d.out | with_reducible exact S2.out _) (fail)
    all_goals
      go_wp2_with fail
      go_meet
      case rel => exact ⟨W.heap.size, rfl, Nat.le_refl _, by rw [← EQ.out]; exact (PF.out _ rfl).1, (PF.out _ rfl).2⟩
  case rest =>
    obtain ⟨ab, rfl, hab, hA, hBW⟩ := hcut
    have B2 : Hid (Below w.heap.size w wc) := Lib.hid (BW.out.trans (hBW.mono BW.out.size))
    have R2 : Hid (∃ Z, Blk wc w.heap.size 102 Z ∧ Z.size = 13) := Lib.hid (by obtain ⟨Z, h1, h2⟩ := R1.out; exact ⟨Z, h1.below hBW h1.lt, h2⟩)
    have hab1 : w.heap.size < ab := by obtain ⟨Z, h1, _⟩ := R1.out; have := h1.lt; omega
    have A2 := Lib.hid hA
    have n4 : wc.cell? ⟨ab, 4, none⟩ = some (.string ⟨#[]⟩) := by rw [hA.cell]; simp [ActV.cs, actOf, zeroAct]
    have f4 := hA.frozen 4
    clear hA hBW R1 H1 T1 BW
    go_upto_region 13 with (fail)
    refine world_out (fun V hV => ?_)
    have B3 : Hid (Below w.heap.size w V) := Lib.hid (by rw [hV]; exact B2.out.setCell (p := ⟨ab, 4, none⟩) (Nat.le_of_lt hab1) _)
    have R3 : Hid (∃ Z, Blk V w.heap.size 102 Z ∧ Z.size = 13) := Lib.hid (by obtain ⟨Z, h1, h2⟩ := R2.out; rw [hV]; exact ⟨Z, h1.far (p := ⟨ab, 4, none⟩) (Nat.ne_of_lt hab1) _, h2⟩)
    have A3 : Hid (Blk V ab 43 (actOf c.num 2 n cc key).cs) := Lib.hid (by
      have h := A2.out.set_ 4 (.string key)
      rw [hV]
      have e : ((actOf c.num 2 n cc ⟨#[]⟩).cs.setIfInBounds 4 (.string key)) = (actOf c.num 2 n cc key).cs := by simp [ActV.cs, actOf, zeroAct]
      rw [e] at h
      exact h)
    have H3 := Lib.hid (H.out.keep B3.out)
    have v2 := H3.out.cl.dir
    have KY := Lib.hid (key_any' c.D key)
    clear hV n4 f4 A2 R2 B2
    rw [HM.out] at KY
    have HC0 := Lib.hid (HR.out.1 V B3.out)
    go_upto_region 21 with (go_at_call 43; refine (KY.out _).mono ?_; rintro e w' ⟨rfl, rfl⟩)
    obtain ⟨g1, g2⟩ := blkN_has (n := 11) A3.out rfl
    obtain ⟨Z, hZ, hzs⟩ := R3.out
    go_wp2_with (go_at_call 44; go_loud (refine HC0.out.mono ?_; rintro e w9 ⟨A, m, cap, a, d, er, rfl, hL, hS⟩; have HL := Lib.hid hL; have hZ9 : Blk w9 w.heap.size 102 Z := Exists.elim hS (fun S hS => hZ.chg hS.1 hS.2); have rm := blkN_room hZ9 hzs; obtain ⟨C, hC, hcc⟩ := callV_ok A m cap a d; rw [hC]; have HC := Lib.hid hC; clear hL hC hS))
    have RF : Hid (Blk (putN w9 w.heap.size 0 C) w.heap.size 102 C) := Lib.hid (putN_fill hZ9 (hzs.trans hcc.1.symm))
    have LF := Lib.hid (HR.out.2 _ _ _ _ _ _ _ _ _ B3.out hZ.lt HL.out (putN_chg (S := fun j => j = w.heap.size) (Chg.refl _ w9) (.inr rfl) 0 C))
    have hl := load_call hcc.1 RF.out.range
    exact bodyPost_ret (v := .tuple #[.agg C, .int .i64 er]) (by simp [results, Try.results27, asAddr, hl]) rfl ⟨A, m, cap, a, d, er, by rw [HC.out], LF.out⟩

set_option maxRecDepth 100000 in
set_option maxHeartbeats 4000000 in
theorem does_badr (lo p : Nat) (c : Client) (ob oc gb gc g q : Nat) (L : List Ent) (gs : List Nat) (sp : List ByteArray) (w : World) (h : CliAt lo w p c ob oc gb gc g q L gs sp) (tb : Nat) (T : Array Value) (n cc : Int) (key val : ByteArray)
    (ht : c.vt = .pointer (some ⟨tb, 0, none⟩)) (hw : c.waits = false) (hT : Blk w tb 110 T) (hT0 : T[0]? = some (.int .i64 n)) (hT1 : T[1]? = some (.int .i64 cc)) (hk : keyB key = false) :
    Calls Try.prog 27 #[.pointer (some ⟨p, 0, none⟩), .int .i64 2, .string key, .string val] w fun e w' => e = .returned (.tuple #[callV (.slice none 0 0) zeroAct false, .int .i64 120]) ∧ Below w.heap.size w w' := by
  have H := Lib.hid h
  have HT := Lib.hid hT
  have HT01 := Lib.hid (And.intro hT0 hT1)
  have HM := Lib.hid hk
  have c8 := h.cl.waits
  rw [hw] at c8
  have c7 := h.cl.vt
  rw [ht] at c7
  have hp := h.cl.blk.lt
  clear h hT hT0 hT1
  go_enter Try.func27, Try.ntmps27
  go_upto_region 9 with (fail)
  refine world_out (fun W hW => ?_)
  have BW : Hid (Below w.heap.size w W) := Lib.hid (by rw [hW]; exact (Below.refl _ _).alloc (Nat.le_refl _) _)
  have R1 : Hid (∃ Z, Blk W w.heap.size 102 Z ∧ Z.size = 13) := Lib.hid ⟨_, by rw [hW]; exact Blk.new w 102 _, rfl⟩
  have H1 := Lib.hid (H.out.keep BW.out)
  have T1 := Lib.hid (HT.out.below BW.out HT.out.lt)
  clear hW c8 c7
  go_cut [10] from 52 (ActR W (actOf c.num 2 n cc ⟨#[]⟩))
  case first =>
    have F : Hid (∀ v, Below W.heap.size W v → v.cell? ⟨p, 0, none⟩ = some (.int .i64 c.num) ∧ v.cell? ⟨p, 7, none⟩ = some (.pointer (some ⟨tb, 0, none⟩)) ∧ v.cell? ⟨tb, 0, none⟩ = some (.int .i64 n) ∧ v.cell? ⟨tb, 1, none⟩ = some (.int .i64 cc)) := Lib.hid (fun v hv => by
      have c7 := (H1.out.keep hv).cl.vt
      rw [ht] at c7
      have t := T1.out.below hv T1.out.lt
      exact ⟨(H1.out.keep hv).cl.num, c7, by rw [t.cell]; exact HT01.out.1, by rw [t.cell]; exact HT01.out.2⟩)
    have S0 := Lib.hid (F.out W (Below.refl _ _))
    have S1 := Lib.hid (F.out (W.alloc (.cells #[.int .i64 0, .int .i64 0, .int .i64 0, .int .i64 0, .string ⟨#[]⟩, .string ⟨#[]⟩, .bool false, .int .i64 0, .int .i64 0, .int .i64 0, .int .i64 0] 43)) ((Below.refl _ _).alloc (Nat.le_refl _) _))
    have S2 := Lib.hid (fun C : Array Value => F.out (putN (W.alloc (.cells #[.int .i64 0, .int .i64 0, .int .i64 0, .int .i64 0, .string ⟨#[]⟩, .string ⟨#[]⟩, .bool false, .int .i64 0, .int .i64 0, .int .i64 0, .int .i64 0] 43)).drew W.heap.size 0 C) (putN_below ((Below.refl _ _).alloc (Nat.le_refl _) _).drew (Nat.le_refl _) 0 C))
    have S0d := Lib.hid (F.out W.drew (Below.refl _ _).drew)
    have S1d := Lib.hid (F.out (W.alloc (.cells #[.int .i64 0, .int .i64 0, .int .i64 0, .int .i64 0, .string ⟨#[]⟩, .string ⟨#[]⟩, .bool false, .int .i64 0, .int .i64 0, .int .i64 0, .int .i64 0] 43)).drew ((Below.refl _ _).alloc (Nat.le_refl _) _).drew)
    have rm : RoomN 11 (W.alloc (.cells #[.int .i64 0, .int .i64 0, .int .i64 0, .int .i64 0, .string ⟨#[]⟩, .string ⟨#[]⟩, .bool false, .int .i64 0, .int .i64 0, .int .i64 0, .int .i64 0] 43)).drew W.heap.size 0 := roomN_new W 43 _ rfl
    have ac : CellsN 11 #[.int .i64 c.num, .int .i64 2, .int .i64 n, .int .i64 cc, .string ⟨#[]⟩, .string ⟨#[]⟩, .bool false, .int .i64 0, .int .i64 0, .int .i64 0, .int .i64 0] := ⟨rfl, by simp [Value.oneCell']⟩
    have EQ : Hid (#[.int .i64 c.num, .int .i64 2, .int .i64 n, .int .i64 cc, .string ⟨#[]⟩, .string ⟨#[]⟩, .bool false, .int .i64 0, .int .i64 0, .int .i64 0, .int .i64 0] = (actOf c.num 2 n cc ⟨#[]⟩).cs) := Lib.hid (by simp [actOf, zeroAct, ActV.cs])
    have PF : Hid (∀ C : Array Value, C.size = 11 → Blk (putN (W.alloc (.cells #[.int .i64 0, .int .i64 0, .int .i64 0, .int .i64 0, .string ⟨#[]⟩, .string ⟨#[]⟩, .bool false, .int .i64 0, .int .i64 0, .int .i64 0, .int .i64 0] 43)).drew W.heap.size 0 C) W.heap.size 43 C ∧ Below W.heap.size W (putN (W.alloc (.cells #[.int .i64 0, .int .i64 0, .int .i64 0, .int .i64 0, .string ⟨#[]⟩, .string ⟨#[]⟩, .bool false, .int .i64 0, .int .i64 0, .int .i64 0, .int .i64 0] 43)).drew W.heap.size 0 C)) := Lib.hid (fun C hC => ⟨putN_fill (w := (W.alloc (.cells #[.int .i64 0, .int .i64 0, .int .i64 0, .int .i64 0, .string ⟨#[]⟩, .string ⟨#[]⟩, .bool false, .int .i64 0, .int .i64 0, .int .i64 0, .int .i64 0] 43)).drew) (Blk.new W 43 _).drew (by rw [hC]; rfl), putN_below ((Below.refl _ _).alloc (Nat.le_refl _) _).drew (Nat.le_refl _) 0 C⟩)
    go_region_held3 (fun v => v.cell? ⟨p, 0, none⟩ = some (.int .i64 c.num) ∧ v.cell? ⟨p, 7, none⟩ = some (.pointer (some ⟨tb, 0, none⟩)) ∧ v.cell? ⟨tb, 0, none⟩ = some (.int .i64 n) ∧ v.cell? ⟨tb, 1, none⟩ = some (.int .i64 cc)) (first | with_reducible exact S0.out | with_reducible exact S0d.out | with_reducible exact S1.out | with_reducible exact S1d.out | with_reducible exact S2.out _) (fail)
    all_goals
      go_wp2_with fail
      go_meet
      case rel => exact ⟨W.heap.size, rfl, Nat.le_refl _, by rw [← EQ.out]; exact (PF.out _ rfl).1, (PF.out _ rfl).2⟩
  case rest =>
    obtain ⟨ab, rfl, hab, hA, hBW⟩ := hcut
    have B2 : Hid (Below w.heap.size w wc) := Lib.hid (BW.out.trans (hBW.mono BW.out.size))
    have R2 : Hid (∃ Z, Blk wc w.heap.size 102 Z ∧ Z.size = 13) := Lib.hid (by obtain ⟨Z, h1, h2⟩ := R1.out; exact ⟨Z, h1.below hBW h1.lt, h2⟩)
    have hab1 : w.heap.size < ab := by obtain ⟨Z, h1, _⟩ := R1.out; have := h1.lt; omega
    have A2 := Lib.hid hA
    have n4 : wc.cell? ⟨ab, 4, none⟩ = some (.string ⟨#[]⟩) := by rw [hA.cell]; simp [ActV.cs, actOf, zeroAct]
    have f4 := hA.frozen 4
    clear hA hBW R1 H1 T1 BW
    go_upto_region 13 with (fail)
    refine world_out (fun V hV => ?_)
    have B3 : Hid (Below w.heap.size w V) := Lib.hid (by rw [hV]; exact B2.out.setCell (p := ⟨ab, 4, none⟩) (Nat.le_of_lt hab1) _)
    have R3 : Hid (∃ Z, Blk V w.heap.size 102 Z ∧ Z.size = 13) := Lib.hid (by obtain ⟨Z, h1, h2⟩ := R2.out; rw [hV]; exact ⟨Z, h1.far (p := ⟨ab, 4, none⟩) (Nat.ne_of_lt hab1) _, h2⟩)
    have A3 : Hid (Blk V ab 43 (actOf c.num 2 n cc key).cs) := Lib.hid (by
      have h := A2.out.set_ 4 (.string key)
      rw [hV]
      have e : ((actOf c.num 2 n cc ⟨#[]⟩).cs.setIfInBounds 4 (.string key)) = (actOf c.num 2 n cc key).cs := by simp [ActV.cs, actOf, zeroAct]
      rw [e] at h
      exact h)
    have H3 := Lib.hid (H.out.keep B3.out)
    have v2 := H3.out.cl.dir
    have KY := Lib.hid (key_any' c.D key)
    clear hV n4 f4 A2 R2 B2
    rw [HM.out] at KY
    obtain ⟨Z, hZ, hzs⟩ := R3.out
    have rm := blkN_room (n := 13) hZ hzs
    have cz : CellsN 13 #[.slice none 0 0, .int .i64 0, .int .i64 0, .int .i64 0, .int .i64 0, .string ⟨#[]⟩, .string ⟨#[]⟩, .bool false, .int .i64 0, .int .i64 0, .int .i64 0, .int .i64 0, .bool false] := ⟨rfl, by simp [Value.oneCell']⟩
    have CV : Hid (callV (.slice none 0 0) zeroAct false = .agg #[.slice none 0 0, .int .i64 0, .int .i64 0, .int .i64 0, .int .i64 0, .string ⟨#[]⟩, .string ⟨#[]⟩, .bool false, .int .i64 0, .int .i64 0, .int .i64 0, .int .i64 0, .bool false]) := Lib.hid (by simp [callV, zeroAct, ActV.cs])
    go_wp2_with (go_at_call 43; refine (KY.out _).mono ?_; rintro e w' ⟨rfl, rfl⟩)
    generalize (#[.slice none 0 0, .int .i64 0, .int .i64 0, .int .i64 0, .int .i64 0, .string ⟨#[]⟩, .string ⟨#[]⟩, .bool false, .int .i64 0, .int .i64 0, .int .i64 0, .int .i64 0, .bool false] : Array Value) = C at cz CV ⊢
    have RF : Hid (Blk (putN w' w.heap.size 0 C) w.heap.size 102 C) := Lib.hid (putN_fill hZ (hzs.trans cz.1.symm))
    have hl := load_call cz.1 RF.out.range
    exact bodyPost_ret (v := .tuple #[.agg C, .int .i64 120]) (by simp [results, Try.results27, asAddr, hl]) rfl ⟨by rw [CV.out], putN_below B3.out (Nat.le_refl _) 0 C⟩

set_option maxRecDepth 100000 in
set_option maxHeartbeats 4000000 in
theorem does_badw (lo p : Nat) (c : Client) (ob oc gb gc g q : Nat) (L : List Ent) (gs : List Nat) (sp : List ByteArray) (w : World) (h : CliAt lo w p c ob oc gb gc g q L gs sp) (tb : Nat) (T : Array Value) (n cc : Int) (key val : ByteArray)
    (ht : c.vt = .pointer (some ⟨tb, 0, none⟩)) (hw : c.waits = false) (hT : Blk w tb 110 T) (hT0 : T[0]? = some (.int .i64 n)) (hT1 : T[1]? = some (.int .i64 cc)) (hk : keyB key = false) :
    Calls Try.prog 27 #[.pointer (some ⟨p, 0, none⟩), .int .i64 3, .string key, .string val] w fun e w' => e = .returned (.tuple #[callV (.slice none 0 0) zeroAct false, .int .i64 120]) ∧ Below w.heap.size w w' := by
  have H := Lib.hid h
  have HT := Lib.hid hT
  have HT01 := Lib.hid (And.intro hT0 hT1)
  have HM := Lib.hid hk
  have c8 := h.cl.waits
  rw [hw] at c8
  have c7 := h.cl.vt
  rw [ht] at c7
  have hp := h.cl.blk.lt
  clear h hT hT0 hT1
  go_enter Try.func27, Try.ntmps27
  go_upto_region 9 with (fail)
  refine world_out (fun W hW => ?_)
  have BW : Hid (Below w.heap.size w W) := Lib.hid (by rw [hW]; exact (Below.refl _ _).alloc (Nat.le_refl _) _)
  have R1 : Hid (∃ Z, Blk W w.heap.size 102 Z ∧ Z.size = 13) := Lib.hid ⟨_, by rw [hW]; exact Blk.new w 102 _, rfl⟩
  have H1 := Lib.hid (H.out.keep BW.out)
  have T1 := Lib.hid (HT.out.below BW.out HT.out.lt)
  clear hW c8 c7
  go_cut [10] from 52 (ActR W (actOf c.num 3 n cc ⟨#[]⟩))
  case first =>
    have F : Hid (∀ v, Below W.heap.size W v → v.cell? ⟨p, 0, none⟩ = some (.int .i64 c.num) ∧ v.cell? ⟨p, 7, none⟩ = some (.pointer (some ⟨tb, 0, none⟩)) ∧ v.cell? ⟨tb, 0, none⟩ = some (.int .i64 n) ∧ v.cell? ⟨tb, 1, none⟩ = some (.int .i64 cc)) := Lib.hid (fun v hv => by
      have c7 := (H1.out.keep hv).cl.vt
      rw [ht] at c7
      have t := T1.out.below hv T1.out.lt
      exact ⟨(H1.out.keep hv).cl.num, c7, by rw [t.cell]; exact HT01.out.1, by rw [t.cell]; exact HT01.out.2⟩)
    have S0 := Lib.hid (F.out W (Below.refl _ _))
    have S1 := Lib.hid (F.out (W.alloc (.cells #[.int .i64 0, .int .i64 0, .int .i64 0, .int .i64 0, .string ⟨#[]⟩, .string ⟨#[]⟩, .bool false, .int .i64 0, .int .i64 0, .int .i64 0, .int .i64 0] 43)) ((Below.refl _ _).alloc (Nat.le_refl _) _))
    have S2 := Lib.hid (fun C : Array Value => F.out (putN (W.alloc (.cells #[.int .i64 0, .int .i64 0, .int .i64 0, .int .i64 0, .string ⟨#[]⟩, .string ⟨#[]⟩, .bool false, .int .i64 0, .int .i64 0, .int .i64 0, .int .i64 0] 43)).drew W.heap.size 0 C) (putN_below ((Below.refl _ _).alloc (Nat.le_refl _) _).drew (Nat.le_refl _) 0 C))
    have S0d := Lib.hid (F.out W.drew (Below.refl _ _).drew)
    have S1d := Lib.hid (F.out (W.alloc (.cells #[.int .i64 0, .int .i64 0, .int .i64 0, .int .i64 0, .string ⟨#[]⟩, .string ⟨#[]⟩, .bool false, .int .i64 0, .int .i64 0, .int .i64 0, .int .i64 0] 43)).drew ((Below.refl _ _).alloc (Nat.le_refl _) _).drew)
    have rm : RoomN 11 (W.alloc (.cells #[.int .i64 0, .int .i64 0, .int .i64 0, .int .i64 0, .string ⟨#[]⟩, .string ⟨#[]⟩, .bool false, .int .i64 0, .int .i64 0, .int .i64 0, .int .i64 0] 43)).drew W.heap.size 0 := roomN_new W 43 _ rfl
    have ac : CellsN 11 #[.int .i64 c.num, .int .i64 3, .int .i64 n, .int .i64 cc, .string ⟨#[]⟩, .string ⟨#[]⟩, .bool false, .int .i64 0, .int .i64 0, .int .i64 0, .int .i64 0] := ⟨rfl, by simp [Value.oneCell']⟩
    have EQ : Hid (#[.int .i64 c.num, .int .i64 3, .int .i64 n, .int .i64 cc, .string ⟨#[]⟩, .string ⟨#[]⟩, .bool false, .int .i64 0, .int .i64 0, .int .i64 0, .int .i64 0] = (actOf c.num 3 n cc ⟨#[]⟩).cs) := Lib.hid (by simp [actOf, zeroAct, ActV.cs])
    have PF : Hid (∀ C : Array Value, C.size = 11 → Blk (putN (W.alloc (.cells #[.int .i64 0, .int .i64 0, .int .i64 0, .int .i64 0, .string ⟨#[]⟩, .string ⟨#[]⟩, .bool false, .int .i64 0, .int .i64 0, .int .i64 0, .int .i64 0] 43)).drew W.heap.size 0 C) W.heap.size 43 C ∧ Below W.heap.size W (putN (W.alloc (.cells #[.int .i64 0, .int .i64 0, .int .i64 0, .int .i64 0, .string ⟨#[]⟩, .string ⟨#[]⟩, .bool false, .int .i64 0, .int .i64 0, .int .i64 0, .int .i64 0] 43)).drew W.heap.size 0 C)) := Lib.hid (fun C hC => ⟨putN_fill (w := (W.alloc (.cells #[.int .i64 0, .int .i64 0, .int .i64 0, .int .i64 0, .string ⟨#[]⟩, .string ⟨#[]⟩, .bool false, .int .i64 0, .int .i64 0, .int .i64 0, .int .i64 0] 43)).drew) (Blk.new W 43 _).drew (by rw [hC]; rfl), putN_below ((Below.refl _ _).alloc (Nat.le_refl _) _).drew (Nat.le_refl _) 0 C⟩)
    go_region_held3 (fun v => v.cell? ⟨p, 0, none⟩ = some (.int .i64 c.num) ∧ v.cell? ⟨p, 7, none⟩ = some (.pointer (some ⟨tb, 0, none⟩)) ∧ v.cell? ⟨tb, 0, none⟩ = some (.int .i64 n) ∧ v.cell? ⟨tb, 1, none⟩ = some (.int .i64 cc)) (first | with_reducible exact S0.out | with_reducible exact S0d.out | with_reducible exact S1.out | with_reducible exact S1d.out | with_reducible exact S2.out _) (fail)
    all_goals
      go_wp2_with fail
      go_meet
      case rel => exact ⟨W.heap.size, rfl, Nat.le_refl _, by rw [← EQ.out]; exact (PF.out _ rfl).1, (PF.out _ rfl).2⟩
  case rest =>
    obtain ⟨ab, rfl, hab, hA, hBW⟩ := hcut
    have B2 : Hid (Below w.heap.size w wc) := Lib.hid (BW.out.trans (hBW.mono BW.out.size))
    have R2 : Hid (∃ Z, Blk wc w.heap.size 102 Z ∧ Z.size = 13) := Lib.hid (by obtain ⟨Z, h1, h2⟩ := R1.out; exact ⟨Z, h1.below hBW h1.lt, h2⟩)
    have hab1 : w.heap.size < ab := by obtain ⟨Z, h1, _⟩ := R1.out; have := h1.lt; omega
    have A2 := Lib.hid hA
    have n4 : wc.cell? ⟨ab, 4, none⟩ = some (.string ⟨#[]⟩) := by rw [hA.cell]; simp [ActV.cs, actOf, zeroAct]
    have f4 := hA.frozen 4
    clear hA hBW R1 H1 T1 BW
    go_upto_region 13 with (fail)
    refine world_out (fun V hV => ?_)
    have B3 : Hid (Below w.heap.size w V) := Lib.hid (by rw [hV]; exact B2.out.setCell (p := ⟨ab, 4, none⟩) (Nat.le_of_lt hab1) _)
    have R3 : Hid (∃ Z, Blk V w.heap.size 102 Z ∧ Z.size = 13) := Lib.hid (by obtain ⟨Z, h1, h2⟩ := R2.out; rw [hV]; exact ⟨Z, h1.far (p := ⟨ab, 4, none⟩) (Nat.ne_of_lt hab1) _, h2⟩)
    have A3 : Hid (Blk V ab 43 (actOf c.num 3 n cc key).cs) := Lib.hid (by
      have h := A2.out.set_ 4 (.string key)
      rw [hV]
      have e : ((actOf c.num 3 n cc ⟨#[]⟩).cs.setIfInBounds 4 (.string key)) = (actOf c.num 3 n cc key).cs := by simp [ActV.cs, actOf, zeroAct]
      rw [e] at h
      exact h)
    have H3 := Lib.hid (H.out.keep B3.out)
    have v2 := H3.out.cl.dir
    have KY := Lib.hid (key_any' c.D key)
    clear hV n4 f4 A2 R2 B2
    rw [HM.out] at KY
    obtain ⟨Z, hZ, hzs⟩ := R3.out
    have rm := blkN_room (n := 13) hZ hzs
    have cz : CellsN 13 #[.slice none 0 0, .int .i64 0, .int .i64 0, .int .i64 0, .int .i64 0, .string ⟨#[]⟩, .string ⟨#[]⟩, .bool false, .int .i64 0, .int .i64 0, .int .i64 0, .int .i64 0, .bool false] := ⟨rfl, by simp [Value.oneCell']⟩
    have CV : Hid (callV (.slice none 0 0) zeroAct false = .agg #[.slice none 0 0, .int .i64 0, .int .i64 0, .int .i64 0, .int .i64 0, .string ⟨#[]⟩, .string ⟨#[]⟩, .bool false, .int .i64 0, .int .i64 0, .int .i64 0, .int .i64 0, .bool false]) := Lib.hid (by simp [callV, zeroAct, ActV.cs])
    go_wp2_with (go_at_call 43; refine (KY.out _).mono ?_; rintro e w' ⟨rfl, rfl⟩)
    generalize (#[.slice none 0 0, .int .i64 0, .int .i64 0, .int .i64 0, .int .i64 0, .string ⟨#[]⟩, .string ⟨#[]⟩, .bool false, .int .i64 0, .int .i64 0, .int .i64 0, .int .i64 0, .bool false] : Array Value) = C at cz CV ⊢
    have RF : Hid (Blk (putN w' w.heap.size 0 C) w.heap.size 102 C) := Lib.hid (putN_fill hZ (hzs.trans cz.1.symm))
    have hl := load_call cz.1 RF.out.range
    exact bodyPost_ret (v := .tuple #[.agg C, .int .i64 120]) (by simp [results, Try.results27, asAddr, hl]) rfl ⟨by rw [CV.out], putN_below B3.out (Nat.le_refl _) 0 C⟩

set_option maxRecDepth 100000 in
set_option maxHeartbeats 4000000 in
theorem does_badd (lo p : Nat) (c : Client) (ob oc gb gc g q : Nat) (L : List Ent) (gs : List Nat) (sp : List ByteArray) (w : World) (h : CliAt lo w p c ob oc gb gc g q L gs sp) (tb : Nat) (T : Array Value) (n cc : Int) (key val : ByteArray)
    (ht : c.vt = .pointer (some ⟨tb, 0, none⟩)) (hw : c.waits = false) (hT : Blk w tb 110 T) (hT0 : T[0]? = some (.int .i64 n)) (hT1 : T[1]? = some (.int .i64 cc)) (hk : keyB key = false) :
    Calls Try.prog 27 #[.pointer (some ⟨p, 0, none⟩), .int .i64 4, .string key, .string val] w fun e w' => e = .returned (.tuple #[callV (.slice none 0 0) zeroAct false, .int .i64 120]) ∧ Below w.heap.size w w' := by
  have H := Lib.hid h
  have HT := Lib.hid hT
  have HT01 := Lib.hid (And.intro hT0 hT1)
  have HM := Lib.hid hk
  have c8 := h.cl.waits
  rw [hw] at c8
  have c7 := h.cl.vt
  rw [ht] at c7
  have hp := h.cl.blk.lt
  clear h hT hT0 hT1
  go_enter Try.func27, Try.ntmps27
  go_upto_region 9 with (fail)
  refine world_out (fun W hW => ?_)
  have BW : Hid (Below w.heap.size w W) := Lib.hid (by rw [hW]; exact (Below.refl _ _).alloc (Nat.le_refl _) _)
  have R1 : Hid (∃ Z, Blk W w.heap.size 102 Z ∧ Z.size = 13) := Lib.hid ⟨_, by rw [hW]; exact Blk.new w 102 _, rfl⟩
  have H1 := Lib.hid (H.out.keep BW.out)
  have T1 := Lib.hid (HT.out.below BW.out HT.out.lt)
  clear hW c8 c7
  go_cut [10] from 52 (ActR W (actOf c.num 4 n cc ⟨#[]⟩))
  case first =>
    have F : Hid (∀ v, Below W.heap.size W v → v.cell? ⟨p, 0, none⟩ = some (.int .i64 c.num) ∧ v.cell? ⟨p, 7, none⟩ = some (.pointer (some ⟨tb, 0, none⟩)) ∧ v.cell? ⟨tb, 0, none⟩ = some (.int .i64 n) ∧ v.cell? ⟨tb, 1, none⟩ = some (.int .i64 cc)) := Lib.hid (fun v hv => by
      have c7 := (H1.out.keep hv).cl.vt
      rw [ht] at c7
      have t := T1.out.below hv T1.out.lt
      exact ⟨(H1.out.keep hv).cl.num, c7, by rw [t.cell]; exact HT01.out.1, by rw [t.cell]; exact HT01.out.2⟩)
    have S0 := Lib.hid (F.out W (Below.refl _ _))
    have S1 := Lib.hid (F.out (W.alloc (.cells #[.int .i64 0, .int .i64 0, .int .i64 0, .int .i64 0, .string ⟨#[]⟩, .string ⟨#[]⟩, .bool false, .int .i64 0, .int .i64 0, .int .i64 0, .int .i64 0] 43)) ((Below.refl _ _).alloc (Nat.le_refl _) _))
    have S2 := Lib.hid (fun C : Array Value => F.out (putN (W.alloc (.cells #[.int .i64 0, .int .i64 0, .int .i64 0, .int .i64 0, .string ⟨#[]⟩, .string ⟨#[]⟩, .bool false, .int .i64 0, .int .i64 0, .int .i64 0, .int .i64 0] 43)).drew W.heap.size 0 C) (putN_below ((Below.refl _ _).alloc (Nat.le_refl _) _).drew (Nat.le_refl _) 0 C))
    have S0d := Lib.hid (F.out W.drew (Below.refl _ _).drew)
    have S1d := Lib.hid (F.out (W.alloc (.cells #[.int .i64 0, .int .i64 0, .int .i64 0, .int .i64 0, .string ⟨#[]⟩, .string ⟨#[]⟩, .bool false, .int .i64 0, .int .i64 0, .int .i64 0, .int .i64 0] 43)).drew ((Below.refl _ _).alloc (Nat.le_refl _) _).drew)
    have rm : RoomN 11 (W.alloc (.cells #[.int .i64 0, .int .i64 0, .int .i64 0, .int .i64 0, .string ⟨#[]⟩, .string ⟨#[]⟩, .bool false, .int .i64 0, .int .i64 0, .int .i64 0, .int .i64 0] 43)).drew W.heap.size 0 := roomN_new W 43 _ rfl
    have ac : CellsN 11 #[.int .i64 c.num, .int .i64 4, .int .i64 n, .int .i64 cc, .string ⟨#[]⟩, .string ⟨#[]⟩, .bool false, .int .i64 0, .int .i64 0, .int .i64 0, .int .i64 0] := ⟨rfl, by simp [Value.oneCell']⟩
    have EQ : Hid (#[.int .i64 c.num, .int .i64 4, .int .i64 n, .int .i64 cc, .string ⟨#[]⟩, .string ⟨#[]⟩, .bool false, .int .i64 0, .int .i64 0, .int .i64 0, .int .i64 0] = (actOf c.num 4 n cc ⟨#[]⟩).cs) := Lib.hid (by simp [actOf, zeroAct, ActV.cs])
    have PF : Hid (∀ C : Array Value, C.size = 11 → Blk (putN (W.alloc (.cells #[.int .i64 0, .int .i64 0, .int .i64 0, .int .i64 0, .string ⟨#[]⟩, .string ⟨#[]⟩, .bool false, .int .i64 0, .int .i64 0, .int .i64 0, .int .i64 0] 43)).drew W.heap.size 0 C) W.heap.size 43 C ∧ Below W.heap.size W (putN (W.alloc (.cells #[.int .i64 0, .int .i64 0, .int .i64 0, .int .i64 0, .string ⟨#[]⟩, .string ⟨#[]⟩, .bool false, .int .i64 0, .int .i64 0, .int .i64 0, .int .i64 0] 43)).drew W.heap.size 0 C)) := Lib.hid (fun C hC => ⟨putN_fill (w := (W.alloc (.cells #[.int .i64 0, .int .i64 0, .int .i64 0, .int .i64 0, .string ⟨#[]⟩, .string ⟨#[]⟩, .bool false, .int .i64 0, .int .i64 0, .int .i64 0, .int .i64 0] 43)).drew) (Blk.new W 43 _).drew (by rw [hC]; rfl), putN_below ((Below.refl _ _).alloc (Nat.le_refl _) _).drew (Nat.le_refl _) 0 C⟩)
    go_region_held3 (fun v => v.cell? ⟨p, 0, none⟩ = some (.int .i64 c.num) ∧ v.cell? ⟨p, 7, none⟩ = some (.pointer (some ⟨tb, 0, none⟩)) ∧ v.cell? ⟨tb, 0, none⟩ = some (.int .i64 n) ∧ v.cell? ⟨tb, 1, none⟩ = some (.int .i64 cc)) (first | with_reducible exact S0.out | with_reducible exact S0d.out | with_reducible exact S1.out | with_reducible exact S1d.out | with_reducible exact S2.out _) (fail)
    all_goals
      go_wp2_with fail
      go_meet
      case rel => exact ⟨W.heap.size, rfl, Nat.le_refl _, by rw [← EQ.out]; exact (PF.out _ rfl).1, (PF.out _ rfl).2⟩
  case rest =>
    obtain ⟨ab, rfl, hab, hA, hBW⟩ := hcut
    have B2 : Hid (Below w.heap.size w wc) := Lib.hid (BW.out.trans (hBW.mono BW.out.size))
    have R2 : Hid (∃ Z, Blk wc w.heap.size 102 Z ∧ Z.size = 13) := Lib.hid (by obtain ⟨Z, h1, h2⟩ := R1.out; exact ⟨Z, h1.below hBW h1.lt, h2⟩)
    have hab1 : w.heap.size < ab := by obtain ⟨Z, h1, _⟩ := R1.out; have := h1.lt; omega
    have A2 := Lib.hid hA
    have n4 : wc.cell? ⟨ab, 4, none⟩ = some (.string ⟨#[]⟩) := by rw [hA.cell]; simp [ActV.cs, actOf, zeroAct]
    have f4 := hA.frozen 4
    clear hA hBW R1 H1 T1 BW
    go_upto_region 13 with (fail)
    refine world_out (fun V hV => ?_)
    have B3 : Hid (Below w.heap.size w V) := Lib.hid (by rw [hV]; exact B2.out.setCell (p := ⟨ab, 4, none⟩) (Nat.le_of_lt hab1) _)
    have R3 : Hid (∃ Z, Blk V w.heap.size 102 Z ∧ Z.size = 13) := Lib.hid (by obtain ⟨Z, h1, h2⟩ := R2.out; rw [hV]; exact ⟨Z, h1.far (p := ⟨ab, 4, none⟩) (Nat.ne_of_lt hab1) _, h2⟩)
    have A3 : Hid (Blk V ab 43 (actOf c.num 4 n cc key).cs) := Lib.hid (by
      have h := A2.out.set_ 4 (.string key)
      rw [hV]
      have e : ((actOf c.num 4 n cc ⟨#[]⟩).cs.setIfInBounds 4 (.string key)) = (actOf c.num 4 n cc key).cs := by simp [ActV.cs, actOf, zeroAct]
      rw [e] at h
      exact h)
    have H3 := Lib.hid (H.out.keep B3.out)
    have v2 := H3.out.cl.dir
    have KY := Lib.hid (key_any' c.D key)
    clear hV n4 f4 A2 R2 B2
    rw [HM.out] at KY
    obtain ⟨Z, hZ, hzs⟩ := R3.out
    have rm := blkN_room (n := 13) hZ hzs
    have cz : CellsN 13 #[.slice none 0 0, .int .i64 0, .int .i64 0, .int .i64 0, .int .i64 0, .string ⟨#[]⟩, .string ⟨#[]⟩, .bool false, .int .i64 0, .int .i64 0, .int .i64 0, .int .i64 0, .bool false] := ⟨rfl, by simp [Value.oneCell']⟩
    have CV : Hid (callV (.slice none 0 0) zeroAct false = .agg #[.slice none 0 0, .int .i64 0, .int .i64 0, .int .i64 0, .int .i64 0, .string ⟨#[]⟩, .string ⟨#[]⟩, .bool false, .int .i64 0, .int .i64 0, .int .i64 0, .int .i64 0, .bool false]) := Lib.hid (by simp [callV, zeroAct, ActV.cs])
    go_wp2_with (go_at_call 43; refine (KY.out _).mono ?_; rintro e w' ⟨rfl, rfl⟩)
    generalize (#[.slice none 0 0, .int .i64 0, .int .i64 0, .int .i64 0, .int .i64 0, .string ⟨#[]⟩, .string ⟨#[]⟩, .bool false, .int .i64 0, .int .i64 0, .int .i64 0, .int .i64 0, .bool false] : Array Value) = C at cz CV ⊢
    have RF : Hid (Blk (putN w' w.heap.size 0 C) w.heap.size 102 C) := Lib.hid (putN_fill hZ (hzs.trans cz.1.symm))
    have hl := load_call cz.1 RF.out.range
    exact bodyPost_ret (v := .tuple #[.agg C, .int .i64 120]) (by simp [results, Try.results27, asAddr, hl]) rfl ⟨by rw [CV.out], putN_below B3.out (Nat.le_refl _) 0 C⟩

set_option maxRecDepth 100000 in
set_option maxHeartbeats 4000000 in
theorem does_long (lo p : Nat) (c : Client) (ob oc gb gc g q : Nat) (L : List Ent) (gs : List Nat) (sp : List ByteArray) (w : World) (h : CliAt lo w p c ob oc gb gc g q L gs sp) (tb : Nat) (T : Array Value) (n cc : Int) (key val : ByteArray)
    (ht : c.vt = .pointer (some ⟨tb, 0, none⟩)) (hw : c.waits = false) (hT : Blk w tb 110 T) (hT0 : T[0]? = some (.int .i64 n)) (hT1 : T[1]? = some (.int .i64 cc)) (hk : keyB key = true) (hv : 200 < val.size) :
    Calls Try.prog 27 #[.pointer (some ⟨p, 0, none⟩), .int .i64 3, .string key, .string val] w fun e w' => e = .returned (.tuple #[callV (.slice none 0 0) zeroAct false, .int .i64 9]) ∧ Below w.heap.size w w' := by
  have H := Lib.hid h
  have HT := Lib.hid hT
  have HT01 := Lib.hid (And.intro hT0 hT1)
  have HM := Lib.hid hk
  have hv' : ¬ (val.size : Int) ≤ 200 := by omega
  have hv2 : (200 : Int) < (val.size : Int) := by omega
  have c8 := h.cl.waits
  rw [hw] at c8
  have c7 := h.cl.vt
  rw [ht] at c7
  have hp := h.cl.blk.lt
  clear h hT hT0 hT1
  go_enter Try.func27, Try.ntmps27
  go_upto_region 9 with (fail)
  refine world_out (fun W hW => ?_)
  have BW : Hid (Below w.heap.size w W) := Lib.hid (by rw [hW]; exact (Below.refl _ _).alloc (Nat.le_refl _) _)
  have R1 : Hid (∃ Z, Blk W w.heap.size 102 Z ∧ Z.size = 13) := Lib.hid ⟨_, by rw [hW]; exact Blk.new w 102 _, rfl⟩
  have H1 := Lib.hid (H.out.keep BW.out)
  have T1 := Lib.hid (HT.out.below BW.out HT.out.lt)
  clear hW c8 c7
  go_cut [10] from 52 (ActR W (actOf c.num 3 n cc ⟨#[]⟩))
  case first =>
    have F : Hid (∀ v, Below W.heap.size W v → v.cell? ⟨p, 0, none⟩ = some (.int .i64 c.num) ∧ v.cell? ⟨p, 7, none⟩ = some (.pointer (some ⟨tb, 0, none⟩)) ∧ v.cell? ⟨tb, 0, none⟩ = some (.int .i64 n) ∧ v.cell? ⟨tb, 1, none⟩ = some (.int .i64 cc)) := Lib.hid (fun v hv => by
      have c7 := (H1.out.keep hv).cl.vt
      rw [ht] at c7
      have t := T1.out.below hv T1.out.lt
      exact ⟨(H1.out.keep hv).cl.num, c7, by rw [t.cell]; exact HT01.out.1, by rw [t.cell]; exact HT01.out.2⟩)
    have S0 := Lib.hid (F.out W (Below.refl _ _))
    have S1 := Lib.hid (F.out (W.alloc (.cells #[.int .i64 0, .int .i64 0, .int .i64 0, .int .i64 0, .string ⟨#[]⟩, .string ⟨#[]⟩, .bool false, .int .i64 0, .int .i64 0, .int .i64 0, .int .i64 0] 43)) ((Below.refl _ _).alloc (Nat.le_refl _) _))
    have S2 := Lib.hid (fun C : Array Value => F.out (putN (W.alloc (.cells #[.int .i64 0, .int .i64 0, .int .i64 0, .int .i64 0, .string ⟨#[]⟩, .string ⟨#[]⟩, .bool false, .int .i64 0, .int .i64 0, .int .i64 0, .int .i64 0] 43)).drew W.heap.size 0 C) (putN_below ((Below.refl _ _).alloc (Nat.le_refl _) _).drew (Nat.le_refl _) 0 C))
    have S0d := Lib.hid (F.out W.drew (Below.refl _ _).drew)
    have S1d := Lib.hid (F.out (W.alloc (.cells #[.int .i64 0, .int .i64 0, .int .i64 0, .int .i64 0, .string ⟨#[]⟩, .string ⟨#[]⟩, .bool false, .int .i64 0, .int .i64 0, .int .i64 0, .int .i64 0] 43)).drew ((Below.refl _ _).alloc (Nat.le_refl _) _).drew)
    have rm : RoomN 11 (W.alloc (.cells #[.int .i64 0, .int .i64 0, .int .i64 0, .int .i64 0, .string ⟨#[]⟩, .string ⟨#[]⟩, .bool false, .int .i64 0, .int .i64 0, .int .i64 0, .int .i64 0] 43)).drew W.heap.size 0 := roomN_new W 43 _ rfl
    have ac : CellsN 11 #[.int .i64 c.num, .int .i64 3, .int .i64 n, .int .i64 cc, .string ⟨#[]⟩, .string ⟨#[]⟩, .bool false, .int .i64 0, .int .i64 0, .int .i64 0, .int .i64 0] := ⟨rfl, by simp [Value.oneCell']⟩
    have EQ : Hid (#[.int .i64 c.num, .int .i64 3, .int .i64 n, .int .i64 cc, .string ⟨#[]⟩, .string ⟨#[]⟩, .bool false, .int .i64 0, .int .i64 0, .int .i64 0, .int .i64 0] = (actOf c.num 3 n cc ⟨#[]⟩).cs) := Lib.hid (by simp [actOf, zeroAct, ActV.cs])
    have PF : Hid (∀ C : Array Value, C.size = 11 → Blk (putN (W.alloc (.cells #[.int .i64 0, .int .i64 0, .int .i64 0, .int .i64 0, .string ⟨#[]⟩, .string ⟨#[]⟩, .bool false, .int .i64 0, .int .i64 0, .int .i64 0, .int .i64 0] 43)).drew W.heap.size 0 C) W.heap.size 43 C ∧ Below W.heap.size W (putN (W.alloc (.cells #[.int .i64 0, .int .i64 0, .int .i64 0, .int .i64 0, .string ⟨#[]⟩, .string ⟨#[]⟩, .bool false, .int .i64 0, .int .i64 0, .int .i64 0, .int .i64 0] 43)).drew W.heap.size 0 C)) := Lib.hid (fun C hC => ⟨putN_fill (w := (W.alloc (.cells #[.int .i64 0, .int .i64 0, .int .i64 0, .int .i64 0, .string ⟨#[]⟩, .string ⟨#[]⟩, .bool false, .int .i64 0, .int .i64 0, .int .i64 0, .int .i64 0] 43)).drew) (Blk.new W 43 _).drew (by rw [hC]; rfl), putN_below ((Below.refl _ _).alloc (Nat.le_refl _) _).drew (Nat.le_refl _) 0 C⟩)
    go_region_held3 (fun v => v.cell? ⟨p, 0, none⟩ = some (.int .i64 c.num) ∧ v.cell? ⟨p, 7, none⟩ = some (.pointer (some ⟨tb, 0, none⟩)) ∧ v.cell? ⟨tb, 0, none⟩ = some (.int .i64 n) ∧ v.cell? ⟨tb, 1, none⟩ = some (.int .i64 cc)) (first | with_reducible exact S0.out | with_reducible exact S0d.out | with_reducible exact S1.out | with_reducible exact S1d.out | with_reducible exact S2.out _) (fail)
    all_goals
      go_wp2_with fail
      go_meet
      case rel => exact ⟨W.heap.size, rfl, Nat.le_refl _, by rw [← EQ.out]; exact (PF.out _ rfl).1, (PF.out _ rfl).2⟩
  case rest =>
    obtain ⟨ab, rfl, hab, hA, hBW⟩ := hcut
    have B2 : Hid (Below w.heap.size w wc) := Lib.hid (BW.out.trans (hBW.mono BW.out.size))
    have R2 : Hid (∃ Z, Blk wc w.heap.size 102 Z ∧ Z.size = 13) := Lib.hid (by obtain ⟨Z, h1, h2⟩ := R1.out; exact ⟨Z, h1.below hBW h1.lt, h2⟩)
    have hab1 : w.heap.size < ab := by obtain ⟨Z, h1, _⟩ := R1.out; have := h1.lt; omega
    have A2 := Lib.hid hA
    have n4 : wc.cell? ⟨ab, 4, none⟩ = some (.string ⟨#[]⟩) := by rw [hA.cell]; simp [ActV.cs, actOf, zeroAct]
    have f4 := hA.frozen 4
    clear hA hBW R1 H1 T1 BW
    go_upto_region 13 with (fail)
    refine world_out (fun V hV => ?_)
    have B3 : Hid (Below w.heap.size w V) := Lib.hid (by rw [hV]; exact B2.out.setCell (p := ⟨ab, 4, none⟩) (Nat.le_of_lt hab1) _)
    have R3 : Hid (∃ Z, Blk V w.heap.size 102 Z ∧ Z.size = 13) := Lib.hid (by obtain ⟨Z, h1, h2⟩ := R2.out; rw [hV]; exact ⟨Z, h1.far (p := ⟨ab, 4, none⟩) (Nat.ne_of_lt hab1) _, h2⟩)
    have A3 : Hid (Blk V ab 43 (actOf c.num 3 n cc key).cs) := Lib.hid (by
      have h := A2.out.set_ 4 (.string key)
      rw [hV]
      have e : ((actOf c.num 3 n cc ⟨#[]⟩).cs.setIfInBounds 4 (.string key)) = (actOf c.num 3 n cc key).cs := by simp [ActV.cs, actOf, zeroAct]
      rw [e] at h
      exact h)
    have H3 := Lib.hid (H.out.keep B3.out)
    have v2 := H3.out.cl.dir
    have KY := Lib.hid (key_any' c.D key)
    clear hV n4 f4 A2 R2 B2
    rw [HM.out] at KY
    obtain ⟨Z, hZ, hzs⟩ := R3.out
    have rm := blkN_room (n := 13) hZ hzs
    have cz : CellsN 13 #[.slice none 0 0, .int .i64 0, .int .i64 0, .int .i64 0, .int .i64 0, .string ⟨#[]⟩, .string ⟨#[]⟩, .bool false, .int .i64 0, .int .i64 0, .int .i64 0, .int .i64 0, .bool false] := ⟨rfl, by simp [Value.oneCell']⟩
    have CV : Hid (callV (.slice none 0 0) zeroAct false = .agg #[.slice none 0 0, .int .i64 0, .int .i64 0, .int .i64 0, .int .i64 0, .string ⟨#[]⟩, .string ⟨#[]⟩, .bool false, .int .i64 0, .int .i64 0, .int .i64 0, .int .i64 0, .bool false]) := Lib.hid (by simp [callV, zeroAct, ActV.cs])
    go_wp2_with (go_at_call 43; refine (KY.out _).mono ?_; rintro e w' ⟨rfl, rfl⟩)
    generalize (#[.slice none 0 0, .int .i64 0, .int .i64 0, .int .i64 0, .int .i64 0, .string ⟨#[]⟩, .string ⟨#[]⟩, .bool false, .int .i64 0, .int .i64 0, .int .i64 0, .int .i64 0, .bool false] : Array Value) = C at cz CV ⊢
    have RF : Hid (Blk (putN w' w.heap.size 0 C) w.heap.size 102 C) := Lib.hid (putN_fill hZ (hzs.trans cz.1.symm))
    have hl := load_call cz.1 RF.out.range
    exact bodyPost_ret (v := .tuple #[.agg C, .int .i64 9]) (by simp [results, Try.results27, asAddr, hl]) rfl ⟨by rw [CV.out], putN_below B3.out (Nat.le_refl _) 0 C⟩
end Go.Proofs.Ytpaihfdmjkfegaa.Cl
