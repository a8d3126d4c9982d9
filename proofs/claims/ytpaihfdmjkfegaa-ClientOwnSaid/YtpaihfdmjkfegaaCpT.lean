/- The example of a client: parts, works; walked. -/
import Derived.Test.YtpaihfdmjkfegaaCpS
import Derived.Test.YtpaihfdmjkfegaaCpF
namespace Go.Proofs.Ytpaihfdmjkfegaa.Cl
open Go.RowKit Go.Lib Go.Maps Go.Proofs.Ytpaihfdmjkfegaa.MapF Go.Proofs.Ytpaihfdmjkfegaa.Msg Go.Proofs.Ytpaihfdmjkfegaa.Ck

attribute [local go_sem ↓] loadAct_eq storeAct_eq
attribute [local go_sem] run_loadAct run_storeAct

theorem chk_parts : newErr 2 4 (chk 2 1 4 64 [⟨#[109]⟩] []) = 0 := by
  have h1 : rangeB 2 1 4 64 1 = true := by decide
  have h2 : dirErr [⟨#[109]⟩] = 0 := by
    simp [dirErr, dirE, keyB]
    decide
  simp [newErr, chk, h1, h2]

theorem parts_any (w : World) : Calls Try.prog 13 #[] w fun e w' => ∃ b, e = .returned (cfgV 2 1 4 (.slice (some ⟨b, 0, none⟩) 1 1) (.slice none 0 0) 64) ∧ RowIn w' w'.heap.size (some ⟨b, 0, none⟩) [sV ⟨#[109]⟩] ∧ Below w.heap.size w w' := by
  go_enter Try.func13, Try.ntmps13
  go_wp2_with fail
  refine bodyPost_ret (v := cfgV 2 1 4 (.slice (some ⟨w.heap.size + 1, 0, none⟩) 1 1) (.slice none 0 0) 64) (by simp [results, Try.results13, go_sem, cfgV]) rfl ⟨w.heap.size + 1, rfl, fun _ => ⟨w.heap.size + 1, 0, rfl, by simp, fun i u hu => ?_⟩, ((Below.refl _ _).alloc (Nat.le_refl _) _).alloc (by simp) _⟩
  match i, hu with
  | 0, hu => cases hu; simp [go_sem, sV]

/-- The client of the example, behind its begin. -/
theorem CliAt.begun {lo : Nat} {w w' : World} {p : Nat} {c : Client} {ob oc gb gc g q : Nat} {L : List Ent} {gs : List Nat} {sp : List ByteArray} {tb m1 m2 m3 m4 : Nat} (h : CliAt lo w p c ob oc gb gc g q L gs sp) (k : Begun p c w w' tb m1 m2 m3 m4) :
    CliAt lo w' p { c with cnt := c.cnt + 1, vt := .pointer (some ⟨tb, 0, none⟩) } ob oc gb gc g q L gs sp := by
  refine h.to (k.chg.more (fun _ _ e => .inl e)) k.cl rfl rfl rfl h.lenG ?_
  obtain ⟨cur, r1, r2⟩ := h.guess
  exact ⟨cur, r1.chg k.chg (Ne.symm h.pg), r2⟩

set_option maxRecDepth 100000 in
set_option maxHeartbeats 4000000 in
theorem works_any (w : World) : Calls Try.prog 12 #[] w fun e w' => e = .returned (.bool true) ∧ Below w.heap.size w w' := by
  go_enter Try.func12, Try.ntmps12
  go_upto_region 2 with (first
    | (go_at_call 13; refine (parts_any _).mono ?_; rintro e w1 ⟨b, rfl, hR, hB⟩; have R1 := Lib.hid hR; have B1 := Lib.hid hB; clear hR hB)
    | (go_at_call 8; refine (clientNew_whole 2 2 1 4 64 [⟨#[109]⟩] [] _ none 1 0 _ R1.out (fun h => absurd h (by decide)) (Nat.le_refl _)).mono ?_; rw [chk_parts]; rintro e w2 ⟨P, rfl, _, hP, hB⟩; obtain ⟨p, rfl, hN⟩ := hP rfl; have N2 := Lib.hid hN; have B2 := Lib.hid hB; clear hP hN hB))
  obtain ⟨d, v3, v4, ob, oc, gb, gc, g, q, L, hG, hQ, hb, hC⟩ := N2.out
  have C2 := Lib.hid hC
  have hg2 : g = 2 := by omega
  clear hC hG hQ
  have ha : 0 ≤ (fresh 2 (q : Int) d v3 v4).cnt ∧ (fresh 2 (q : Int) d v3 v4).cnt < 1099511627776 := ⟨Int.le_refl 0, (by decide : (0 : Int) < 1099511627776)⟩
  have hn : 0 ≤ (fresh 2 (q : Int) d v3 v4).num ∧ (fresh 2 (q : Int) d v3 v4).num < 16 := ⟨(by decide : (0 : Int) ≤ 2), (by decide : (2 : Int) < 16)⟩
  go_upto_region 4 with (fail)
  go_upto_region 5 with (go_at_call 14; go_loud (refine (call_begin p _ ⟨#[]⟩ ⟨#[]⟩ w2 C2.out.cl rfl rfl ha hn).mono ?_; rintro e w3 ⟨tb, m1, m2, m3, m4, rfl, hG⟩; have G3 := Lib.hid hG; have bc : CellsN 11 (beginAct (fresh 2 (q : Int) d v3 v4).num ((fresh 2 (q : Int) d v3 v4).cnt + 1)).cs := ActV.cells _; have rn := roomN_new (n := 11) w3 43 #[.int .i64 0, .int .i64 0, .int .i64 0, .int .i64 0, .string ⟨#[]⟩, .string ⟨#[]⟩, .bool false, .int .i64 0, .int .i64 0, .int .i64 0, .int .i64 0] rfl; clear hG))
  refine world_out (fun W5 hW5 => ?_)
  obtain ⟨b4, hb4⟩ : ∃ b4, b4 = w3.heap.size := ⟨_, rfl⟩
  rw [← hb4] at hW5 ⊢
  have B5 : Hid (Below w3.heap.size w3 W5) := Lib.hid (by rw [hW5, hb4]; exact putN_below ((Below.refl _ _).alloc (Nat.le_refl _) _) (Nat.le_refl _) 0 _)
  have A5 : Hid (Blk W5 b4 43 (beginAct (fresh 2 (q : Int) d v3 v4).num ((fresh 2 (q : Int) d v3 v4).cnt + 1)).cs) := Lib.hid (by rw [hW5, hb4]; exact putN_fill (Blk.new w3 43 _) rfl)
  have C5 := Lib.hid ((C2.out.begun G3.out).keep B5.out)
  have T5 := Lib.hid (G3.out.tx.below B5.out)
  have K5 : Hid (Chg (fun b => b = p ∨ b = gb) w2 W5) := Lib.hid ((G3.out.chg.more (fun _ _ e => .inl e)).then B5.out)
  have l5 : b4 < W5.heap.size := A5.out.lt
  have hb4' : w3.heap.size ≤ b4 := Nat.le_of_eq hb4.symm
  clear hW5 bc rn ha hn hb4
  have hs : 0 ≤ (fresh 2 (q : Int) d v3 v4).seq ∧ (fresh 2 (q : Int) d v3 v4).seq < 1000000 := ⟨Int.le_refl 0, (by decide : (0 : Int) < 1000000)⟩
  have hsp : ([⟨#[109]⟩] : List ByteArray).length + 1 = g := hg2.symm
  have hg8 : g ≤ 8 := hb.2.1
  have kk : keyB ⟨#[107]⟩ = true := by decide
  go_upto_region 6 with (go_at_call 14; go_loud (refine (call_read _ p _ ob oc gb gc g q L (heads L) [⟨#[109]⟩] tb _ _ m1 m2 m3 m4 ⟨#[107]⟩ ⟨#[]⟩ W5 C5.out hsp hg8 rfl rfl T5.out hs w2 _ _ C2.out K5.out ⟨rfl, rfl, rfl⟩ G3.out.new ⟨G3.out.ne.1, G3.out.ne.2.1, G3.out.ne.2.2.1⟩ kk).mono ?_; rintro e w6 ⟨mb, k, x, rfl, hL⟩; have L6 := Lib.hid hL; have bc : CellsN 11 (actOf (fresh 2 (q : Int) d v3 v4).num 2 ((fresh 2 (q : Int) d v3 v4).cnt + 1) (fresh 2 (q : Int) d v3 v4).num ⟨#[107]⟩).cs := ActV.cells _; have rn := roomN_new (n := 11) w6 43 #[.int .i64 0, .int .i64 0, .int .i64 0, .int .i64 0, .string ⟨#[]⟩, .string ⟨#[]⟩, .bool false, .int .i64 0, .int .i64 0, .int .i64 0, .int .i64 0] rfl; clear hL))
  refine world_out (fun W7 hW7 => ?_)
  obtain ⟨b7, hb7⟩ : ∃ b7, b7 = w6.heap.size := ⟨_, rfl⟩
  rw [← hb7] at hW7 ⊢
  have B7 : Hid (Below w6.heap.size w6 W7) := Lib.hid (by rw [hW7, hb7]; exact putN_below ((Below.refl _ _).alloc (Nat.le_refl _) _) (Nat.le_refl _) 0 _)
  have C7 := Lib.hid (L6.out.cli.keep B7.out)
  have M7 := Lib.hid (L6.out.msg.below B7.out L6.out.msg.lt)
  have A7 : Hid (Blk W7 b4 43 (beginAct (fresh 2 (q : Int) d v3 v4).num ((fresh 2 (q : Int) d v3 v4).cnt + 1)).cs) := Lib.hid ((A5.out.chg L6.out.chg (by
    have h1 := C5.out.cl.blk.lt
    have h2 := G3.out.new
    have h3 := G3.out.tx.blk.lt
    have h4 := G3.out.tx.k1.lt
    have h5 := C2.out.cl.blk.lt
    have h6 := G3.out.chg.size
    omega)).below B7.out (by have := L6.out.chg.size; omega))
  obtain ⟨gg, gcap, hgg, hT1⟩ := L6.out.tx
  have T7 : Hid (W7.cell? ⟨tb, 6, none⟩ = some (.map (some m3)) ∧ Nil W7 m3) := Lib.hid ⟨(hT1.blk.below B7.out hT1.blk.lt).cell 6, hT1.k3.below B7.out hT1.k3.lt⟩
  have K7 : Hid (Below w.heap.size w W7) := Lib.hid (by
    have s1 := B1.out.size
    have s2 := B2.out.size
    have h0 := C2.out.hp
    have h1 := G3.out.new
    have s3 := G3.out.chg.size
    have s4 := B5.out.size
    have s5 := L6.out.chg.size
    have k1 : Chg (fun b => w.heap.size ≤ b) w w2 := Chg.of (B1.out.trans (B2.out.mono s1))
    have k2 : Chg (fun b => w.heap.size ≤ b) w W7 := (((k1.on (G3.out.chg.more (fun _ _ e => by omega))).then B5.out).on (L6.out.chg.more (fun _ _ e => by omega))).then B7.out
    exact k2.below (Nat.le_refl _) (fun _ e => e))
  have hb7' : w6.heap.size ≤ b7 := Nat.le_of_eq hb7.symm
  clear hW7 hT1 bc rn hs hsp kk hb7
  have q0 : W7.cell? ⟨mb, 0, none⟩ = some (.int .i64 6) := by rw [M7.out.cell]; simp [aimedM, reqM, lockM]
  have q12 : W7.cell? ⟨mb, 12, none⟩ = some (.int .i64 1) := by rw [M7.out.cell]; simp [aimedM, reqM, lockM, fresh]
  have a2 : W7.cell? ⟨b4, 2, none⟩ = some (.int .i64 1) := by rw [A7.out.cell]; simp [beginAct, ActV.cs, fresh]
  have a3 : W7.cell? ⟨b4, 3, none⟩ = some (.int .i64 2) := by rw [A7.out.cell]; simp [beginAct, ActV.cs, fresh]
  go_upto_region 8 with (go_at_call 19; go_loud (refine (waits_any p _ _ C7.out.cl).mono ?_; rintro e w8 ⟨rfl, rfl⟩))
  have ok : okS ⟨#[107]⟩ := by unfold okS maxLen; decide
  have ne3 : p ≠ tb := C7.out.cl.blk.ne_ (L6.out.tx.choose_spec.choose_spec.2.blk.below B7.out L6.out.tx.choose_spec.choose_spec.2.blk.lt) (by decide)
  go_upto_region 9 with (go_at_call 15; go_loud (refine (take_read _ p _ ob oc gb gc g q L (heads L) [⟨#[109]⟩] tb m3 0 (fun _ => none) _ 1 1 2 7 true ⟨#[120]⟩ w8 C7.out rfl rfl rfl T7.out.1 ne3 (Nil.isF T7.out.2) (by unfold maxLen; decide) ok ⟨rfl, by simp [Value.oneCell']⟩ rfl rfl rfl rfl rfl rfl rfl rfl (by simp [reqM, lockM, fresh]) (by simp [reqM, lockM, fresh]) (by simp [reqM, lockM, fresh])).mono ?_; rintro e w9 ⟨rfl, hc, _, hk⟩; have H9 := Lib.hid (And.intro hc hk); have bc : CellsN 11 (readAct (actOf (fresh 2 (q : Int) d v3 v4).num 2 ((fresh 2 (q : Int) d v3 v4).cnt + 1) (fresh 2 (q : Int) d v3 v4).num ⟨#[107]⟩) true ⟨#[120]⟩ 7).cs := ActV.cells _; have rn := roomN_new (n := 11) w9 43 #[.int .i64 0, .int .i64 0, .int .i64 0, .int .i64 0, .string ⟨#[]⟩, .string ⟨#[]⟩, .bool false, .int .i64 0, .int .i64 0, .int .i64 0, .int .i64 0] rfl; clear hc hk))
  refine world_out (fun W9 hW9 => ?_)
  obtain ⟨b9, hb9⟩ : ∃ b9, b9 = w9.heap.size := ⟨_, rfl⟩
  rw [← hb9] at hW9 ⊢
  have B9 : Hid (Below w9.heap.size w9 W9) := Lib.hid (by rw [hW9, hb9]; exact putN_below ((Below.refl _ _).alloc (Nat.le_refl _) _) (Nat.le_refl _) 0 _)
  have A9 : Hid (Blk W9 b9 43 (readAct (actOf (fresh 2 (q : Int) d v3 v4).num 2 ((fresh 2 (q : Int) d v3 v4).cnt + 1) (fresh 2 (q : Int) d v3 v4).num ⟨#[107]⟩) true ⟨#[120]⟩ 7).cs) := Lib.hid (by rw [hW9, hb9]; exact putN_fill (Blk.new w9 43 _) rfl)
  have K9 : Hid (Below w.heap.size w W9) := Lib.hid (by
    have s1 := B1.out.size
    have s2 := B2.out.size
    have h0 := C2.out.hp
    have h1 := G3.out.new
    have s3 := H9.out.2.size
    have s7 := K7.out.size
    have k1 : Chg (fun b => w.heap.size ≤ b) w w8 := Chg.of K7.out
    have k2 : Chg (fun b => w.heap.size ≤ b) w W9 := (k1.on (H9.out.2.more (fun _ _ e => by omega))).then B9.out
    exact k2.below (Nat.le_refl _) (fun _ e => e))
  have C9 := Lib.hid (H9.out.1.keep B9.out)
  have e5 : W9.cell? ⟨b9, 6, none⟩ = some (.bool true) := by rw [A9.out.cell]; simp [readAct, ActV.cs, fresh]
  have e4 : W9.cell? ⟨b9, 5, none⟩ = some (.string ⟨#[120]⟩) := by rw [A9.out.cell]; simp [readAct, ActV.cs, fresh, pickS]
  have e3 : W9.cell? ⟨b9, 4, none⟩ = some (.string ⟨#[107]⟩) := by rw [A9.out.cell]; simp [readAct, ActV.cs, fresh, actOf]
  clear hW9 bc rn hb9 q0 q12 a2 a3
  go_wp2_with (go_at_call 19; go_loud (refine (waits_any p _ _ C9.out.cl).mono ?_; rintro e w10 ⟨rfl, rfl⟩))
  exact bodyPost_ret (v := .bool true) (by simp [results, Try.results12, go_sem]) rfl ⟨rfl, K9.out⟩
end Go.Proofs.Ytpaihfdmjkfegaa.Cl
