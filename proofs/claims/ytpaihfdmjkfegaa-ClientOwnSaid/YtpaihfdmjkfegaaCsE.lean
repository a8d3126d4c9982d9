/- The law ClientOwn, walked. -/
import Derived.Test.YtpaihfdmjkfegaaCsD
import Derived.Deep.CutRange
/- The law ClientOwn, walked. -/
namespace Go.Proofs.Ytpaihfdmjkfegaa.Cl
open Go.RowKit Go.Lib Go.Maps Go.Proofs.Ytpaihfdmjkfegaa.MapF Go.Proofs.Ytpaihfdmjkfegaa.Msg Go.Proofs.Ytpaihfdmjkfegaa.Ck Go.Proofs.Ytpaihfdmjkfegaa.Sta Go.Proofs.Ytpaihfdmjkfegaa.Rd

attribute [local go_sem ↓] loadAct_eq storeAct_eq loadMsg_eq storeMsg_eq loadOp_eq storeOp_eq
attribute [local go_sem] run_loadAct run_storeAct run_loadMsg run_storeMsg run_loadOp run_storeOp

/-- What the loop of ClientOwn holds. -/
structure OwnS (w w0 : World) (lo p : Nat) (c0 : Client) (ob oc gb gc g q : Nat) (L : List Ent) (sp : List ByteArray) (B1 bw br ab : Nat) (i : Nat) (wr : World) : Prop where
  it : ∃ c x t fr, OwnC w0 lo p c0 ob oc gb gc g q L sp B1 ab false i wr c x t ∧ IsF mW wr bw i t.la ∧ IsF mA wr br i fr ∧ ReadR fr t
def OwnR (w w0 : World) (lo p : Nat) (c0 : Client) (ob oc gb gc g q : Nat) (L : List Ent) (sp : List ByteArray) (B1 bw br ab : Nat) (n : Nat) (gk : Nat) (v8 : Value) (wr : World) : Prop :=
  ∃ i : Nat, min n 60 - i = gk ∧ i ≤ min n 60 ∧ v8 = .int .i64 (i : Int) ∧ OwnS w w0 lo p c0 ob oc gb gc g q L sp B1 bw br ab i wr
theorem kd_of (q : Nat) (hq : q < 3) : wrap64 (2 + (q : Int)) = 2 ∨ wrap64 (2 + (q : Int)) = 3 ∨ wrap64 (2 + (q : Int)) = 4 := by
  rw [IntWalk.wrap64_in _ (by constructor <;> omega)]
  omega

set_option maxRecDepth 100000 in
set_option maxHeartbeats 4000000 in
theorem own_walk (A1 : Option Addr) (n c1 : Nat) (w : World) (h1 : OpsIn w w.heap.size A1 n) :
    Calls Try.prog 4 #[.slice A1 n c1] w fun e w' => e = .returned (.bool true) ∧ Below w.heap.size w w' := by
  have WK := Lib.hid works_any
  have HI := Lib.hid h1
  clear h1
  go_enter Try.func4, Try.ntmps4
  go_upto_region 3 with (go_at_call 12; go_loud (refine (WK.out _).mono ?_; rintro e w1 ⟨rfl, hB⟩; have B1 := Lib.hid hB; clear hB))
  go_upto_region 4 with (first
    | (go_at_call 13; refine (parts_any _).mono ?_; rintro e w2 ⟨b, rfl, hR, hB⟩; have R1 := Lib.hid hR; have B2 := Lib.hid (B1.out.trans (hB.mono B1.out.size)); clear hR hB)
    | (go_at_call 8; refine (clientNew_whole 0 2 1 4 64 [⟨#[109]⟩] [] _ none 1 0 _ R1.out (fun h => absurd h (by decide)) (Nat.le_refl _)).mono ?_; rw [chk_parts0]; rintro e w0 ⟨P, rfl, _, hP, hB⟩; obtain ⟨p, rfl, hN⟩ := hP rfl; have N2 := Lib.hid hN; have B3 := Lib.hid hB; clear hP hN hB))
  obtain ⟨d, v3, v4, ob, oc, gb, gc, g, q, L, hG, hQ, hb, hC⟩ := N2.out
  have C0 := Lib.hid hC
  have hg2 : g = 2 := by omega
  have BW0 : Hid (Below w.heap.size w w0) := Lib.hid (B2.out.trans (B3.out.mono B2.out.size))
  have hlo : w.heap.size ≤ w2.heap.size := B2.out.size
  clear hC hG hQ WK
  have ha : 0 ≤ (fresh 0 (q : Int) d v3 v4).cnt ∧ (fresh 0 (q : Int) d v3 v4).cnt < 1099511627776 := ⟨Int.le_refl 0, (by decide : (0 : Int) < 1099511627776)⟩
  have hn : 0 ≤ (fresh 0 (q : Int) d v3 v4).num ∧ (fresh 0 (q : Int) d v3 v4).num < 16 := ⟨Int.le_refl 0, (by decide : (0 : Int) < 16)⟩
  go_upto_region 7 with (go_at_call 14; go_loud (refine (call_begin p _ ⟨#[]⟩ ⟨#[]⟩ w0 C0.out.cl rfl rfl ha hn).mono ?_; rintro e w4 ⟨tb, m1, m2, m3, m4, rfl, hG⟩; have G4 := Lib.hid hG; clear hG))
  have C4 := Lib.hid (C0.out.begun G4.out)
  have K4 : Hid (Chg (fun b => b = p ∨ b = gb) w0 w4) := Lib.hid (G4.out.chg.more (fun _ _ e => .inl e))
  have hmm := @run_makeMap Try.prog
  go_upto_region 8 with (fail)
  refine Msg.world_out (fun W5 hW5 => ?_)
  obtain ⟨bw, hbw⟩ : ∃ b, b = w4.heap.size := ⟨_, rfl⟩
  rw [← hbw]
  have B5 : Hid (Below w4.heap.size w4 W5) := Lib.hid (by rw [hW5]; exact (Below.refl _ _).alloc (Nat.le_refl _) _)
  have F5 : Hid (IsF mW W5 bw 0 (fun _ => none)) := Lib.hid (by rw [hW5, hbw]; exact IsF.made w4)
  have bw' : w4.heap.size ≤ bw := Nat.le_of_eq hbw.symm
  clear hW5 hbw
  go_upto_region 9 with (fail)
  refine Msg.world_out (fun W6 hW6 => ?_)
  obtain ⟨br, hbr⟩ : ∃ b, b = W5.heap.size := ⟨_, rfl⟩
  rw [← hbr]
  have B6 : Hid (Below W5.heap.size W5 W6) := Lib.hid (by rw [hW6]; exact (Below.refl _ _).alloc (Nat.le_refl _) _)
  have F6 : Hid (IsF mA W6 br 0 (fun _ => none)) := Lib.hid (by rw [hW6, hbr]; exact IsF.made W5)
  have br' : bw < br := by have := F5.out.lt; omega
  have G6 := Lib.hid (F5.out.below F5.out.lt B6.out)
  clear hW6 hbr hmm
  go_upto_region 10 with (fail)
  refine Msg.world_out (fun W7 hW7 => ?_)
  obtain ⟨ab, hab⟩ : ∃ b, b = W6.heap.size := ⟨_, rfl⟩
  rw [← hab]
  have B7 : Hid (Below W6.heap.size W6 W7) := Lib.hid (by rw [hW7]; exact (Below.refl _ _).alloc (Nat.le_refl _) _)
  have Q7 : Hid (Blk W7 ab 48 (askC [])) := Lib.hid (by rw [hW7, hab]; exact Blk.new W6 48 _)
  have ab' : br < ab := by have := F6.out.lt; omega
  have F7 := Lib.hid (G6.out.below G6.out.lt B7.out)
  have R7 := Lib.hid (F6.out.below F6.out.lt B7.out)
  have BB : Hid (Below w4.heap.size w4 W7) := Lib.hid ((B5.out.trans (B6.out.mono B5.out.size)).trans (B7.out.mono (by have := B5.out.size; have := B6.out.size; omega)))
  have S7 : Hid (OwnS w w0 w2.heap.size p (fresh 0 (q : Int) d v3 v4) ob oc gb gc g q L [⟨#[109]⟩] w4.heap.size bw br ab 0 W7) := Lib.hid ⟨_, _, TxS.mk ((fresh 0 (q : Int) d v3 v4).cnt + 1) (fresh 0 (q : Int) d v3 v4).num (-1) [] [] [] (fun _ => none) (fun _ => none) [], fun _ => none,
    ⟨C4.out.keep BB.out, rfl, rfl, rfl, ⟨Int.le_refl _, Int.le_refl _⟩, (G4.out.txAt0).keep BB.out, Nat.zero_le _, ⟨G4.out.tx.blk.lt, G4.out.tx.k1.lt, G4.out.tx.k2.lt, G4.out.tx.k3.lt, G4.out.tx.k4.lt⟩, Nat.zero_le _, List.Pairwise.nil, (fun y hy => nomatch hy), .inl ⟨rfl, rfl, rfl⟩, Q7.out, K4.out.then BB.out⟩, F7.out, R7.out, fun _ => rfl⟩
  have sB : w0.heap.size ≤ w4.heap.size := K4.out.size
  clear hW7 hab F5 F6 G6 Q7 F7 R7 BB B5 B6 B7 C4 K4 ha hn
  have low : Hid (∀ v, Chg (fun b => b = p ∨ b = gb) w0 v → Below w.heap.size w v) := Lib.hid (fun v hv => by
    have hpw : w.heap.size ≤ p := Nat.le_trans hlo C0.out.hp
    have hgw : w.heap.size ≤ gb := Nat.le_trans hlo C0.out.hg
    have k1 : Chg (fun b => w.heap.size ≤ b) w w0 := Chg.of BW0.out
    exact (k1.on (hv.more (fun _ _ e => by omega))).below (Nat.le_refl _) (fun _ e => e))
  generalize hB1 : w4.heap.size = B1 at *
  clear hB1 G4
  generalize hc0 : fresh 0 (q : Int) d v3 v4 = c0 at *
  have E0 := Lib.hid hc0
  clear hc0
  go_wp2_with (fail)
  go_loopg [8] (min n 60) (OwnR w w0 w2.heap.size p c0 ob oc gb gc g q L [⟨#[109]⟩] B1 bw br ab n)
  case atStart => exact ⟨0, rfl, by omega, rfl, S7.out⟩
  case round =>
    obtain ⟨i, hgk, hi, rfl, hS⟩ := hrel
    obtain ⟨c, x, t, fr, hS1, hS2, hS3, hS4⟩ := hS.it
    have S := Lib.hid hS1
    have FW := Lib.hid hS2
    have FR := Lib.hid hS3
    have RR := Lib.hid hS4
    clear hS hS1 hS2 hS3 hS4
    by_cases hend : i < n ∧ i < 60
    · as_aux_lemma =>
      obtain ⟨hin, h60⟩ := hend
      have hin' : (i : Int) < (n : Int) := by omega
      have h60' : (i : Int) < 60 := by omega
      obtain ⟨lb, lof, rfl, hlb, hlc⟩ := HI.out (by omega)
      obtain ⟨O, okd, key, val, fo, ov, hO, hrO⟩ := hlc i hin
      have OO := Lib.hid hO
      have hrO' : wr.rangeAt lb (lof + i * 30) O.toList := fun j u hu => ((low.out wr S.out.K0).cell (p := ⟨lb, lof + i * 30 + j, none⟩) hlb).trans (hrO j u hu)
      obtain ⟨hO1, hO2⟩ := valN_eq hO.1.1 hrO'
      have hOC := hO.1
      have rn := fun (Z : Array Value) (hZ : Z.size = 30) => roomN_new (n := 30) wr 57 Z hZ
      clear hlc hrO hrO' hO
      go_upto_region 14 with (fail)
      refine Msg.world_out (fun W8 hW8 => ?_)
      obtain ⟨b9, hb9⟩ : ∃ b, b = wr.heap.size := ⟨_, rfl⟩
      rw [← hb9] at hW8 ⊢
      have B8 : Hid (Below wr.heap.size wr W8) := Lib.hid (by rw [hW8, hb9]; exact putN_below ((Below.refl _ _).alloc (Nat.le_refl _) _) (Nat.le_refl _) 0 _)
      have O8 : Hid (Blk W8 b9 57 O) := Lib.hid (by rw [hW8, hb9]; exact putN_fill (Blk.new wr 57 _) (by rw [hOC.1]; rfl))
      have lb9 : wr.heap.size ≤ b9 := Nat.le_of_eq hb9.symm
      have S8 := Lib.hid (S.out.keep B8.out)
      have o0 : W8.cell? ⟨b9, 0, none⟩ = some (.int .i64 okd) := by rw [O8.out.cell]; exact OO.out.2.1
      clear hW8 hb9 rn hOC hO1 hO2
      go_upto_region 15 with (fail)
      obtain ⟨kq, hkq, ekq⟩ := mod3 okd
      rw [ekq]
      obtain ⟨kd, hkd0⟩ : ∃ kd, kd = wrap64 (2 + (kq : Int)) := ⟨_, rfl⟩
      have KD : Hid (kd = 2 ∨ kd = 3 ∨ kd = 4) := Lib.hid (by rw [hkd0]; exact kd_of kq hkq)
      rw [← hkd0]
      clear hkd0 ekq hkq o0
      have o1 : W8.cell? ⟨b9, 1, none⟩ = some (.string key) := by rw [O8.out.cell]; exact OO.out.2.2.1
      have o2 : W8.cell? ⟨b9, 2, none⟩ = some (.string val) := by rw [O8.out.cell]; exact OO.out.2.2.2.1
      have grl : t.gr.length ≤ 100 := by rcases gr_cases S.out.grS S.out.grI with e | e | e | e <;> rw [e] <;> decide
      have CA := Lib.hid (call_all w2.heap.size p c ob oc gb gc g q L (heads L) [⟨#[109]⟩] w0 x t kd KD.out key val W8 S8.out.cli hg2.symm hb.2.1 S.out.vt S.out.waits S8.out.tx (by have := S.out.N; unfold maxLen; omega) grl S.out.grS (by have := S.out.seq; omega) c0 (heads L) C0.out S8.out.K0 ⟨S8.out.cli.vo.trans C0.out.vo.symm, S8.out.cli.vg.trans C0.out.vg.symm, S.out.D⟩)
      clear grl
      go_upto_region 16 with (go_at_call 14; go_loud (refine CA.out.mono ?_; rintro e w9 ⟨A, m, cap, ac, dd, er, rfl, hR⟩; have R9 := Lib.hid hR; have rn := roomN_new (n := 11) w9 43 #[.int .i64 0, .int .i64 0, .int .i64 0, .int .i64 0, .string ⟨#[]⟩, .string ⟨#[]⟩, .bool false, .int .i64 0, .int .i64 0, .int .i64 0, .int .i64 0] rfl; have bc : CellsN 11 ac.cs := ActV.cells ac; clear hR))
      refine Msg.world_out (fun W10 hW10 => ?_)
      obtain ⟨b12, hb12⟩ : ∃ b, b = w9.heap.size := ⟨_, rfl⟩
      rw [← hb12] at hW10 ⊢
      have B10 : Hid (Below w9.heap.size w9 W10) := Lib.hid (by rw [hW10, hb12]; exact putN_below ((Below.refl _ _).alloc (Nat.le_refl _) _) (Nat.le_refl _) 0 _)
      have A10 : Hid (Blk W10 b12 43 ac.cs) := Lib.hid (by rw [hW10, hb12]; exact putN_fill (Blk.new w9 43 _) rfl)
      have lb12 : w9.heap.size ≤ b12 := Nat.le_of_eq hb12.symm
      clear hW10 hb12 rn bc CA o1 o2
      go_upto_if 77 with (fail)
      go_cut [77] from 44 to 214 (fun _ wr' => er = 0 ∧ wr' = W10)
      case first =>
        as_aux_lemma =>
        have R9c := R9.out
        cases R9c with
        | err her hb =>
          as_aux_lemma =>
          have hb9 := Lib.hid hb
          have hi1 : i + 1 ≤ 60 := by omega
          have S10 := Lib.hid ((S8.out.keep hb9.out).keep B10.out)
          have T10 : Hid (Below wr.heap.size wr W10) := Lib.hid ((B8.out.trans (hb9.out.mono B8.out.size)).trans (B10.out.mono (by have := B8.out.size; have := hb9.out.size; omega)))
          clear hb
          rcases her with rfl | rfl | rfl
          all_goals
            go_wp2_with fail
            go_roundg (min n 60 - (i + 1))
            case measure => omega
            case rel => exact ⟨i + 1, rfl, by omega, by go_num, ⟨c, x, t, fr, S10.out.more (Nat.le_succ i), (FW.out.below FW.out.lt T10.out).mono (Nat.le_succ i), (FR.out.below FR.out.lt T10.out).mono (Nat.le_succ i), RR.out⟩⟩
        | done t' nn ok hd hn ht hc =>
          as_aux_lemma =>
          clear hd hn ht hc
          go_wp2_with fail
          go_meet
          case rel => exact ⟨trivial, rfl⟩
        | ask k nd vs gr hm mode ok ha hl =>
          as_aux_lemma =>
          clear ha hl
          go_wp2_with fail
          go_meet
          case rel => exact ⟨trivial, rfl⟩
      case rest =>
      as_aux_lemma =>
      obtain ⟨her, rfl⟩ := hcut
      go_upto_if 89 with (fail)
      go_cut [13] from 44 to 214 (MidR w0 w2.heap.size p c0 ob oc gb gc g q L [⟨#[109]⟩] B1 ab bw br b9 b12 i kd key val t fr O)
      case first =>
        as_aux_lemma =>
        have R9c := R9.out
        cases R9c with
        | err her2 hb => rcases her2 with e | e | e <;> (rw [e] at her; cases her)
        | done t' nn ok hd hn ht hc =>
          as_aux_lemma =>
          have D9 := Lib.hid (And.intro hd (And.intro hn (And.intro ht hc)))
          clear hd hn ht hc
          go_wp2_with fail
          go_meet
          case rel =>
            obtain ⟨hd, hn, ht, hc⟩ := D9.out
            have sx := S8.out.xB
            have fw := (map_kept (B1 := B1) (FW.out.below FW.out.lt B8.out) S8.out.tx hc bw' (fun j e => .inl (by omega)))
            have frr := (map_kept (B1 := B1) (FR.out.below FR.out.lt B8.out) S8.out.tx hc (by omega) (fun j e => .inl (by omega)))
            have oo := O8.out.chg hc (by have := S.out.tx.k2.lt; have := S.out.tx.k4.lt; omega)
            exact ⟨ac, c, _, t', A10.out, hd.step, ((S8.out.done C0.out (by omega) hd hn ht hc).keep B10.out), fw.below fw.lt B10.out, frr.below frr.lt B10.out, oo.below B10.out oo.lt, ok⟩
        | @ask _ _ b k nd vs gr hm mode ok ha hl =>
          as_aux_lemma =>
          have HL := Lib.hid (hl.keep B10.out)
          have HA := Lib.hid ha
          have hkg : k < g := hl.hk
          have hlb := hl.hb
          have hlm := hl.msg.lt
          have h89 := hl.chg.size
          clear ha hl
          obtain ⟨MS, hMS⟩ : ∃ MS, MS = aimedM (reqM (lockM hm mode ac.key) (c.seq + 1) t.n t.c c.num) k nd := ⟨_, rfl⟩
          have MM : Hid (Blk wc b 55 MS) := Lib.hid (by rw [hMS]; exact HL.out.msg)
          have ME : Hid (MsgC MS ∧ MS[12]? = some (.int .i64 (c.seq + 1)) ∧ MS[13]? = some (.int .i64 t.n) ∧ MS[14]? = some (.int .i64 t.c) ∧ MS[3]? = some (.int .i64 (k : Int))) := Lib.hid (by
            rw [hMS]
            exact ⟨msgC_set (msgC_set (reqM_ok (lockM_ok _ _ _) _ _ _ _) 3 rfl) 4 rfl, by simp [aimedM, reqM, lockM], by simp [aimedM, reqM, lockM], by simp [aimedM, reqM, lockM], by simp [aimedM, reqM, lockM]⟩)
          clear hMS
          have m3 : wc.cell? ⟨b, 3, none⟩ = some (.int .i64 (k : Int)) := by rw [MM.out.cell]; exact ME.out.2.2.2.2
          have k2 : (k : Int) < 2 := by omega
          have k1 : ¬ (1 : Int) < (k : Int) := by omega
          have sx := S8.out.xB
          have vB := HL.out.chg
          have ASK : Hid (Blk wc ab 48 (askC t.gr)) := Lib.hid (blk_kept (B1 := B1) S8.out.asked (by decide) S8.out.tx HL.out.chg (by omega) (fun j e => by
            have p0 := C0.out.cl.blk.lt
            rcases e with e | e | e | e
            · exact .inl (by omega)
            · exact .inl (by omega)
            · exact .inl (by omega)
            · exact .inr e))
          obtain ⟨ub, hub⟩ : ∃ u, wc.cell? ⟨ab, k, none⟩ = some u := ⟨_, by rw [ASK.out.cell, Array.getElem?_eq_getElem (by show k < 2; omega)]⟩
          have fub := ASK.out.frozen k
          go_upto_region 22 with (fail)
          go_upto_region 23 with (fail)
          refine Msg.world_out (fun W11 hW11 => ?_)
          have lab : ab < W8.heap.size := S8.out.asked.lt
          have labr : ab < wr.heap.size := S.out.asked.lt
          have lO8 : b9 < W8.heap.size := O8.out.lt
          have s9c : w9.heap.size ≤ wc.heap.size := B10.out.size
          have KA : Hid (Chg (fun j => j = ab) wc W11) := Lib.hid (by rw [hW11]; exact Chg.set (S := fun j => j = ab) (Chg.refl _ wc) (p := ⟨ab, k, none⟩) (.inr rfl) _)
          have S11 := Lib.hid (S8.out.ask C0.out (by omega) hg2 HL.out)
          rw [← hW11] at S11
          have hk4 : ∀ j, (j = p ∨ j = x.tb ∨ j = x.m1 ∨ x.vs.ownBlock = some j) → j < B1 ∨ x.vs.ownBlock = some j := fun j e => by
            have p0 := C0.out.cl.blk.lt
            rcases e with e | e | e | e
            · exact .inl (by omega)
            · exact .inl (by omega)
            · exact .inl (by omega)
            · exact .inr e
          have M11 : Hid (Blk W11 b 55 MS) := Lib.hid (MM.out.chg KA.out (by omega))
          have A11 : Hid (Blk W11 b12 43 ac.cs) := Lib.hid (A10.out.chg KA.out (by omega))
          have O11 : Hid (Blk W11 b9 57 O) := Lib.hid ((blk_kept (B1 := B1) O8.out (by decide) S8.out.tx HL.out.chg (by omega) hk4).chg KA.out (by omega))
          have W11F : Hid (IsF mW W11 bw i t.la) := Lib.hid (by
            have h := map_kept (B1 := B1) (FW.out.below FW.out.lt B8.out) S8.out.tx HL.out.chg bw' hk4
            exact isF_same h (KA.out.block bw h.lt (by omega)))
          have R11F : Hid (IsF mA W11 br i fr) := Lib.hid (by
            have h := map_kept (B1 := B1) (FR.out.below FR.out.lt B8.out) S8.out.tx HL.out.chg (by omega) hk4
            exact isF_same h (KA.out.block br h.lt (by omega)))
          obtain ⟨c1, x1, t1, PK⟩ : ∃ (c1 : Client) (x1 : TxB) (t1 : TxS), OwnC w0 w2.heap.size p c0 ob oc gb gc g q L [⟨#[109]⟩] B1 ab true (i + 1) W11 c1 x1 t1 ∧ AskR kd key val t1 c1.act ∧ c1.M[12]? = some (.int .i64 (c.seq + 1)) ∧ c1.M[13]? = some (.int .i64 t1.n) ∧ c1.M[14]? = some (.int .i64 t1.c) ∧ x1.N ≤ 3 * i + 1 ∧ (t1.n = t.n ∧ t1.c = t.c ∧ t1.la = t.la ∧ t1.rd = t.rd ∧ t1.ls = t.ls) :=
            ⟨_, _, _, S11.out, HA.out, by simp [reqM, lockM], by simp [reqM, lockM], by simp [reqM, lockM], by have := S.out.N; show x.N + 1 ≤ _; omega, rfl, rfl, rfl, rfl, rfl⟩
          have P1 := Lib.hid PK
          have sx1 := P1.out.1.xB
          have p0 := C0.out.cl.blk.lt
          have s12 : b12 < W11.heap.size := A11.out.lt
          clear PK S11 HL HA hk4 KA MM ASK hub fub m3 k2 k1 hW11 vB
          have FS : Hid (∀ v, Chg (fun j => j = p ∨ j = x1.m2 ∨ j = x1.m3 ∨ j = x1.m4 ∨ j = b12) W11 v → (HasMsg v b 0 ∧ msgAt v b 0 = MS) ∧ v.cell? ⟨b9, 28, none⟩ = some (.string ov) ∧ v.cell? ⟨b9, 27, none⟩ = some (.bool fo)) := Lib.hid (fun v hv => by
            have g1 := M11.out.chg hv (by omega)
            have g2 := O11.out.chg hv (by omega)
            exact ⟨blk_has g1 ME.out.1.1, by rw [g2.cell]; exact OO.out.2.2.2.2.2, by rw [g2.cell]; exact OO.out.2.2.2.2.1⟩)
          have hS4 : ¬ (b12 = p ∨ b12 = x1.m2 ∨ b12 = x1.m3 ∨ b12 = x1.m4) := by omega
          have hS5 : ∀ j, (j = p ∨ j = x1.m2 ∨ j = x1.m3 ∨ j = x1.m4) → (j = p ∨ j = x1.m2 ∨ j = x1.m3 ∨ j = x1.m4 ∨ j = b12) := fun j e => by omega
          have HS := Lib.hid (And.intro hS4 hS5)
          clear hS4 hS5
          have AN := Lib.hid (fun v => answer_any MS ov fo (c.seq + 1) t1.n t1.c v ME.out.1 ME.out.2.1 (by rw [P1.out.2.2.2.2.2.2.1]; exact ME.out.2.2.1) (by rw [P1.out.2.2.2.2.2.2.2.1]; exact ME.out.2.2.2.1))
          have TK := Lib.hid (fun (v : World) (hv : Below W11.heap.size W11 v) => take_all w2.heap.size p c1 ob oc gb gc g q L (heads L) [⟨#[109]⟩] _ x1 t1 kd KD.out key val fo ov (c.seq + 1) v (P1.out.1.cli.keep hv) P1.out.1.waits P1.out.1.vt (P1.out.1.tx.keep hv) (by have := P1.out.2.2.2.2.2.1; unfold maxLen; omega) ok P1.out.2.1 P1.out.2.2.1 P1.out.2.2.2.1 P1.out.2.2.2.2.1)
          have S0 := Lib.hid (FS.out W11 (Chg.refl _ _))
          have S1 := Lib.hid (FS.out W11.drew ((Chg.refl _ _).drew))
          go_region_held3 (fun v => (HasMsg v b 0 ∧ msgAt v b 0 = MS) ∧ v.cell? ⟨b9, 28, none⟩ = some (.string ov) ∧ v.cell? ⟨b9, 27, none⟩ = some (.bool fo)) (first | with_reducible exact S0.out | with_reducible exact S1.out | with_reducible exact S2.out | with_reducible exact S3.out | with_reducible exact S4.out _) (first
            | (go_at_call 16; refine (AN.out _).mono ?_; rintro e w13 ⟨rfl, hB⟩
               have B13 := Lib.hid ((Below.refl W11.heap.size W11).drew.trans hB)
               have S2 := Lib.hid (FS.out w13 (Chg.of B13.out))
               clear hB)
            | (go_at_call 15; refine (TK.out w13 B13.out).mono ?_; rintro e w14 ⟨ac2, t2, rfl, r1, r2, r3, r4, r5, r6, r7⟩
               have K14 := Lib.hid ((Chg.of B13.out).on (r7.more (fun j _ e => HS.out.2 j e)) : Chg (fun j => j = p ∨ j = x1.m2 ∨ j = x1.m3 ∨ j = x1.m4 ∨ j = b12) W11 w14)
               have T14 := Lib.hid (And.intro r1 (And.intro r2 (And.intro r3 (And.intro r4 (And.intro r5 (And.intro r6 r7))))))
               have S3 := Lib.hid (FS.out w14 K14.out)
               have S4 := Lib.hid (fun C : Array Value => FS.out (putN w14 b12 0 C) (putN_chg K14.out (.inr (.inr (.inr (.inr (.inr rfl))))) 0 C))
               have A14 := Lib.hid ((A11.out.below B13.out A11.out.lt).chg r7 HS.out.1)
               have rm : RoomN 11 w14 b12 0 := blkN_room A14.out rfl
               have bc : CellsN 11 ac2.cs := ActV.cells ac2
               clear r1 r2 r3 r4 r5 r6 r7))
          go_upto_region 24 with (fail)
          refine Msg.world_out (fun W15 hW15 => ?_)
          obtain ⟨r1, r2, r3, r4, r5, r6, r7⟩ := T14.out
          have KB : Hid (Chg (fun j => j = b12) w14 W15) := Lib.hid (by rw [hW15]; exact putN_chg (S := fun j => j = b12) (Chg.refl _ w14) (.inr rfl) 0 _)
          have A15 : Hid (Blk W15 b12 43 ac2.cs) := Lib.hid (by rw [hW15]; exact putN_fill A14.out rfl)
          have S14 := Lib.hid ((P1.out.1.keep B13.out).took C0.out (by omega) ⟨r2, r3, r4⟩ r5 r6 (by have := P1.out.2.2.2.2.2.1; omega) r7)
          have S15 := Lib.hid (S14.out.apart C0.out sB KB.out (b := b12) (by omega) (by omega) (own_blk_ne S14.out.tx.gr A14.out (by decide)))
          have far : Hid (∀ j, (j < b9 ∨ j = b9) → B1 ≤ j → ¬ (j = p ∨ j = x1.m2 ∨ j = x1.m3 ∨ j = x1.m4) ∧ j ≠ b12) := Lib.hid (fun j h1 h2 => by omega)
          have O13 := O11.out.below B13.out O11.out.lt
          have O14 := O13.chg r7 (far.out b9 (.inr rfl) (by omega)).1
          have O15 : Hid (Blk W15 b9 57 O) := Lib.hid (O14.chg KB.out (far.out b9 (.inr rfl) (by omega)).2)
          have w13 := W11F.out.below W11F.out.lt B13.out
          have w14' := isF_same w13 (r7.block bw w13.lt (far.out bw (.inl (by omega)) (by omega)).1)
          have w15 : Hid (IsF mW W15 bw i t.la) := Lib.hid (isF_same w14' (KB.out.block bw w14'.lt (far.out bw (.inl (by omega)) (by omega)).2))
          have q13 := R11F.out.below R11F.out.lt B13.out
          have q14 := isF_same q13 (r7.block br q13.lt (far.out br (.inl (by omega)) (by omega)).1)
          have q15 : Hid (IsF mA W15 br i fr) := Lib.hid (isF_same q14 (KB.out.block br q14.lt (far.out br (.inl (by omega)) (by omega)).2))
          have ST : Hid (Step kd key val t t2 ac2) := Lib.hid (by
            obtain ⟨e1, e2, e3, e4, e5⟩ := P1.out.2.2.2.2.2.2
            obtain ⟨u1, u2, u3⟩ := r1
            rw [e3, e4, e5] at u3
            exact ⟨u1.trans e1, u2.trans e2, u3⟩)
          clear r1 r2 r3 r4 r5 r6 r7 hW15 O13 O14 w13 w14' q13 q14 rm bc S0 S1 S2 S3 S4
          go_wp2_with fail
          go_meet
          case rel => exact ⟨ac2, _, _, t2, A15.out, ST.out, S15.out, w15.out, q15.out, O15.out, ok⟩
      case rest =>
      as_aux_lemma =>
      obtain ⟨ac2, c2, x2, t2, hM⟩ := hcut
      have M := Lib.hid hM
      clear hM R9 A10 B10 O8 S8 her
      have ok := M.out.ok
      have OKK := Lib.hid ok
      have o1 : wc.cell? ⟨b9, 1, none⟩ = some (.string key) := by rw [M.out.op.cell]; exact OO.out.2.2.1
      obtain ⟨y, hy⟩ : ∃ y, y = (t.la key).getD (ByteArray.empty, ByteArray.empty, false) := ⟨_, rfl⟩
      obtain ⟨is, his⟩ : ∃ is, is = (t.la key).isSome := ⟨_, rfl⟩
      have lk1 : (Instr.lookup 46 (.map (some bw)) (.string key) true).run Try.prog wc = .ok (.tuple #[.agg #[.string y.1, .string y.2.1, .bool y.2.2], .bool is]) wc := by
        have h := M.out.wrote.look_ok Try.underlying46 (z0 := (ByteArray.empty, ByteArray.empty, false)) (zero63 wc) key ok
        rw [← hy, ← his] at h
        exact h
      have HY := Lib.hid (And.intro hy his)
      clear hy his ok
      go_upto_region 27 with (fail)
      refine Msg.world_out (fun W26 hW26 => ?_)
      obtain ⟨b15, hb15⟩ : ∃ b, b = wc.heap.size := ⟨_, rfl⟩
      rw [← hb15]
      have B26 : Hid (Below wc.heap.size wc W26) := Lib.hid (by rw [hW26]; exact (Below.refl _ _).alloc (Nat.le_refl _) _)
      have Y26 : Hid (Blk W26 b15 63 #[.string y.1, .string y.2.1, .bool y.2.2]) := Lib.hid (by rw [hW26, hb15]; exact Blk.new wc 63 _)
      clear hW26 hb15 lk1 o1
      have O26 := Lib.hid (M.out.op.below B26.out M.out.op.lt)
      have o1 : W26.cell? ⟨b9, 1, none⟩ = some (.string key) := by rw [O26.out.cell]; exact OO.out.2.2.1
      obtain ⟨r, hr⟩ : ∃ r, r = (fr key).getD zeroAct := ⟨_, rfl⟩
      obtain ⟨was, hwas⟩ : ∃ was, was = (fr key).isSome := ⟨_, rfl⟩
      obtain ⟨RC, hRC⟩ : ∃ RC, RC = r.cs := ⟨_, rfl⟩
      have lk2 : (Instr.lookup 47 (.map (some br)) (.string key) true).run Try.prog W26 = .ok (.tuple #[.agg RC, .bool was]) W26 := by
        have h := (M.out.read.below M.out.read.lt B26.out).look_ok Try.underlying47 (z0 := zeroAct) (zero43 W26) key OKK.out
        rw [← hr, ← hwas] at h
        rw [hRC]
        exact h
      have rc : CellsN 11 RC := by rw [hRC]; exact ActV.cells r
      have HR := Lib.hid (And.intro hr (And.intro hwas hRC))
      have rn := roomN_new (n := 11) W26 43 #[.int .i64 0, .int .i64 0, .int .i64 0, .int .i64 0, .string ⟨#[]⟩, .string ⟨#[]⟩, .bool false, .int .i64 0, .int .i64 0, .int .i64 0, .int .i64 0] rfl
      clear hr hwas hRC
      go_upto_region 28 with (fail)
      refine Msg.world_out (fun W27 hW27 => ?_)
      obtain ⟨b17, hb17⟩ : ∃ b, b = W26.heap.size := ⟨_, rfl⟩
      rw [← hb17] at hW27 ⊢
      have B27 : Hid (Below W26.heap.size W26 W27) := Lib.hid (by rw [hW27, hb17]; exact putN_below ((Below.refl _ _).alloc (Nat.le_refl _) _) (Nat.le_refl _) 0 _)
      have R27 : Hid (Blk W27 b17 43 RC) := Lib.hid (by rw [hW27, hb17]; exact putN_fill (Blk.new W26 43 _) (by rw [rc.1]; rfl))
      clear hW27 hb17 lk2 o1 rn rc
      have BM : Hid (Below wc.heap.size wc W27) := Lib.hid (B26.out.trans (B27.out.mono B26.out.size))
      have Y27 := Lib.hid (Y26.out.below B27.out Y26.out.lt)
      have O27 := Lib.hid (M.out.op.below BM.out M.out.op.lt)
      have A27 := Lib.hid (M.out.act.below BM.out M.out.act.lt)
      have S27 := Lib.hid (M.out.own.keep BM.out)
      have F27 := Lib.hid (M.out.wrote.below M.out.wrote.lt BM.out)
      have Q27 := Lib.hid (M.out.read.below M.out.read.lt BM.out)
      have o1 : W27.cell? ⟨b9, 1, none⟩ = some (.string key) := by rw [O27.out.cell]; exact OO.out.2.2.1
      have o2 : W27.cell? ⟨b9, 2, none⟩ = some (.string val) := by rw [O27.out.cell]; exact OO.out.2.2.2.1
      have hi1 : i + 1 ≤ 60 := by omega
      rcases M.out.step.it with ⟨k1, e1, e2, ⟨y1, y2, y3⟩, e3, e4, e5, e6⟩ | ⟨k1, e1, e2, e3, st, e4, e5⟩ | ⟨k1, e1, e2, e3, e4⟩
      · as_aux_lemma =>
        have E := Lib.hid (And.intro e1 (And.intro e2 e6))
        have hy : y = (y1, y2, y3) := by rw [HY.out.1, e3]; rfl
        have hs : is = true := by rw [HY.out.2, e3]; rfl
        have a5 : W27.cell? ⟨b12, 5, none⟩ = some (.string y2) := by rw [A27.out.cell]; simp [ActV.cs, show ac2.value = y2 from e5]
        have a6 : W27.cell? ⟨b12, 6, none⟩ = some (.bool !y3) := by rw [A27.out.cell]; simp [ActV.cs, show ac2.found = !y3 from e4]
        have z1 : W27.cell? ⟨b15, 1, none⟩ = some (.string y2) := by rw [Y27.out.cell, hy]; rfl
        have z2 : W27.cell? ⟨b15, 2, none⟩ = some (.bool y3) := by rw [Y27.out.cell, hy]; rfl
        subst k1 hs
        clear e1 e2 e3 e4 e5 e6 hy
        cases y3
        all_goals
          go_wp2_with fail
          go_roundg (min n 60 - (i + 1))
          case measure => omega
          case rel => exact ⟨i + 1, rfl, by omega, by go_num, ⟨c2, x2, t2, fr, S27.out, by rw [E.out.1]; exact F27.out.mono (Nat.le_succ i), Q27.out.mono (Nat.le_succ i), fun k => by rw [E.out.2.2]; exact RR.out k⟩⟩
      · as_aux_lemma =>
        have E := Lib.hid (And.intro e1 (And.intro e2 e4))
        have hs : is = false := by rw [HY.out.2, e3]; rfl
        have a5 : W27.cell? ⟨b12, 5, none⟩ = some (.string ac2.value) := by rw [A27.out.cell]; simp [ActV.cs]
        have a6 : W27.cell? ⟨b12, 6, none⟩ = some (.bool ac2.found) := by rw [A27.out.cell]; simp [ActV.cs]
        have RE : Hid (was = true → r.found = ac2.found ∧ r.value = ac2.value) := Lib.hid (fun hw => by
          have h1 := RR.out key
          have h2 := HR.out.2.1
          rw [hw] at h2
          obtain ⟨r0, h3⟩ := Option.isSome_iff_exists.1 h2.symm
          have h4 := HR.out.1
          rw [h3] at h4 h1
          have h5 : r = r0 := h4
          rcases e5 with e | e
          · rw [e] at h1; cases h1
          · rw [e] at h1
            simp only [Option.map_some, Option.some.injEq, Prod.mk.injEq] at h1
            rw [h5]
            exact h1)
        obtain ⟨AC, hAC⟩ : ∃ AC, AC = ac2.cs := ⟨_, rfl⟩
        have AB : Hid (Blk W27 b12 43 AC) := Lib.hid (by rw [hAC]; exact A27.out)
        obtain ⟨hh, hv⟩ := blkN_has AB.out (n := 11) (by rw [hAC]; rfl)
        obtain ⟨w37, hst, hF, hturn⟩ := IsF.store (w := W27) (t := 47) (e := 43) Q27.out Try.underlying47 (by unfold maxLen; omega) key OKK.out ac2
        have hst' : (Instr.mapUpdate 47 (.map (some br)) (.string key) (.agg AC)).run Try.prog W27 = .ok () w37 := by rw [hAC]; exact hst
        have K37 : Hid (Chg (fun j => j = br) W27 w37) := Lib.hid (Chg.grown hturn.grown)
        have F37 := Lib.hid hF
        have S37 := Lib.hid (S27.out.apart C0.out sB K37.out (by omega) (by omega) (own_ne_map S27.out.tx.gr Q27.out.isMp))
        have G37 : Hid (IsF mW w37 bw i t.la) := Lib.hid (isF_same F27.out (K37.out.block bw F27.out.lt (by omega)))
        obtain ⟨fb, hfb⟩ : ∃ fb, fb = ac2.found := ⟨_, rfl⟩
        obtain ⟨vb, hvb⟩ : ∃ vb, vb = ac2.value := ⟨_, rfl⟩
        have z5 : was = true → W27.cell? ⟨b17, 5, none⟩ = some (.string vb) := fun hw => by rw [R27.out.cell, HR.out.2.2, hvb, ← (RE.out hw).2]; simp [ActV.cs]
        have z6 : was = true → W27.cell? ⟨b17, 6, none⟩ = some (.bool fb) := fun hw => by rw [R27.out.cell, HR.out.2.2, hfb, ← (RE.out hw).1]; simp [ActV.cs]
        rw [← hvb] at a5
        rw [← hfb] at a6
        subst k1 hs
        clear e1 e2 e3 e4 e5 hAC hst hF hturn hfb hvb
        cases was with
        | true =>
          have z5 := z5 rfl
          have z6 := z6 rfl
          cases fb
          all_goals
            go_wp2_with fail
            go_roundg (min n 60 - (i + 1))
            case measure => omega
            case rel => exact ⟨i + 1, rfl, by omega, by go_num, ⟨c2, x2, t2, _, S37.out, by rw [E.out.1]; exact G37.out.mono (Nat.le_succ i), F37.out, RR.out.upd E.out.2.2⟩⟩
        | false =>
          clear z5 z6
          go_wp2_with fail
          go_roundg (min n 60 - (i + 1))
          case measure => omega
          case rel => exact ⟨i + 1, rfl, by omega, by go_num, ⟨c2, x2, t2, _, S37.out, by rw [E.out.1]; exact G37.out.mono (Nat.le_succ i), F37.out, RR.out.upd E.out.2.2⟩⟩
      · as_aux_lemma =>
        have E := Lib.hid (And.intro e1 e3)
        have a5 : W27.cell? ⟨b12, 5, none⟩ = some (.string (wv kd val)) := by rw [A27.out.cell]; simp [ActV.cs, e2]
        obtain ⟨w29, hst, hF, hturn⟩ := IsF.store (w := W27) (t := 46) (e := 63) F27.out Try.underlying46 (by unfold maxLen; omega) key OKK.out (key, wv kd val, kd == 4)
        have hst' : (Instr.mapUpdate 46 (.map (some bw)) (.string key) (.agg #[.string key, .string (wv kd val), .bool (kd == 4)])).run Try.prog W27 = .ok () w29 := hst
        have K29 : Hid (Chg (fun j => j = bw) W27 w29) := Lib.hid (Chg.grown hturn.grown)
        have F29 := Lib.hid hF
        have S29 := Lib.hid (S27.out.apart C0.out sB K29.out bw' (by omega) (own_ne_map S27.out.tx.gr F27.out.isMp))
        have G29 : Hid (IsF mA w29 br i fr) := Lib.hid (isF_same Q27.out (K29.out.block br Q27.out.lt (by omega)))
        have b5 : w29.cell? ⟨b12, 5, none⟩ = some (.string (wv kd val)) := K29.out.cell a5 (fun e => (F27.out.isMp.ne_blk A27.out) e)
        have b2 : w29.cell? ⟨b9, 2, none⟩ = some (.string val) := K29.out.cell o2 (fun e => (F27.out.isMp.ne_blk O27.out) e)
        clear e1 e2 e3 e4 hst hF hturn
        have D : Hid (OwnR w w0 w2.heap.size p c0 ob oc gb gc g q L [⟨#[109]⟩] B1 bw br ab n (min n 60 - (i + 1)) (.int .i64 ((i + 1 : Nat) : Int)) w29) := Lib.hid ⟨i + 1, rfl, by omega, rfl, ⟨c2, x2, t2, fr, S29.out, by rw [E.out.2]; exact F29.out, G29.out.mono (Nat.le_succ i), fun k => by rw [E.out.1]; exact RR.out k⟩⟩
        rcases KD.out with rfl | rfl | rfl
        · exact absurd rfl k1
        · have hwv : wv 3 val = val := rfl
          rw [hwv, show ((3 : Int) == 4) = false from rfl] at hst'
          rw [hwv] at a5 b5
          clear k1 hwv
          go_wp2_with fail
          go_roundg (min n 60 - (i + 1))
          case measure => omega
          case rel =>
            have := D.out
            rwa [show ((i + 1 : Nat) : Int) = _ from by go_num] at this
        · have hwv : wv 4 val = ⟨#[]⟩ := rfl
          rw [hwv, show ((4 : Int) == 4) = true from rfl] at hst'
          rw [hwv] at a5 b5
          clear k1 hwv
          go_wp2_with fail
          go_roundg (min n 60 - (i + 1))
          case measure => omega
          case rel =>
            have := D.out
            rwa [show ((i + 1 : Nat) : Int) = _ from by go_num] at this
    · as_aux_lemma =>
      go_upto_region 11 with (fail)
      go_cut [51] from 44 to 51 (fun v wr' => v = .bool false ∧ wr' = wr)
      case first =>
        as_aux_lemma =>
        by_cases hin : i < n
        · have hin' : (i : Int) < (n : Int) := by omega
          have h60' : ¬ (i : Int) < 60 := by omega
          go_wp2_with fail
          go_meet
          case rel => exact ⟨rfl, rfl⟩
        · have hin' : ¬ (i : Int) < (n : Int) := by omega
          go_wp2_with fail
          go_meet
          case rel => exact ⟨rfl, rfl⟩
      case rest =>
      as_aux_lemma =>
      obtain ⟨rfl, rfl⟩ := hcut
      have bc := ActV.cells (actOf c.num 5 t.n t.c ⟨#[]⟩)
      have lowR := S.out.K0
      by_cases hks : t.ks = []
      · as_aux_lemma =>
        have hgr : t.gr = [] := by
          rcases S.out.home with ⟨_, h, _⟩ | ⟨h, _⟩
          · exact h
          · exact absurd hks h
        have CN := Lib.hid (call_commit_none w2.heap.size p c ob oc gb gc g q L (heads L) [⟨#[109]⟩] _ x t ⟨#[]⟩ ⟨#[]⟩ wc S.out.cli S.out.vt S.out.waits S.out.tx hks)
        go_upto_region 39 with (go_at_call 14; go_loud (refine CN.out.mono ?_; rintro e w9 ⟨rfl, hK⟩; have K9 := Lib.hid hK; have rn := roomN_new (n := 11) w9 43 #[.int .i64 0, .int .i64 0, .int .i64 0, .int .i64 0, .string ⟨#[]⟩, .string ⟨#[]⟩, .bool false, .int .i64 0, .int .i64 0, .int .i64 0, .int .i64 0] rfl; clear hK))
        refine Msg.world_out (fun W10 hW10 => ?_)
        have B10 : Hid (Below w9.heap.size w9 W10) := Lib.hid (by rw [hW10]; exact putN_below ((Below.refl _ _).alloc (Nat.le_refl _) _) (Nat.le_refl _) 0 _)
        have AK : Hid (Blk W10 ab 48 (askC [])) := Lib.hid (by
          have h := S.out.asked
          rw [hgr] at h
          have h2 := h.chg K9.out (fun e => by have := C0.out.cl.blk.lt; omega)
          exact h2.below B10.out h2.lt)
        have q0 : W10.cell? ⟨ab, 0, none⟩ = some (.bool false) := AK.out.cell 0
        have q1 : W10.cell? ⟨ab, 1, none⟩ = some (.bool false) := AK.out.cell 1
        have LO : Hid (Below w.heap.size w W10) := Lib.hid (low.out W10 ((lowR.on (K9.out.more (fun _ _ e => .inl e))).then B10.out))
        clear hW10 rn
        go_wp2_with fail
        exact bodyPost_ret (v := .bool true) (by simp [results, Try.results4, go_sem]) rfl ⟨rfl, LO.out⟩
      · as_aux_lemma =>
        obtain ⟨k, hk2, hhome⟩ : ∃ k : Nat, k < 2 ∧ t.home = (k : Int) := by
          rcases S.out.home with ⟨h, _⟩ | ⟨_, _, h⟩
          · exact absurd h hks
          · exact h
        have hgne : t.gr ≠ [] := by
          rcases S.out.home with ⟨h, _⟩ | ⟨_, h, _⟩
          · exact absurd h hks
          · exact h
        have hkg : k < g := by omega
        obtain ⟨nd, hnd⟩ : ∃ nd, (heads L)[k]? = some nd := ⟨_, List.getElem?_eq_getElem (by rw [S.out.cli.lenG]; exact hkg)⟩
        have grl : t.gr.length ≤ 1000 := by rcases gr_cases S.out.grS S.out.grI with e | e | e | e <;> rw [e] <;> decide
        have CN := Lib.hid (call_commit w2.heap.size p c ob oc gb gc g q L (heads L) [⟨#[109]⟩] _ x t k nd ⟨#[]⟩ ⟨#[]⟩ wc S.out.cli S.out.vt S.out.waits S.out.tx (by have := S.out.N; omega) hks (by have := S.out.ksl; omega) grl hkg hhome hnd (by have := S.out.seq; omega))
        clear hnd grl hkg hhome
        go_upto_region 39 with (go_at_call 14; go_loud (refine CN.out.mono ?_; rintro e w9 ⟨mb, ws, rfl, hLd, hE⟩; have L9 := Lib.hid hLd; have E9 := Lib.hid hE; have rn := roomN_new (n := 11) w9 43 #[.int .i64 0, .int .i64 0, .int .i64 0, .int .i64 0, .string ⟨#[]⟩, .string ⟨#[]⟩, .bool false, .int .i64 0, .int .i64 0, .int .i64 0, .int .i64 0] rfl; clear hLd hE))
        refine Msg.world_out (fun W10 hW10 => ?_)
        have B10 : Hid (Below w9.heap.size w9 W10) := Lib.hid (by rw [hW10]; exact putN_below ((Below.refl _ _).alloc (Nat.le_refl _) _) (Nat.le_refl _) 0 _)
        have LO : Hid (Below w.heap.size w W10) := Lib.hid (low.out W10 ((lowR.on (E9.out.chg.more (fun _ _ e => .inl e))).then B10.out))
        have AK : Hid (Blk W10 ab 48 (askC t.gr)) := Lib.hid (by
          have h2 := S.out.asked.chg E9.out.chg (fun e => by have := C0.out.cl.blk.lt; omega)
          exact h2.below B10.out h2.lt)
        have FT : Hid (IsF mW W10 bw i t.la) := Lib.hid (by
          have h2 := isF_same FW.out (E9.out.chg.block bw FW.out.lt (fun e => by have := C0.out.cl.blk.lt; omega))
          exact h2.below h2.lt B10.out)
        obtain ⟨mid, u18, u19, v18, v19, e1, e2, e3, e4, e5, e6, e7, e8⟩ := E9.out.it
        obtain ⟨A18, c18, rfl, z18, s18⟩ := (e5.more (fun _ _ => trivial) : SlIn (fun _ => True) _ _ _ _).keep B10.out
        obtain ⟨A19, c19, rfl, z19, s19⟩ := (e6.more (fun _ _ => trivial) : SlIn (fun _ => True) _ _ _ _).keep B10.out
        obtain ⟨MC, hMC⟩ : ∃ MC, MC = ((aimedM (reqM (endM 7 v18 v19) (c.seq + 1) t.n t.c c.num) k nd).setIfInBounds 18 (.slice A18 ws.length c18)).setIfInBounds 19 (.slice A19 t.gr.length c19) := ⟨_, rfl⟩
        have MM : Hid (Blk W10 mb 55 MC) := Lib.hid (by rw [hMC]; exact e3.below B10.out e3.lt)
        have M0 : MC[0]? = some (.int .i64 7) := by rw [hMC]; simp [aimedM, reqM, endM]
        have M18 : MC[18]? = some (.slice A18 ws.length c18) := by rw [hMC]; simp [aimedM, reqM, endM]
        have M19 : MC[19]? = some (.slice A19 t.gr.length c19) := by rw [hMC]; simp [aimedM, reqM, endM]
        have ME := Lib.hid (And.intro M0 (And.intro M18 M19))
        have SS := Lib.hid (And.intro s18 s19)
        clear hMC M0 M18 M19 e1 e2 e3 e4 e5 e6 e7 e8 z18 z19 s18 s19 CN rn bc hW10
        obtain ⟨nw, hnw⟩ : ∃ nw, nw = ws.length := ⟨_, rfl⟩
        have NW : Hid (nw = ws.length ∧ nw = t.ls.length) := Lib.hid ⟨hnw, by rw [hnw]; have := L9.out.1.length_eq; rwa [List.length_map] at this⟩
        have HW := Lib.hid hnw
        rw [← hnw] at ME
        clear hnw
        have tT := S.out.tx
        have lnd : ∀ j, (Builtin.len_ #[46] 3 #[.map (some bw)]).run Try.prog (W10.drewN j) = .ok (.int .i64 nw) (W10.drewN j) := fun j => by
          rw [NW.out.2]
          exact isF_len (M := mW) (fun _ => rfl) (fun _ => Iff.rfl) (FT.out.below FT.out.lt (below_drewN (Below.refl _ _) j)) t.ls tT.lsN.1 tT.lsN.2.1 tT.lsN.2.2.1 Try.underlying46 3
        have m0 : W10.cell? ⟨mb, 0, none⟩ = some (.int .i64 7) := by rw [MM.out.cell]; exact ME.out.1
        have m18 : W10.cell? ⟨mb, 18, none⟩ = some (.slice A18 nw c18) := by rw [MM.out.cell]; exact ME.out.2.1
        go_upto_region 43 with (fail)
        go_quiet (fail)
        go_upto_region 45 with (fail)
        refine Msg.world_out (fun W11 hW11 => ?_)
        have B11 : Hid (Below W10.heap.size W10 W11) := Lib.hid (by rw [hW11]; exact below_drewN (Below.refl _ _) _)
        clear hW11 m0 m18 lnd
        go_wp2_with (fail)
        go_loopg [22] nw (fun gk v22 wr' => ∃ j : Nat, nw - j = gk ∧ j ≤ nw ∧ v22 = .int .i64 (j : Int) ∧ Below W10.heap.size W10 wr')
        case atStart => exact ⟨0, rfl, Nat.zero_le _, rfl, B11.out⟩
        case round =>
          obtain ⟨j, hgj, hj, rfl, hB⟩ := hrel
          have BJ := Lib.hid hB
          clear hB
          have MJ := Lib.hid (MM.out.below BJ.out MM.out.lt)
          have m18 : wr.cell? ⟨mb, 18, none⟩ = some (.slice A18 nw c18) := by rw [MJ.out.cell]; exact ME.out.2.1
          by_cases hjn : j < nw
          · as_aux_lemma =>
            have hjn' : (j : Int) < (nw : Int) := by omega
            have hj60 : nw ≤ 1000 := by
              have := mW_size FT.out t.ls tT.lsN.1 tT.lsN.2.1 tT.lsN.2.2.1
              have := NW.out.2
              omega
            obtain ⟨yj, hyj⟩ : ∃ y, ws[j]? = some y := ⟨_, List.getElem?_eq_getElem (by rw [← HW.out]; exact hjn)⟩
            obtain ⟨wb, wo, rfl, _, hwc⟩ := SS.out.1 (by rw [wrCells_len, ← HW.out]; omega)
            have cell : ∀ (a r : Nat) (y : WrV), ws[a]? = some y → r < 3 → wr.cell? ⟨wb, wo + (a * 3 + r), none⟩ = (wrC y)[r]? := fun a r y hy hr => by
              have h := wrCells_at ws a r y hy hr
              have h2 : (wrC y)[r]? = some ((wrC y)[r]!) := wrC_at y r hr
              rw [h2] at h ⊢
              have h3 := hwc (a * 3 + r) _ h
              exact (BJ.out.cell (p := ⟨wb, wo + (a * 3 + r), none⟩) (World.block_lt_of_cell? W10 _ h3)).trans h3
            have c0 : wr.cell? ⟨wb, wo + j * 3, none⟩ = some (.string yj.1) := cell j 0 yj hyj (by decide)
            have c1 : wr.cell? ⟨wb, wo + j * 3 + 1, none⟩ = some (.string yj.2.1) := cell j 1 yj hyj (by decide)
            have c2 : wr.cell? ⟨wb, wo + j * 3 + 2, none⟩ = some (.bool yj.2.2) := cell j 2 yj hyj (by decide)
            have hmem : yj ∈ ws := List.mem_of_getElem? hyj
            have hla : t.la yj.1 = some yj := L9.out.2.1 yj hmem
            have okj : okS yj.1 := tT.lsN.2.1 _ ((tT.lsN.2.2.1 _).2 (by rw [hla]; rfl))
            have lkd : ∀ n, (Instr.lookup 46 (.map (some bw)) (.string yj.1) false).run Try.prog (wr.drewN n) = .ok (.agg #[.string yj.1, .string yj.2.1, .bool yj.2.2]) (wr.drewN n) := fun n => by
              have h := (FT.out.below FT.out.lt (below_drewN BJ.out n)).look Try.underlying46 (z0 := (ByteArray.empty, ByteArray.empty, false)) (zero63 _) yj.1 okj
              rw [hla] at h
              exact h
            clear hla okj hmem
            go_upto_region 48 with (fail)
            by_cases hj0 : 0 < j
            · have hj0' : (0 : Int) < (j : Int) := by omega
              obtain ⟨jp, hjp⟩ : ∃ jp, j = jp + 1 := ⟨j - 1, by omega⟩
              have ejp : (j : Int) - 1 = (jp : Int) := by omega
              obtain ⟨yp, hyp⟩ : ∃ y, ws[jp]? = some y := ⟨_, List.getElem?_eq_getElem (by rw [← HW.out]; omega)⟩
              have hlt := L9.out.rise tT.lsN.1 hyp hyj (by omega)
              have d0 : wr.cell? ⟨wb, wo + jp * 3, none⟩ = some (.string yp.1) := cell jp 0 yp hyp (by decide)
              have hjl : jp < nw := by omega
              clear hjp
              go_quiet (fail)
              go_wp2_with fail
              go_roundg (nw - (j + 1))
              case measure => omega
              case rel => exact ⟨j + 1, rfl, by omega, by go_num, below_drewN BJ.out _⟩
            · have hj0' : ¬ (0 : Int) < (j : Int) := by omega
              go_quiet (fail)
              go_wp2_with fail
              go_roundg (nw - (j + 1))
              case measure => omega
              case rel => exact ⟨j + 1, rfl, by omega, by go_num, below_drewN BJ.out _⟩
          · as_aux_lemma =>
            have hjn' : ¬ (j : Int) < (nw : Int) := by omega
            obtain ⟨b0, hb0⟩ : ∃ b0, b0 = decide ((0 : Int) ∈ t.gr) := ⟨_, rfl⟩
            obtain ⟨b1, hb1⟩ : ∃ b1, b1 = decide ((1 : Int) ∈ t.gr) := ⟨_, rfl⟩
            have GP : Hid (t.gr = preG b0 b1 2) := Lib.hid (by rw [hb0, hb1]; exact preG_all S.out.grS S.out.grI)
            have AJ : Hid (Blk W10 ab 48 #[.bool b0, .bool b1]) := Lib.hid (by rw [hb0, hb1]; exact AK.out)
            obtain ⟨i0, hi0, hz0, hz1, hz2⟩ := info_parts info3
            clear hb0 hb1
            go_upto_region 51 with (fail)
            clear m18
            go_wp2_with (fail)
            go_loopg [23, 24] 2 (fun gk v23 v24 wr' => ∃ k : Nat, 2 - k = gk ∧ k ≤ 2 ∧ v24 = .int .i64 (k : Int) ∧ wr'.ownsRow W10.heap.size 3 1 v23 (preG b0 b1 k).length (inC (preG b0 b1 k)) ∧ Below W10.heap.size W10 wr')
            case atStart => exact ⟨0, rfl, by decide, rfl, World.ownsRow_nil _ _ _ _, BJ.out⟩
            case round =>
              obtain ⟨kg, hkg2, hkl, rfl, hO, hB⟩ := hrel
              have OJ := Lib.hid hO
              have BK := Lib.hid hB
              clear hO hB
              by_cases hlt : kg < 2
              · as_aux_lemma =>
                have hlt' : (kg : Int) < 2 := by omega
                obtain ⟨bb, hbb⟩ : ∃ bb, (kg = 0 ∧ bb = b0 ∨ kg = 1 ∧ bb = b1) := by
                  obtain rfl | rfl : kg = 0 ∨ kg = 1 := by omega
                  · exact ⟨b0, .inl ⟨rfl, rfl⟩⟩
                  · exact ⟨b1, .inr ⟨rfl, rfl⟩⟩
                have ck : wr.cell? ⟨ab, kg, none⟩ = some (.bool bb) := by
                  have h := AJ.out.below BK.out AJ.out.lt
                  rw [h.cell]
                  rcases hbb with ⟨rfl, rfl⟩ | ⟨rfl, rfl⟩ <;> rfl
                have HBB := Lib.hid hbb
                clear hbb
                cases bb with
                | false =>
                  go_wp2_with fail
                  go_roundg (2 - (kg + 1))
                  case measure => omega
                  case rel => exact ⟨kg + 1, rfl, by omega, by go_num, by rw [preG_no HBB.out rfl]; exact OJ.out, BK.out⟩
                | true =>
                  obtain ⟨nk, hnk⟩ : ∃ nk, nk = (preG b0 b1 kg).length := ⟨_, rfl⟩
                  have LK : Hid (nk ≤ 2) := Lib.hid (by rw [hnk]; exact preG_len _ _ _)
                  have O0 : Hid ((wr.alloc (.cells #[.int .i64 (kg : Int)] 3)).ownsRow W10.heap.size 3 1 u23 nk (inC (preG b0 b1 kg))) := Lib.hid (by rw [hnk]; exact OJ.out.alloc _)
                  have RD : Hid (Reads (wr.alloc (.cells #[.int .i64 (kg : Int)] 3)) (wr.alloc (.cells #[.int .i64 (kg : Int)] 3)).heap.size 1 (some ⟨wr.heap.size, 0, none⟩) 1 [.int .i64 (kg : Int)]) := Lib.hid (by
                    have hx : (wr.alloc (.cells #[.int .i64 (kg : Int)] 3)).cell? ⟨wr.heap.size, 0, none⟩ = some (.int .i64 (kg : Int)) := (Blk.new wr 3 _).cell 0
                    have RI : RowIn (wr.alloc (.cells #[.int .i64 (kg : Int)] 3)) (wr.alloc (.cells #[.int .i64 (kg : Int)] 3)).heap.size (some ⟨wr.heap.size, 0, none⟩) [Value.int .i64 (kg : Int)] := fun _ => ⟨wr.heap.size, 0, rfl, World.block_lt_of_cell? _ _ hx, fun i u hu => by
                      match i, hu with
                      | 0, hu => cases hu; exact hx⟩
                    exact RI.reads)
                  have OD := Lib.hid (one_int (kg : Int))
                  have y1 : nk + 1 ≤ maxLen := by have := LK.out; unfold maxLen; omega
                  have y2 : (nk + 1) * 8 ≤ 140737488355328 := by have := LK.out; omega
                  have yb : W10.heap.size ≤ (wr.alloc (.cells #[.int .i64 (kg : Int)] 3)).heap.size := by have := BK.out.size; simp; omega
                  have HNK := Lib.hid hnk
                  clear hnk
                  go_wp2_with (at_builtin; refine wpList_append_any _ rfl (.tmp 316) (.tmp 318) 23 rfl W10.heap.size 3 i0 (.int .i64 0) 1 8 Try.underlying23 hi0 hz0 hz1 hz2 rfl (by decide) u23 nk (inC (preG b0 b1 kg)) rfl O0.out (wr.alloc (.cells #[.int .i64 (kg : Int)] 3)).heap.size (some ⟨wr.heap.size, 0, none⟩) 1 1 [.int .i64 (kg : Int)] rfl RD.out OD.out y1 y2 yb ?_; intro v25 w1 hown1 hg1 hat1; have T1 := Lib.hid (And.intro hown1 hg1); clear hown1 hg1 hat1)
                  all_goals
                    go_roundg (2 - (kg + 1))
                    case measure => omega
                    case rel =>
                      refine ⟨kg + 1, rfl, by omega, by go_num, ?_, (BK.out.alloc BK.out.size _).grown T1.out.2 yb (fun r hr => (OJ.out.lt r hr).1)⟩
                      have e : inC (preG b0 b1 kg ++ [(kg : Int)]) = inC (preG b0 b1 kg) ++ [Value.int .i64 (kg : Int)] := by simp [inC]
                      rw [preG_yes HBB.out rfl, List.length_append, ← HNK.out, e]
                      exact T1.out.1
              · as_aux_lemma =>
                obtain rfl : kg = 2 := by omega
                have hlt' : ¬ (2 : Int) < 2 := by decide
                have MK := MM.out.below BK.out MM.out.lt
                have m19 : wr.cell? ⟨mb, 19, none⟩ = some (.slice A19 t.gr.length c19) := by rw [MK.cell]; exact ME.out.2.2
                rw [GP.out] at m19
                have HM19 := Lib.hid m19
                have LF : Hid (Below w.heap.size w wr) := Lib.hid (LO.out.trans (BK.out.mono LO.out.size))
                have GC : Hid (0 < (inC (preG b0 b1 2)).length → ∃ bg og, A19 = some ⟨bg, og, none⟩ ∧ ∀ (a : Nat) u, (inC (preG b0 b1 2))[a]? = some u → wr.cell? ⟨bg, og + a, none⟩ = some u) := Lib.hid (fun hp => by
                  rw [← GP.out] at hp ⊢
                  obtain ⟨bg, og, e, _, h⟩ := SS.out.2 hp
                  exact ⟨bg, og, e, fun a u hu => (BK.out.cell (p := ⟨bg, og + a, none⟩) (World.block_lt_of_cell? W10 _ (h a u hu))).trans (h a u hu)⟩)
                have GN : Hid (¬ (b0 = false ∧ b1 = false)) := Lib.hid (fun h => hgne (by rw [GP.out, h.1, h.2]; rfl))
                clear m19
                cases b0 with
                | true =>
                  cases b1 with
                  | true =>
                    obtain ⟨bg, og, rfl, hgc⟩ := GC.out (by decide)
                    have OJ2 : wr.ownsRow W10.heap.size 3 1 u23 2 [.int .i64 0, .int .i64 1] := OJ.out
                    obtain ⟨g', cap', rfl, _, _⟩ := World.ownsRow.form OJ2 (by decide)
                    have m19 : wr.cell? ⟨mb, 19, none⟩ = some (.slice (some ⟨bg, og, none⟩) 2 c19) := HM19.out
                    have k0 : wr.cell? ⟨bg, og, none⟩ = some (.int .i64 0) := hgc 0 _ rfl
                    have k1 : wr.cell? ⟨bg, og + 1, none⟩ = some (.int .i64 1) := hgc 1 _ rfl
                    have p0 : wr.cell? ⟨g', 0, none⟩ = some (.int .i64 0) := (World.ownsRow.cellAt OJ2 0 (by decide)).trans rfl
                    have p1 : wr.cell? ⟨g', 1, none⟩ = some (.int .i64 1) := (World.ownsRow.cellAt OJ2 1 (by decide)).trans rfl
                    go_upto_region 57 with (fail)
                    go_quiet (fail)
                    go_wp2_with fail
                    exact bodyPost_ret (v := .bool true) (by simp [results, Try.results4, go_sem]) rfl ⟨rfl, below_drewN LF.out _⟩
                  | false =>
                    obtain ⟨bg, og, rfl, hgc⟩ := GC.out (by decide)
                    have OJ2 : wr.ownsRow W10.heap.size 3 1 u23 1 [.int .i64 0] := OJ.out
                    obtain ⟨g', cap', rfl, _, _⟩ := World.ownsRow.form OJ2 (by decide)
                    have m19 : wr.cell? ⟨mb, 19, none⟩ = some (.slice (some ⟨bg, og, none⟩) 1 c19) := HM19.out
                    have k0 : wr.cell? ⟨bg, og, none⟩ = some (.int .i64 0) := hgc 0 _ rfl
                    have p0 : wr.cell? ⟨g', 0, none⟩ = some (.int .i64 0) := (World.ownsRow.cellAt OJ2 0 (by decide)).trans rfl
                    go_upto_region 57 with (fail)
                    go_quiet (fail)
                    go_wp2_with fail
                    exact bodyPost_ret (v := .bool true) (by simp [results, Try.results4, go_sem]) rfl ⟨rfl, below_drewN LF.out _⟩
                | false =>
                  cases b1 with
                  | true =>
                    obtain ⟨bg, og, rfl, hgc⟩ := GC.out (by decide)
                    have OJ2 : wr.ownsRow W10.heap.size 3 1 u23 1 [.int .i64 1] := OJ.out
                    obtain ⟨g', cap', rfl, _, _⟩ := World.ownsRow.form OJ2 (by decide)
                    have m19 : wr.cell? ⟨mb, 19, none⟩ = some (.slice (some ⟨bg, og, none⟩) 1 c19) := HM19.out
                    have k0 : wr.cell? ⟨bg, og, none⟩ = some (.int .i64 1) := hgc 0 _ rfl
                    have p0 : wr.cell? ⟨g', 0, none⟩ = some (.int .i64 1) := (World.ownsRow.cellAt OJ2 0 (by decide)).trans rfl
                    go_upto_region 57 with (fail)
                    go_quiet (fail)
                    go_wp2_with fail
                    exact bodyPost_ret (v := .bool true) (by simp [results, Try.results4, go_sem]) rfl ⟨rfl, below_drewN LF.out _⟩
                  | false => exact absurd ⟨rfl, rfl⟩ GN.out
end Go.Proofs.Ytpaihfdmjkfegaa.Cl

/- What the law ClientOwn is handed. -/
namespace Go.Proofs.Ytpaihfdmjkfegaa.Cl
open Go.RowKit Go.Lib Go.Proofs.Ytpaihfdmjkfegaa.Ck Go.Proofs.Ytpaihfdmjkfegaa.Sta
open Go.ChangeShapes Go.WideShapes Go.Deep
variable {H : Type}
set_option maxRecDepth 100000 in
/-- The law ClientOwn: the walk on an opened argument. -/
theorem own_law (enc : TypeId × Value → H) (v0 : Value) (d0 : DataW H) (p0 : List MemPlace) {w : World} {base : Nat} {spare : Nat → Bool} {held : Bool} (h0 : DataW.Trod enc Try.prog w base spare held 36 v0 d0 p0) {r0 : Reach} {b0 : Nat} (o0 : Value.okWide Try.prog w r0 b0 36 v0) (_lt0 : ∀ x ∈ p0, x.block < w.heap.size) (W : World) (hW : w = W := by rfl) :
    Calls Try.prog 4 #[v0] W fun e w' => e = .returned (.bool true) ∧ Below W.heap.size W w' := by
  subst hW
  obtain ⟨f0, h0⟩ := h0
  obtain ⟨X0, l0, c0, rfl⟩ := okWide_slice Try.underlying36 o0
  obtain ⟨A1, n, k1, e1, i1⟩ := ops_of (v := .slice X0 l0 c0) h0
  rw [e1]
  exact own_walk A1 n k1 w i1
end Go.Proofs.Ytpaihfdmjkfegaa.Cl
