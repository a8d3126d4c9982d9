/- The law ClientAges, walked. -/
import Derived.Test.YtpaihfdmjkfegaaCqKL
import Derived.Deep.CutRange
namespace Go.Proofs.Ytpaihfdmjkfegaa.Cl
open Go.RowKit Go.Lib Go.Maps Go.Proofs.Ytpaihfdmjkfegaa.MapF Go.Proofs.Ytpaihfdmjkfegaa.Msg Go.Proofs.Ytpaihfdmjkfegaa.Ck Go.Proofs.Ytpaihfdmjkfegaa.Sta Go.Proofs.Ytpaihfdmjkfegaa.Rd

attribute [local go_sem ↓] loadAct_eq storeAct_eq loadMsg_eq storeMsg_eq
attribute [local go_sem] run_loadAct run_storeAct run_loadMsg run_storeMsg

def BoolsIn (w : World) (B : Nat) (A : Option Addr) (l : List Bool) : Prop :=
  0 < l.length → ∃ b o, A = some ⟨b, o, none⟩ ∧ b < B ∧ ∀ (i : Nat) (x : Bool), l[i]? = some x → w.cell? ⟨b, o + i, none⟩ = some (.bool x)
theorem BoolsIn.below {w w' : World} {B : Nat} {A : Option Addr} {l : List Bool} (h : BoolsIn w B A l) (hb : Below B w w') : BoolsIn w' B A l := fun hl => by
  obtain ⟨b, o, rfl, hB, hc⟩ := h hl
  exact ⟨b, o, rfl, hB, fun i x hx => (hb.cell (p := ⟨b, o + i, none⟩) hB).trans (hc i x hx)⟩

theorem chk_parts3 : newErr 3 4 (chk 2 1 4 64 [⟨#[109]⟩] []) = 0 := by
  have h1 : rangeB 2 1 4 64 1 = true := by decide
  have h2 : dirErr [⟨#[109]⟩] = 0 := by
    simp [dirErr, dirE, keyB]
    decide
  simp [newErr, chk, h1, h2]

/-- What the loop of ClientAges holds. -/
structure AgesS (w w0 : World) (lo p : Nat) (c0 : Client) (ob oc gb gc g q : Nat) (L : List Ent) (sp : List ByteArray) (i : Nat) (last top : Int) (wr : World) (c : Client) : Prop where
  cli : CliAt lo wr p c ob oc gb gc g q L (heads L) sp
  waits : c.waits = false
  vt : c.vt = .pointer none
  cnt : c.cnt = top
  seq : c.seq = 2 * (i : Int)
  num : c.num = 3
  D : c.D = c0.D
  le : last ≤ top
  ge : 0 ≤ top
  mx : top ≤ 1099511627776
  K0 : Chg (fun b => b = p ∨ b = gb) w0 wr
  low : Below w.heap.size w wr
def AgesR (w w0 : World) (lo p : Nat) (c0 : Client) (ob oc gb gc g q : Nat) (L : List Ent) (sp : List ByteArray) (n : Nat) (gk : Nat) (v7 v8 v9 : Value) (wr : World) : Prop :=
  ∃ (i : Nat) (last top : Int) (c : Client), min n 60 - i = gk ∧ i ≤ min n 60 ∧ v7 = .int .i64 last ∧ v8 = .int .i64 top ∧ v9 = .int .i64 (i : Int) ∧ AgesS w w0 lo p c0 ob oc gb gc g q L sp i last top wr c

set_option maxRecDepth 100000 in
set_option maxHeartbeats 4000000 in
theorem ages_walk (l : List Int) (bl : List Bool) (A1 A2 : Option Addr) (c1 c2 : Nat) (w : World) (h1 : IntsIn w w.heap.size A1 l) (h2 : BoolsIn w w.heap.size A2 bl) :
    Calls Try.prog 5 #[.slice A1 l.length c1, .slice A2 bl.length c2] w fun e w' => e = .returned (.bool true) ∧ Below w.heap.size w w' := by
  have WK := Lib.hid works_any
  have HI := Lib.hid h1
  have HB := Lib.hid h2
  obtain ⟨n, hn⟩ : ∃ n, n = l.length := ⟨_, rfl⟩
  obtain ⟨m, hm⟩ : ∃ m, m = bl.length := ⟨_, rfl⟩
  have HN := Lib.hid hn
  have HM := Lib.hid hm
  rw [← hn, ← hm]
  clear h1 h2 hn hm
  go_enter Try.func5, Try.ntmps5
  go_upto_region 3 with (go_at_call 12; go_loud (refine (WK.out _).mono ?_; rintro e w1 ⟨rfl, hB⟩; have B1 := Lib.hid hB; clear hB))
  go_upto_region 4 with (first
    | (go_at_call 13; refine (parts_any _).mono ?_; rintro e w2 ⟨b, rfl, hR, hB⟩; have R1 := Lib.hid hR; have B2 := Lib.hid (B1.out.trans (hB.mono B1.out.size)); clear hR hB)
    | (go_at_call 8; refine (clientNew_whole 3 2 1 4 64 [⟨#[109]⟩] [] _ none 1 0 _ R1.out (fun h => absurd h (by decide)) (Nat.le_refl _)).mono ?_; rw [chk_parts3]; rintro e w0 ⟨P, rfl, _, hP, hB⟩; obtain ⟨p, rfl, hN⟩ := hP rfl; have N2 := Lib.hid hN; have B3 := Lib.hid hB; clear hP hN hB))
  obtain ⟨d, v3, v4, ob, oc, gb, gc, g, q, L, hG, hQ, hb, hC⟩ := N2.out
  have C0 := Lib.hid hC
  have hg2 : g = 2 := by omega
  have BW0 : Hid (Below w.heap.size w w0) := Lib.hid (B2.out.trans (B3.out.mono B2.out.size))
  have hlo : w.heap.size ≤ w2.heap.size := B2.out.size
  clear hC hG hQ WK
  go_upto_region 6 with (fail)
  go_wp2_with (fail)
  go_loopg [7, 8, 9] (min n 60) (AgesR w w0 w2.heap.size p (fresh 3 (q : Int) d v3 v4) ob oc gb gc g q L [⟨#[109]⟩] n)
  case atStart => exact ⟨0, 0, 0, _, rfl, by omega, rfl, rfl, rfl, ⟨C0.out, rfl, rfl, rfl, rfl, rfl, rfl, Int.le_refl _, Int.le_refl _, by decide, Chg.refl _ _, BW0.out⟩⟩
  case round =>
    obtain ⟨i, last, top, c, hgk, hi, rfl, rfl, rfl, hS⟩ := hrel
    have S := Lib.hid hS
    clear hS
    by_cases hin : i < n
    · have hin' : (i : Int) < (n : Int) := by omega
      by_cases h60 : i < 60
      · have h60' : (i : Int) < 60 := by omega
        by_cases hfull : 1099511627776 ≤ top
        · as_aux_lemma =>
          have zc : CellsN 11 zeroAct.cs := ActV.cells _
          go_upto_region 11 with (go_at_call 14; go_loud (refine (call_full p c ⟨#[]⟩ ⟨#[]⟩ wr S.out.cli.cl S.out.vt S.out.waits (by rw [S.out.cnt]; exact hfull)).mono ?_; rintro e w5 ⟨rfl, hB⟩; have B5 := Lib.hid hB; have rn := roomN_new (n := 11) w5 43 #[.int .i64 0, .int .i64 0, .int .i64 0, .int .i64 0, .string ⟨#[]⟩, .string ⟨#[]⟩, .bool false, .int .i64 0, .int .i64 0, .int .i64 0, .int .i64 0] rfl; clear hB))
          refine Msg.world_out (fun W6 hW6 => ?_)
          have K6 : Hid (Below w.heap.size w W6) := Lib.hid (by
            have s1 := S.out.low.size
            have s2 := B5.out.size
            rw [hW6]
            exact (S.out.low.trans (B5.out.mono s1)).trans (putN_below ((Below.refl _ _).alloc (by omega) _) (by omega) 0 _))
          clear hW6 rn
          go_wp2_with fail
          exact bodyPost_ret (v := .bool true) (by simp [results, Try.results5, go_sem]) rfl ⟨rfl, K6.out⟩
        · have ha : 0 ≤ c.cnt ∧ c.cnt < 1099511627776 := by rw [S.out.cnt]; exact ⟨S.out.ge, by omega⟩
          have hn : 0 ≤ c.num ∧ c.num < 16 := by rw [S.out.num]; exact ⟨by decide, by decide⟩
          have bc : CellsN 11 (beginAct c.num (c.cnt + 1)).cs := ActV.cells _
          go_upto_region 11 with (go_at_call 14; go_loud (refine (call_begin p c ⟨#[]⟩ ⟨#[]⟩ wr S.out.cli.cl S.out.vt S.out.waits ha hn).mono ?_; rintro e w5 ⟨tb, m1, m2, m3, m4, rfl, hG⟩; have G5 := Lib.hid hG; have rn := roomN_new (n := 11) w5 43 #[.int .i64 0, .int .i64 0, .int .i64 0, .int .i64 0, .string ⟨#[]⟩, .string ⟨#[]⟩, .bool false, .int .i64 0, .int .i64 0, .int .i64 0, .int .i64 0] rfl; clear hG))
          refine Msg.world_out (fun W6 hW6 => ?_)
          obtain ⟨b6, hb6⟩ : ∃ b, b = w5.heap.size := ⟨_, rfl⟩
          rw [← hb6] at hW6 ⊢
          have B6 : Hid (Below w5.heap.size w5 W6) := Lib.hid (by rw [hW6, hb6]; exact putN_below ((Below.refl _ _).alloc (Nat.le_refl _) _) (Nat.le_refl _) 0 _)
          have A6 : Hid (Blk W6 b6 43 (beginAct c.num (c.cnt + 1)).cs) := Lib.hid (by rw [hW6, hb6]; exact putN_fill (Blk.new w5 43 _) rfl)
          have C6 := Lib.hid ((S.out.cli.begun G5.out).keep B6.out)
          have T6 := Lib.hid (G5.out.tx.below B6.out)
          have K6 : Hid (Chg (fun b => b = p ∨ b = gb) w0 W6) := Lib.hid ((S.out.K0.on (G5.out.chg.more (fun _ _ e => .inl e))).then B6.out)
          have hpw : w.heap.size ≤ p := Nat.le_trans hlo C0.out.hp
          have hgw : w.heap.size ≤ gb := Nat.le_trans hlo C0.out.hg
          have low : Hid (∀ v, Chg (fun b => b = p ∨ b = gb) w0 v → Below w.heap.size w v) := Lib.hid (fun v hv => by
            have k1 : Chg (fun b => w.heap.size ≤ b) w w0 := Chg.of BW0.out
            exact (k1.on (hv.more (fun _ _ e => by omega))).below (Nat.le_refl _) (fun _ e => e))
          have a2 : W6.cell? ⟨b6, 2, none⟩ = some (.int .i64 (top + 1)) := by rw [A6.out.cell]; simp [beginAct, ActV.cs, S.out.cnt]
          have a3 : W6.cell? ⟨b6, 3, none⟩ = some (.int .i64 3) := by rw [A6.out.cell]; simp [beginAct, ActV.cs, S.out.num]
          have hl1 : ¬ top + 1 ≤ last := by have := S.out.le; omega
          have hl2 : ¬ top + 1 ≤ top := by omega
          have hmx : max top (top + 1) = top + 1 := by omega
          clear hW6 hb6 bc rn ha hn
          go_upto_region 17 with (fail)
          clear a2 a3 hl1 hl2 hmx
          have hs : 0 ≤ c.seq ∧ c.seq < 1000000 := by rw [S.out.seq]; omega
          have hsp : ([⟨#[109]⟩] : List ByteArray).length + 1 = g := hg2.symm
          have hg8 : g ≤ 8 := hb.2.1
          have kk : keyB ⟨#[97]⟩ = true := by decide
          have vv : (⟨#[120]⟩ : ByteArray).size ≤ 200 := by decide
          have he : c.vo = (fresh 3 (q : Int) d v3 v4).vo ∧ c.vg = (fresh 3 (q : Int) d v3 v4).vg ∧ c.D = (fresh 3 (q : Int) d v3 v4).D := ⟨S.out.cli.vo.trans C0.out.vo.symm, S.out.cli.vg.trans C0.out.vg.symm, S.out.D⟩
          have g5 := G5.out.new
          have s0 := S.out.K0.size
          have bc : CellsN 11 (actW c.num 3 (c.cnt + 1) c.num ⟨#[97]⟩ ⟨#[120]⟩).cs := ActV.cells _
          have CW := Lib.hid (call_write _ p { c with cnt := c.cnt + 1, vt := .pointer (some ⟨tb, 0, none⟩) } ob oc gb gc g q L (heads L) [⟨#[109]⟩] tb (c.cnt + 1) c.num m1 m2 m3 m4 ⟨#[97]⟩ ⟨#[120]⟩ W6 C6.out hsp hg8 rfl S.out.waits T6.out hs w0 _ _ C0.out K6.out he ⟨by omega, by omega, by omega, by omega, by omega⟩ ⟨G5.out.ne.1, G5.out.ne.2.1, G5.out.ne.2.2.1⟩ kk vv)
          clear hs hsp hg8 kk vv he g5 s0
          go_upto_region 18 with (go_at_call 14; go_loud (refine CW.out.mono ?_; rintro e w7 ⟨mb, k, x, rfl, hL⟩; have L7 := Lib.hid hL; have rn := roomN_new (n := 11) w7 43 #[.int .i64 0, .int .i64 0, .int .i64 0, .int .i64 0, .string ⟨#[]⟩, .string ⟨#[]⟩, .bool false, .int .i64 0, .int .i64 0, .int .i64 0, .int .i64 0] rfl; clear hL))
          refine Msg.world_out (fun W8 hW8 => ?_)
          have B8 : Hid (Below w7.heap.size w7 W8) := Lib.hid (by rw [hW8]; exact putN_below ((Below.refl _ _).alloc (Nat.le_refl _) _) (Nat.le_refl _) 0 _)
          have tsz : tb < W6.heap.size ∧ m1 < W6.heap.size := ⟨T6.out.blk.lt, T6.out.k1.lt⟩
          have s06 : w0.heap.size ≤ tb ∧ w0.heap.size ≤ m1 ∧ w0.heap.size ≤ m2 ∧ w0.heap.size ≤ m4 := by have := G5.out.new; have := S.out.K0.size; omega
          have K7 : Hid (Chg (fun b => b = p ∨ b = gb) w0 w7) := Lib.hid (K6.out.trans L7.out.chg (fun j hj e => by omega))
          have C8 := Lib.hid (L7.out.cli.keep B8.out)
          have K8 : Hid (Chg (fun b => b = p ∨ b = gb) w0 W8) := Lib.hid (K7.out.then B8.out)
          have okA : okS ⟨#[97]⟩ := okS_key (by decide)
          obtain ⟨gg, gcap, hT8⟩ := L7.out.txAt okA G5.out.ne
          have T8 := Lib.hid (hT8.keep B8.out)
          have M8 := Lib.hid (L7.out.msg.below B8.out L7.out.msg.lt)
          clear hW8 rn bc CW hT8
          obtain ⟨MS, hMS⟩ : ∃ MS, MS = aimedM (reqM (lockM k 2 (actW c.num 3 (c.cnt + 1) c.num ⟨#[97]⟩ ⟨#[120]⟩).key) (c.seq + 1) (c.cnt + 1) c.num c.num) k x := ⟨_, rfl⟩
          have MM : Hid (Blk W8 mb 55 MS) := Lib.hid (by rw [hMS]; exact M8.out)
          have ME : Hid (MsgC MS ∧ MS[12]? = some (.int .i64 (c.seq + 1)) ∧ MS[13]? = some (.int .i64 (c.cnt + 1)) ∧ MS[14]? = some (.int .i64 c.num)) := Lib.hid (by
            rw [hMS]
            exact ⟨msgC_set (msgC_set (reqM_ok (lockM_ok _ _ _) _ _ _ _) 3 rfl) 4 rfl, by simp [aimedM, reqM, lockM], by simp [aimedM, reqM, lockM], by simp [aimedM, reqM, lockM]⟩)
          clear hMS M8
          obtain ⟨hh, hm⟩ := blk_has MM.out ME.out.1.1
          have AN := Lib.hid (answer_no MS ⟨#[]⟩ (c.seq + 1) (c.cnt + 1) c.num W8 ME.out.1 ME.out.2.1 ME.out.2.2.1 ME.out.2.2.2)
          have mc := ansM_ok (c.seq + 1) (c.cnt + 1) c.num 0 false ⟨#[]⟩
          go_upto_region 21 with (go_at_call 16; go_loud (refine AN.out.mono ?_; rintro e w9 ⟨rfl, hB⟩; have B9 := Lib.hid hB; have rz := room_new w9 zeroC rfl; unfold zeroC at rz; clear hB))
          refine Msg.world_out (fun W10 hW10 => ?_)
          obtain ⟨b10, hb10⟩ : ∃ b, b = w9.heap.size := ⟨_, rfl⟩
          have B10 : Hid (Below w9.heap.size w9 W10) := Lib.hid (by rw [hW10]; exact below_setCells ((Below.refl _ _).alloc (Nat.le_refl _) _) _ _ (Nat.le_refl _) _)
          have A10 : Hid (Blk W10 b10 55 (ansM (c.seq + 1) (c.cnt + 1) c.num 0 false ⟨#[]⟩)) := Lib.hid (by rw [hW10, hb10]; exact blk_fill (Blk.new w9 55 _) rfl)
          have hb10' : w9.heap.size ≤ b10 := Nat.le_of_eq hb10.symm
          rw [← hb10]
          clear hW10 hb10 mc rz AN hh hm
          have BB : Hid (Below W8.heap.size W8 W10) := Lib.hid (B9.out.trans (B10.out.mono B9.out.size))
          have C10 := Lib.hid (C8.out.keep BB.out)
          have T10 := Lib.hid (T8.out.keep BB.out)
          have K10 := Lib.hid (K8.out.then BB.out)
          have hl0 : 0 < l.length := by rw [← HN.out]; omega
          obtain ⟨sb, so, rfl, hsb, hsc⟩ := HI.out hl0
          obtain ⟨st, hst⟩ : ∃ st, l[i]? = some st := ⟨_, List.getElem?_eq_getElem (by rw [← HN.out]; exact hin)⟩
          have ST : Hid (∀ v, Chg (fun b => b = p ∨ b = gb) w0 v → v.cell? ⟨sb, so + i, none⟩ = some (.int .i64 st)) := Lib.hid (fun v hv => ((low.out v hv).cell (p := ⟨sb, so + i, none⟩) hsb).trans (hsc i st hst))
          have s21 := ST.out W10 K10.out
          have x20 : W10.cell? ⟨b10, 20, none⟩ = some (.int .i64 0) := A10.out.cell 20
          have f20 := A10.out.frozen 20
          clear hsc hst hl0
          go_upto_region 22 with (fail)
          refine Msg.world_out (fun W11 hW11 => ?_)
          have A11 : Hid (Blk W11 b10 55 (ansM (c.seq + 1) (c.cnt + 1) c.num st false ⟨#[]⟩)) := Lib.hid (by rw [hW11]; exact A10.out.set_ 20 _)
          have l10 : W8.heap.size ≤ b10 := by have := B9.out.size; omega
          have B11 : Hid (Below W8.heap.size W8 W11) := Lib.hid (by rw [hW11]; exact BB.out.setCell (p := ⟨b10, 20, none⟩) l10 _)
          clear hW11 x20 f20 s21 A10 B10 BB C10 T10 K10
          have C11 := Lib.hid (C8.out.keep B11.out)
          have T11 := Lib.hid (T8.out.keep B11.out)
          have K11 := Lib.hid (K8.out.then B11.out)
          obtain ⟨hh, hm⟩ := blk_has A11.out rfl
          have n2 : (1 : Nat) + 1 < maxLen := by unfold maxLen; decide
          have TK := Lib.hid (take_lay 3 (.inl rfl) p _ _ _ _ (ansM (c.seq + 1) (c.cnt + 1) c.num st false ⟨#[]⟩) (c.seq + 1) (c.cnt + 1) c.num st W11 C11.out.cl rfl rfl rfl T11.out n2 okA (ansM_ok _ _ _ _ _ _) rfl rfl rfl rfl rfl rfl (by simp [reqM, lockM]) (by simp [reqM, lockM]) (by simp [reqM, lockM]))
          go_upto_region 23 with (go_at_call 15; go_loud (refine TK.out.mono ?_; rintro e w12 ⟨rfl, r1, r2, r3⟩; have T12 := Lib.hid (And.intro r1 (And.intro r2 r3)); clear r1 r2 r3))
          have Q12 := Lib.hid (CliAt.move C0.out C11.out K11.out T12.out.2.2 (fun b' _ e => by rcases e with e | e | e; exact .inl e; exact .inr (e ▸ s06.2.2.1); exact .inr (e ▸ s06.2.2.2)) T12.out.1 rfl rfl S.out.D)
          have s12 := ST.out w12 Q12.out.2
          clear TK hh hm
          go_cut [122] from 39 to 161 (fun v122 wr' => v122 = .bool (decide (st ≤ 1099511627776)) ∧ wr' = w12)
          case first =>
            go_wp2_with fail
            go_meet
            case rel => exact ⟨rfl, rfl⟩
          case rest =>
          obtain ⟨rfl, rfl⟩ := hcut
          obtain ⟨bb, hbb⟩ : ∃ bb, bb = decide (st ≤ 1099511627776) := ⟨_, rfl⟩
          have HBB := Lib.hid hbb
          rw [← hbb]
          clear hbb
          go_upto_if 122 with (fail)
          go_cut [8] from 39 to 161 (fun v8 wr' => v8 = .int .i64 (newCnt (top + 1) st) ∧ wr' = wc)
          case first =>
            cases bb with
            | true =>
              have hmx : max (top + 1) st = newCnt (top + 1) st := by
                have := of_decide_eq_true HBB.out.symm
                unfold newCnt
                split <;> omega
              go_wp2_with fail
              go_meet
              case rel => exact ⟨rfl, rfl⟩
            | false =>
              have hmx : newCnt (top + 1) st = top + 1 := by
                have := of_decide_eq_false HBB.out.symm
                unfold newCnt
                split <;> omega
              go_wp2_with fail
              go_meet
              case rel => exact ⟨by rw [hmx], rfl⟩
          case rest =>
          obtain ⟨rfl, rfl⟩ := hcut
          go_upto_region 26 with (fail)
          go_cut [138] from 39 to 161 (fun v138 wr' => (∃ bc, v138 = .bool bc) ∧ wr' = wc)
          case first =>
            by_cases him : i < m
            · have him' : (i : Int) < (m : Int) := by omega
              obtain ⟨cb, co, rfl, hcb, hcc⟩ := HB.out (by rw [← HM.out]; omega)
              obtain ⟨bv, hbv⟩ : ∃ bv, bl[i]? = some bv := ⟨_, List.getElem?_eq_getElem (by rw [← HM.out]; exact him)⟩
              have sc : wc.cell? ⟨cb, co + i, none⟩ = some (.bool bv) := ((low.out wc Q12.out.2).cell (p := ⟨cb, co + i, none⟩) hcb).trans (hcc i bv hbv)
              clear hcc hbv
              cases bv
              all_goals
                go_wp2_with fail
                go_meet
                case rel => exact ⟨⟨_, rfl⟩, rfl⟩
            · have him' : ¬ (i : Int) < (m : Int) := by omega
              go_wp2_with fail
              go_meet
              case rel => exact ⟨⟨_, rfl⟩, rfl⟩
          case rest =>
          obtain ⟨⟨bc, rfl⟩, rfl⟩ := hcut
          go_upto_if 138 with (fail)
          go_cut [19] from 39 to 161 (fun v19 wr' => (∃ kd, v19 = .int .i64 kd ∧ (kd = 5 ∨ kd = 6)) ∧ wr' = wc)
          case first =>
            cases bc
            all_goals
              go_wp2_with fail
              go_meet
              case rel =>
                first
                  | exact ⟨⟨6, rfl, .inr rfl⟩, rfl⟩
                  | exact ⟨⟨5, rfl, .inl rfl⟩, rfl⟩
          case rest =>
          obtain ⟨⟨kd, rfl, hkd⟩, rfl⟩ := hcut
          have HKD := Lib.hid hkd
          clear hkd
          have PK : ∃ c12 : Client, CliAt w2.heap.size wc p c12 ob oc gb gc g q L (heads L) [⟨#[109]⟩] ∧ c12.num = 3 ∧ c12.waits = false ∧ c12.vt = .pointer (some ⟨tb, 0, none⟩) ∧ c12.cnt = newCnt (top + 1) st ∧ c12.seq = 2 * (i : Int) + 1 ∧ c12.D = (fresh 3 (q : Int) d v3 v4).D := ⟨_, Q12.out.1, S.out.num, rfl, rfl, by rw [← S.out.cnt], by rw [← S.out.seq], S.out.D⟩
          obtain ⟨c12, p1, p2, p3, p4, p5, p6, p7⟩ := PK
          have P12 := Lib.hid (And.intro p1 (And.intro p2 (And.intro p3 (And.intro p4 (And.intro p5 (And.intro p6 p7))))))
          clear p1 p2 p3 p4 p5 p6 p7
          have hs2 : 0 ≤ c12.seq ∧ c12.seq < 1000000 := by rw [P12.out.2.2.2.2.2.1]; omega
          have hx7 := L7.out.hx
          have CE : Hid (Calls Try.prog 14 #[.pointer (some ⟨p, 0, none⟩), .int .i64 kd, .string ⟨#[]⟩, .string ⟨#[]⟩] wc fun e w' => ∃ mb kind ws, e = .returned (.tuple #[.slice (some ⟨mb, 0, none⟩) 1 1, .agg (actOf c12.num kd (c.cnt + 1) c.num ⟨#[]⟩).cs, .bool false, .int .i64 0]) ∧ Ended p c12 (c.cnt + 1) c.num k (x : Int) kind ws [(k : Int)] (actOf c12.num kd (c.cnt + 1) c.num ⟨#[]⟩) wc w' mb) := Lib.hid
            (call_end _ p c12 ob oc gb gc g q L (heads L) [⟨#[109]⟩] _ _ _ k x ⟨#[]⟩ ⟨#[]⟩ wc kd HKD.out P12.out.1 P12.out.2.2.2.1 P12.out.2.2.1 T12.out.2.1 (by simp) (by simp [layT, TxOne]) (by simp [layT, TxOne]) (by simp [layT, TxOne]) L7.out.hk rfl hx7 hs2)
          have bc2 : CellsN 11 (actOf c12.num kd (c.cnt + 1) c.num ⟨#[]⟩).cs := ActV.cells _
          clear hs2 hx7
          go_upto_region 29 with (go_at_call 14; go_loud (refine CE.out.mono ?_; rintro e w13 ⟨mb2, kind, ws, rfl, hE⟩; have E13 := Lib.hid hE; have rn := roomN_new (n := 11) w13 43 #[.int .i64 0, .int .i64 0, .int .i64 0, .int .i64 0, .string ⟨#[]⟩, .string ⟨#[]⟩, .bool false, .int .i64 0, .int .i64 0, .int .i64 0, .int .i64 0] rfl; clear hE))
          refine Msg.world_out (fun W14 hW14 => ?_)
          have B14 : Hid (Below w13.heap.size w13 W14) := Lib.hid (by rw [hW14]; exact putN_below ((Below.refl _ _).alloc (Nat.le_refl _) _) (Nat.le_refl _) 0 _)
          clear hW14 rn bc2 CE
          obtain ⟨MS2, c13, y, z, t13⟩ := E13.out.msg
          have Y := Lib.hid y
          have ZZ := Lib.hid z
          have TT := Lib.hid t13
          clear y z t13
          have Q13 := Lib.hid (CliAt.move C0.out P12.out.1 Q12.out.2 E13.out.chg (fun b' _ e => .inl e) ZZ.out.1 TT.out.1 TT.out.2.1 (TT.out.2.2.1.trans P12.out.2.2.2.2.2.2))
          have MM2 := Lib.hid (Y.out.1.below B14.out Y.out.1.lt)
          obtain ⟨hh, hm⟩ := blk_has MM2.out Y.out.2.1.1
          have AN2 := Lib.hid (answer_no MS2 ⟨#[]⟩ (c12.seq + 1) (c.cnt + 1) c.num W14 Y.out.2.1 Y.out.2.2.1 Y.out.2.2.2.1 Y.out.2.2.2.2)
          have C14 := Lib.hid (Q13.out.1.keep B14.out)
          have K14 := Lib.hid (Q13.out.2.then B14.out)
          have TC := Lib.hid (fun (v : World) (hv : Below W14.heap.size W14 v) => take_close kd HKD.out p c13 (ansM (c12.seq + 1) (c.cnt + 1) c.num 0 false ⟨#[]⟩) (c12.seq + 1) (c.cnt + 1) c.num 0 v (C14.out.keep hv).cl ZZ.out.2.1 (by rw [ZZ.out.2.2.1]; rfl) (ansM_ok _ _ _ _ _ _) rfl rfl rfl rfl rfl rfl ZZ.out.2.2.2.1 ZZ.out.2.2.2.2.1 ZZ.out.2.2.2.2.2)
          go_upto_region 32 with (first
            | (go_at_call 16; go_loud (refine AN2.out.mono ?_; rintro e w15 ⟨rfl, hB⟩; have B15 := Lib.hid hB; clear hB))
            | (go_at_call 15; go_loud (refine (TC.out w15 B15.out).mono ?_; rintro e w16 ⟨rfl, r1, r2⟩; have T16 := Lib.hid (And.intro r1 r2); clear r1 r2)))
          have C15 := Lib.hid (C14.out.keep B15.out)
          have K15 := Lib.hid (K14.out.then B15.out)
          have Q16 := Lib.hid (CliAt.move C0.out C15.out K15.out T16.out.2 (fun b' _ e => .inl e) T16.out.1 rfl rfl (TT.out.2.2.1.trans P12.out.2.2.2.2.2.2))
          clear AN2 TC hh hm
          go_upto_region 33 with (go_at_call 17; go_loud (refine (tx_none p _ w16 Q16.out.1.cl rfl).mono ?_; rintro e w17 ⟨rfl, hB⟩; have B17 := Lib.hid hB; clear hB))
          refine Msg.world_out (fun W18 hW18 => ?_)
          have B18 : Hid (Below w17.heap.size w17 W18) := Lib.hid (by rw [hW18]; exact (Below.refl _ _).alloc (Nat.le_refl _) _)
          have BB : Hid (Below w16.heap.size w16 W18) := Lib.hid (B17.out.trans (B18.out.mono B17.out.size))
          clear hW18
          have FF := newCnt_facts (top + 1) st (by omega)
          have EC : Hid (newCnt c13.cnt 0 = newCnt (top + 1) st) := Lib.hid (by
            rw [TT.out.2.2.2.2.1, P12.out.2.2.2.2.1]
            exact newCnt_zero (by have := S.out.ge; omega))
          have gi := S.out.ge
          have hi1 : i + 1 ≤ 60 := by omega
          go_wp2_with fail
          go_roundg (min n 60 - (i + 1))
          case measure => omega
          case rel =>
            refine ⟨i + 1, top + 1, newCnt (top + 1) st, _, rfl, by omega, rfl, rfl, by go_num, ⟨Q16.out.1.keep BB.out, rfl, rfl, EC.out, ?_, ?_, TT.out.2.2.1.trans P12.out.2.2.2.2.2.2, FF.1, by omega, FF.2, Q16.out.2.then BB.out, low.out _ (Q16.out.2.then BB.out)⟩⟩
            · show c13.seq = _
              rw [TT.out.2.2.2.2.2, P12.out.2.2.2.2.2.1]
              omega
            · show c13.num = 3
              rw [TT.out.2.2.2.1, P12.out.2.1]
      · have h60' : ¬ (i : Int) < 60 := by omega
        go_wp2_with fail
        exact bodyPost_ret (v := .bool true) (by simp [results, Try.results5, go_sem]) rfl ⟨rfl, S.out.low⟩
    · have hin' : ¬ (i : Int) < (n : Int) := by omega
      go_wp2_with fail
      exact bodyPost_ret (v := .bool true) (by simp [results, Try.results5, go_sem]) rfl ⟨rfl, S.out.low⟩
end Go.Proofs.Ytpaihfdmjkfegaa.Cl
