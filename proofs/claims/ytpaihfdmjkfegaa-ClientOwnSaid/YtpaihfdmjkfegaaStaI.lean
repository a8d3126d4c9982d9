/- The stable sort: symMerge, walked. -/
import Derived.Test.YtpaihfdmjkfegaaStaH
namespace Go.Proofs.Ytpaihfdmjkfegaa.Sta
open Go.Shelf Go.RowKit Go.Lib Go.Sort
variable {α : Type} [Inhabited α]

/-- What the search finds holds on. -/
theorem Two.dn {lt : α → α → Prop} {cl : α → α → Bool} (O : Ord lt) {a m b c n : Nat} {d : Array α} (T : Two lt cl a m b d) (hc : c = (a + b) / 2) (h1 : a < m) (h2 : m < b) (hnl : c + m ≤ n) (hnr : n ≤ c + m) {h k : Nat} (hl : lo a m b ≤ h) (hk : h ≤ k) (hkh : k < hi a m b) (hv : cl d[n - 1 - h]! d[h]! = true) : cl d[n - 1 - k]! d[k]! = true := by
  obtain ⟨q1, q2, q3, q4, q5⟩ := lo_hi h1 h2
  have e := (T.agree h (n - 1 - h) (by omega) (by omega) (by omega) (by omega)).1 hv
  exact (T.agree k (n - 1 - k) (by omega) (by omega) (by omega) (by omega)).2 (O.chain (T.right.le (by omega) (by omega) (by omega)) e (T.left.le (by omega) hk (by omega)))
theorem Two.un {lt : α → α → Prop} {cl : α → α → Bool} (O : Ord lt) {a m b c n : Nat} {d : Array α} (T : Two lt cl a m b d) (hc : c = (a + b) / 2) (h1 : a < m) (h2 : m < b) (hnl : c + m ≤ n) (hnr : n ≤ c + m) {h k : Nat} (hl : lo a m b ≤ k) (hk : k ≤ h) (hkh : h < hi a m b) (hv : cl d[n - 1 - h]! d[h]! = false) : cl d[n - 1 - k]! d[k]! = false := by
  cases e : cl d[n - 1 - k]! d[k]! with
  | false => rfl
  | true => rw [T.dn O hc h1 h2 hnl hnr hl hk hkh e] at hv; cases hv

/-- All of it is laid. -/
theorem merge_end {lt : α → α → Prop} {a m b c e i : Nat} {d d1 d2 d3 : Array α} (hb : b ≤ d.size) (h1 : a ≤ i) (h2 : i ≤ m) (h3 : m ≤ e) (h4 : e ≤ b) (h5 : a ≤ c ∧ c ≤ b) (R : Rot i m e d d1) (p2 : PermIn a c d1 d2) (p3 : PermIn c b d2 d3) (a2 : Asc lt a c d2) (a3 : Asc lt c b d3) (X : ∀ i j, a ≤ i → i < c → c ≤ j → j < b → lt d1[i]! d1[j]!) : PermIn a b d d3 ∧ Asc lt a b d3 := by
  have s1 : d1.size = d.size := R.size
  have s2 : d2.size = d1.size := p2.1
  have r1 := permIn_mono d d1 i e a b h1 h4 hb (R.perm h2 h3 (by omega))
  have r2 := permIn_mono d1 d2 a c a b (Nat.le_refl _) h5.2 (by omega) p2
  have r3 := permIn_mono d2 d3 c b a b h5.1 (Nat.le_refl _) (by omega) p3
  exact ⟨permIn_trans _ _ _ _ _ r1 (permIn_trans _ _ _ _ _ r2 r3), two_laid (by omega) h5.1 h5.2 p2 p3 a2 a3 X⟩

/-- What symMerge does with parts of together at most K. -/
def MergeK (lt : α → α → Prop) (enc : α → Value) (cf : α → α → Int) (g : Nat) (cb : Array Value) (blk off cap n : Nat) (w0 : World) (K : Nat) : Prop :=
  ∀ (a m b : Nat) (d : Array α) (w : World), b - a ≤ K → d.size = n → SW enc w0 blk off d w → a < m → m < b → b ≤ n → Two lt (ltOf cf) a m b d →
    Calls Try.prog 59 #[.slice (some ⟨blk, off, none⟩) n cap, .int .i64 a, .int .i64 m, .int .i64 b, .func (.func g) #[] cb] w fun e w' => e = .returned (.tuple #[]) ∧ ∃ d', PermIn a b d d' ∧ Asc lt a b d' ∧ SW enc w0 blk off d' w'

def CutB (b : Bool) (w : World) (v : Value) (wr : World) : Prop := v = .bool b ∧ wr = w
def CutS (a m b : Nat) (w : World) (v20 v21 : Value) (wr : World) : Prop := v20 = .int .i64 (lo a m b : Nat) ∧ v21 = .int .i64 (hi a m b : Nat) ∧ wr = w
def CutR (enc : α → Value) (w0 : World) (blk off s m e : Nat) (d : Array α) (v24 : Value) (wr : World) : Prop := v24 = .int .i64 e ∧ ∃ d1, Rot s m e d d1 ∧ SW enc w0 blk off d1 wr
def CutL (lt : α → α → Prop) (enc : α → Value) (w0 : World) (blk off a c e : Nat) (d1 : Array α) (v24 : Value) (wr : World) : Prop := v24 = .int .i64 e ∧ ∃ d2, PermIn a c d1 d2 ∧ Asc lt a c d2 ∧ SW enc w0 blk off d2 wr

set_option maxHeartbeats 8000000 in
set_option maxRecDepth 1000000 in
theorem merge_rest (lt : α → α → Prop) (O : Ord lt) (enc : α → Value) (cf : α → α → Int) (g : Nat) (cb : Array Value) (blk off cap a m b K : Nat) (d0 d : Array α) (w0 w : World)
    (eg : ∀ args w, (callFunc g args).run Try.prog w = .ok (.enter g args) w) (hcmp : CmpLays1 Try.prog g cb enc cf blk off d0.size w0) (hIH : MergeK lt enc cf g cb blk off cap d.size w0 K)
    (R : Row1 enc w0 blk off d0) (hs : d0.size = d.size) (S : SW enc w0 blk off d w) (hK : b - a ≤ K + 1) (h1 : a + 1 < m) (h2 : m + 1 < b) (h3 : b ≤ d.size) (hsz : d.size < 4611686018427387904) (T : Two lt (ltOf cf) a m b d) :
    Calls Try.prog 59 #[.slice (some ⟨blk, off, none⟩) d.size cap, .int .i64 a, .int .i64 m, .int .i64 b, .func (.func g) #[] cb] w fun e w' => e = .returned (.tuple #[]) ∧ ∃ d', PermIn a b d d' ∧ Asc lt a b d' ∧ SW enc w0 blk off d' w' := by
  have mixed : Try.prog.follows Departure.mixedOrders = true := by kernel_rfl
  have hcl0 := R.hO.cells
  simp only [Value.cells] at hcl0
  have HC := Lib.hid hcmp
  have HT := Lib.hid T
  have IH := Lib.hid hIH
  have S0 : Aside (SW enc w0 blk off d w) := S
  clear S hcmp T hIH
  have e0 : (((m : Nat) : Int) - (a : Int) == 1) = false := by simp; omega
  have e1 : (((b : Nat) : Int) - (m : Int) == 1) = false := by simp; omega
  obtain ⟨q1, q2, q3, q4, q5⟩ := lo_hi (show a < m by omega) (show m < b by omega)
  go_enter Try.func59, Try.ntmps59
  go_upto_region 25 with (fail)
  obtain ⟨c, hc⟩ : ∃ q : Nat, q = (a + b) / 2 := ⟨_, rfl⟩
  have eh : ((a : Int) + (b : Int)) / 2 = (c : Int) := by omega
  rw [eh]
  clear eh
  rw [← hc] at q4 q5
  have HCc := Lib.hid hc
  have hcb : c < b := by omega
  have hac : a < c := by omega
  clear hc
  go_upto_region 26 with (fail)
  obtain ⟨n, hn⟩ : ∃ q : Nat, q = c + m := ⟨_, rfl⟩
  have en : (c : Int) + (m : Int) = (n : Int) := by omega
  rw [en]
  have hnl : c + m ≤ n := by omega
  have hnr : n ≤ c + m := by omega
  clear en hn
  go_upto_if 140 with (fail)
  go_cut [20, 21] from 25 (CutS a m b w)
  case first =>
    as_aux_lemma =>
    rcases Nat.lt_or_ge c m with hcm | hcm
    · have hcm' : (c : Int) < (m : Int) := by omega
      have r1 : IntKind.i64.wrap ((n : Int) - (b : Int)) = (n : Int) - (b : Int) := by rw [IntKind.wrap_i64]; omega
      go_wp2_with fail
      go_meet
      case rel =>
        refine ⟨?_, ?_, rfl⟩
        · have := HCc.out; unfold lo; rw [if_pos (by omega)]; congr 1; omega
        · have := HCc.out; unfold hi; rw [if_pos (by omega)]; congr 1; omega
    · have hcm' : ¬ (c : Int) < (m : Int) := by omega
      go_wp2_with fail
      go_meet
      case rel =>
        refine ⟨?_, ?_, rfl⟩
        · have := HCc.out; unfold lo; rw [if_neg (by omega)]
        · have := HCc.out; unfold hi; rw [if_neg (by omega)]
  case rest =>
    as_aux_lemma =>
    obtain ⟨rfl, rfl, rfl⟩ := hcut
    obtain ⟨lw, hlw⟩ : ∃ q, q = lo a m b := ⟨_, rfl⟩
    obtain ⟨hw, hhw⟩ : ∃ q, q = hi a m b := ⟨_, rfl⟩
    rw [← hlw, ← hhw]
    rw [← hlw] at q1 q2 q5
    rw [← hhw] at q2 q3 q4
    have HLW := Lib.hid hlw
    have HHW := Lib.hid hhw
    clear hlw hhw
    go_wp2_with fail
    go_loopg [20, 21] (hw - lw) (fun gk v20 v21 wr => ∃ (i j : Nat), j - i = gk ∧ lw ≤ i ∧ i ≤ j ∧ j ≤ hw ∧ v20 = .int .i64 i ∧ v21 = .int .i64 j ∧ Aside (SW enc w0 blk off d wr) ∧
      (∀ h, lw ≤ h → h < i → ltOf cf d[n - 1 - h]! d[h]! = false) ∧ (∀ h, j ≤ h → h < hw → ltOf cf d[n - 1 - h]! d[h]! = true))
    case atStart => exact ⟨lw, hw, rfl, Nat.le_refl _, q2, Nat.le_refl _, rfl, rfl, S0, fun h z1 z2 => by omega, fun h z1 z2 => by omega⟩
    case round =>
      clear S0
      obtain ⟨i, j, hg, hi, hij, hj, rfl, rfl, S1, hB, hN⟩ := hrel
      have HB := Lib.hid hB
      have HN := Lib.hid hN
      clear hB hN
      by_cases hlt : i < j
      · as_aux_lemma =>
        have hlt' : (i : Int) < (j : Int) := by omega
        go_upto_region 35 with (fail)
        obtain ⟨h, hh⟩ : ∃ q : Nat, q = (i + j) / 2 := ⟨_, rfl⟩
        have eh : ((i : Int) + (j : Int)) / 2 = (h : Int) := by omega
        rw [eh]
        have hlo : i ≤ h := by omega
        have hhi : h < j := by omega
        clear hh eh
        obtain ⟨pN, hpN⟩ : ∃ q, q = n - 1 - h := ⟨_, rfl⟩
        obtain ⟨kN, hkN⟩ : ∃ q, q = h := ⟨_, rfl⟩
        obtain ⟨pZ, hpZ⟩ : ∃ q : Int, q = (n : Int) - 1 - (h : Int) := ⟨_, rfl⟩
        have ea : pZ.toNat = pN := by omega
        have ra : IntKind.i64.wrap ((n : Int) - 1 - (h : Int)) = pZ := by rw [IntKind.wrap_i64]; omega
        have pa : (0 : Int) ≤ pZ := by omega
        have ba : pZ < (d.size : Int) := by omega
        have ec : (h : Int).toNat = kN := by omega
        have pc : (0 : Int) ≤ (h : Int) := by omega
        have bc : (h : Int) < (d.size : Int) := by omega
        obtain ⟨x, hx⟩ : ∃ x, x = d[n - 1 - h]! := ⟨_, rfl⟩
        obtain ⟨y, hy⟩ : ∃ x, x = d[h]! := ⟨_, rfl⟩
        have la := S1.out.cl R (by omega) (n - 1 - h) (by omega)
        have lb := S1.out.cl R (by omega) h (by omega)
        rw [← hx, ← hpN] at la
        rw [← hy, ← hkN] at lb
        have hc := S1.out.cmp HC.out (by omega) x y
        have HX := Lib.hid hx
        have HY := Lib.hid hy
        clear hx hy hkN hpN hpZ
        by_cases hv : cf x y < 0
        · have hd : decide (cf x y < 0) = true := decide_eq_true hv
          go_quiet_grown (first | (go_at_fn g; refine Calls.grown_of (hc _ _)))
          have S2 : Aside (SW enc w0 blk off d (grow (wr.drewN nq) osq)) := S1.out.grown nq osq
          clear la lb hc S1
          generalize grow (wr.drewN nq) osq = w2 at S2 ⊢
          clear nq osq ea ec pa ba ra
          go_wp2_with fail
          go_roundg (h - i)
          case measure => omega
          case rel => exact ⟨i, h, rfl, hi, by omega, by omega, rfl, rfl, S2, HB.out, fun k z1 z2 => HT.out.dn O HCc.out (by omega) (by omega) hnl hnr (by rw [← HLW.out]; omega) z1 (by rw [← HHW.out]; omega) (by rw [← HX.out, ← HY.out]; exact hd)⟩
        · have hd : decide (cf x y < 0) = false := decide_eq_false hv
          go_quiet_grown (first | (go_at_fn g; refine Calls.grown_of (hc _ _)))
          have S2 : Aside (SW enc w0 blk off d (grow (wr.drewN nq) osq)) := S1.out.grown nq osq
          clear la lb hc S1
          generalize grow (wr.drewN nq) osq = w2 at S2 ⊢
          clear nq osq ea ec pa ba ra
          go_wp2_with fail
          go_roundg (j - (h + 1))
          case measure => omega
          case rel => exact ⟨h + 1, j, rfl, by omega, by omega, hj, by go_num, rfl, S2, fun k z1 z2 => HT.out.un (h := h) O HCc.out (by omega) (by omega) hnl hnr (by rw [← HLW.out]; omega) (by omega) (by rw [← HHW.out]; omega) (by rw [← HX.out, ← HY.out]; exact hd), HN.out⟩
      · obtain rfl : i = j := by omega
        have hnn : decide ((i : Int) < (i : Int)) = false := decide_eq_false (by omega)
        have KC : Hid (CutAt (ltOf cf) a m b i d) := by
          have e1 := HCc.out
          have e2 := HLW.out
          have e3 := HHW.out
          have e4 : (a + b) / 2 + m - 1 = n - 1 := by omega
          exact ⟨by omega, by omega, fun h z1 z2 => by rw [e4]; exact HB.out h (by omega) z2, fun h z1 z2 => by rw [e4]; exact HN.out h z1 (by omega)⟩
        clear HB HN hg
        obtain ⟨e, he⟩ : ∃ q : Nat, q = n - i := ⟨_, rfl⟩
        go_upto_region 39 with (fail)
        have ee : (n : Int) - (i : Int) = (e : Int) := by omega
        rw [ee]
        have hel : c + m ≤ e + i := by omega
        have her : e + i ≤ c + m := by omega
        clear he ee
        go_cut [185] from 25 (CutB (decide (i < m) && decide (i < c)) wr)
        case first =>
          as_aux_lemma =>
          rcases Nat.lt_or_ge i m with c1 | c1
          · have c1' : (i : Int) < (m : Int) := by omega
            rcases Nat.lt_or_ge i c with c2 | c2
            · have c2' : (m : Int) < (e : Int) := by omega
              go_wp2_with fail
              go_meet
              case rel => exact ⟨by rw [decide_eq_true c1, decide_eq_true c2]; rfl, rfl⟩
            · have c2' : ¬ (m : Int) < (e : Int) := by omega
              go_wp2_with fail
              go_meet
              case rel => exact ⟨by rw [decide_eq_true c1, decide_eq_false (by omega)]; rfl, rfl⟩
          · have c1' : ¬ (i : Int) < (m : Int) := by omega
            go_wp2_with fail
            go_meet
            case rel => exact ⟨by rw [decide_eq_false (by omega)]; rfl, rfl⟩
        case rest =>
          as_aux_lemma =>
          obtain ⟨rfl, rfl⟩ := hcut
          go_upto_if 185 with (fail)
          go_cut [24] from 25 (CutR enc w0 blk off i m e d)
          case first =>
            as_aux_lemma =>
            by_cases hB : i < m ∧ i < c
            · obtain ⟨c1, c2⟩ := hB
              have C1 := Lib.hid (rotate_any enc (.func (.func g) #[] cb) blk off cap i m e d0 d w0 _ R hs S1.out c1 (by omega) (by omega) hsz)
              rw [decide_eq_true c1, decide_eq_true c2, Bool.and_true]
              go_wp2_with fail
              refine C1.out.mono ?_
              rintro ed w2 ⟨rfl, d1, hR1, hS2⟩
              have HR1 := Lib.hid hR1
              have S2 := Lib.hid hS2
              clear hR1 hS2 C1
              go_wp2_with fail
              go_meet
              case rel => exact ⟨rfl, d1, HR1.out, S2.out⟩
            · have hBf : (decide (i < m) && decide (i < c)) = false := by
                rw [Bool.and_eq_false_iff, decide_eq_false_iff_not, decide_eq_false_iff_not]
                omega
              rw [hBf]
              go_wp2_with fail
              go_meet
              case rel =>
                refine ⟨rfl, d, ?_, S1.out⟩
                rcases Nat.lt_or_ge i m with c1 | c1
                · obtain rfl : e = m := by omega
                  exact rot_nil_right _ _ _
                · obtain rfl : i = m := by omega
                  exact rot_nil_left _ _ _
          case rest =>
            as_aux_lemma =>
            clear S1
            obtain ⟨rfl, d1, hR1, hS2⟩ := hcut
            have S2 : Aside (SW enc w0 blk off d1 wc) := hS2
            have hds1 : d1.size = d.size := hR1.size
            have key := cut_two O HT.out (show a < m by omega) (show m < b by omega) KC.out (d' := d1)
            rw [← HCc.out, show c + m - i = e by omega] at key
            obtain ⟨T1, T2, X⟩ := key hR1
            have HR1 := Lib.hid hR1
            have HT1 := Lib.hid T1
            have HT2 := Lib.hid T2
            have HX := Lib.hid X
            clear hR1 hS2 key T1 T2 X
            go_upto_region 41 with (fail)
            go_cut [199] from 25 (CutB (decide (a < i) && decide (i < c)) wc)
            case first =>
              as_aux_lemma =>
              rcases Nat.lt_or_ge a i with c1 | c1
              · have c1' : (a : Int) < (i : Int) := by omega
                rcases Nat.lt_or_ge i c with c2 | c2
                · have c2' : (i : Int) < (c : Int) := by omega
                  go_wp2_with fail
                  go_meet
                  case rel => exact ⟨by rw [decide_eq_true c1, decide_eq_true c2]; rfl, rfl⟩
                · have c2' : ¬ (i : Int) < (c : Int) := by omega
                  go_wp2_with fail
                  go_meet
                  case rel => exact ⟨by rw [decide_eq_true c1, decide_eq_false (by omega)]; rfl, rfl⟩
              · have c1' : ¬ (a : Int) < (i : Int) := by omega
                go_wp2_with fail
                go_meet
                case rel => exact ⟨by rw [decide_eq_false (by omega)]; rfl, rfl⟩
            case rest =>
              as_aux_lemma =>
              obtain ⟨rfl, rfl⟩ := hcut
              go_upto_if 199 with (fail)
              go_cut [24] from 25 (CutL lt enc w0 blk off a c e d1)
              case first =>
                as_aux_lemma =>
                by_cases hB : a < i ∧ i < c
                · obtain ⟨c1, c2⟩ := hB
                  have C1 := Lib.hid (IH.out a i c d1 _ (by have := HCc.out; omega) hds1 S2.out c1 c2 (by omega) HT1.out)
                  rw [decide_eq_true c1, decide_eq_true c2, Bool.and_true]
                  go_wp2_with fail
                  refine C1.out.mono ?_
                  rintro ed w2 ⟨rfl, d2, hP2, hA2, hS3⟩
                  have HP2 := Lib.hid hP2
                  have HA2 := Lib.hid hA2
                  have S3 := Lib.hid hS3
                  clear hP2 hA2 hS3 C1
                  go_wp2_with fail
                  go_meet
                  case rel => exact ⟨rfl, d2, HP2.out, HA2.out, S3.out⟩
                · have hBf : (decide (a < i) && decide (i < c)) = false := by
                    rw [Bool.and_eq_false_iff, decide_eq_false_iff_not, decide_eq_false_iff_not]
                    omega
                  rw [hBf]
                  go_wp2_with fail
                  go_meet
                  case rel =>
                    refine ⟨rfl, d1, permIn_refl _ _ _, ?_, S2.out⟩
                    rcases Nat.lt_or_ge a i with c1 | c1
                    · obtain rfl : i = c := by omega
                      exact HT1.out.left
                    · obtain rfl : i = a := by omega
                      exact HT1.out.right
              case rest =>
                as_aux_lemma =>
                clear S2
                obtain ⟨rfl, d2, hP2, hA2, hS3⟩ := hcut
                have S3 : Aside (SW enc w0 blk off d2 wc) := hS3
                have hds2 : d2.size = d.size := hP2.1.trans hds1
                have T3 := Lib.hid (HT2.out.same (d' := d2) (fun k z1 z2 => hP2.2.1 k (.inr z1)) (by omega) (by omega))
                have HP2 := Lib.hid hP2
                have HA2 := Lib.hid hA2
                clear hP2 hA2 hS3 HT1 HT2
                go_upto_region 43 with (fail)
                go_cut [213] from 25 (CutB (decide (c < e) && decide (e < b)) wc)
                case first =>
                  as_aux_lemma =>
                  rcases Nat.lt_or_ge c e with c1 | c1
                  · have c1' : (c : Int) < (e : Int) := by omega
                    rcases Nat.lt_or_ge e b with c2 | c2
                    · have c2' : (e : Int) < (b : Int) := by omega
                      go_wp2_with fail
                      go_meet
                      case rel => exact ⟨by rw [decide_eq_true c1, decide_eq_true c2]; rfl, rfl⟩
                    · have c2' : ¬ (e : Int) < (b : Int) := by omega
                      go_wp2_with fail
                      go_meet
                      case rel => exact ⟨by rw [decide_eq_true c1, decide_eq_false (by omega)]; rfl, rfl⟩
                  · have c1' : ¬ (c : Int) < (e : Int) := by omega
                    go_wp2_with fail
                    go_meet
                    case rel => exact ⟨by rw [decide_eq_false (by omega)]; rfl, rfl⟩
                case rest =>
                  as_aux_lemma =>
                  obtain ⟨rfl, rfl⟩ := hcut
                  go_upto_if 213 with (fail)
                  by_cases hB : c < e ∧ e < b
                  · obtain ⟨c1, c2⟩ := hB
                    have C1 := Lib.hid (IH.out c e b d2 _ (by have := HCc.out; omega) hds2 S3.out c1 c2 (by omega) T3.out)
                    rw [decide_eq_true c1, decide_eq_true c2, Bool.and_true]
                    go_wp2_with fail
                    refine C1.out.mono ?_
                    rintro ed w2 ⟨rfl, d3, hP3, hA3, hS4⟩
                    have HP3 := Lib.hid hP3
                    have HA3 := Lib.hid hA3
                    have S4 := Lib.hid hS4
                    clear hP3 hA3 hS4 C1
                    go_wp2_with fail
                    go_end0
                    exact ⟨rfl, d3, (merge_end (by omega) (by omega) (by omega) (by omega) (by omega) (by omega) HR1.out HP2.out HP3.out HA2.out HA3.out HX.out).1, (merge_end (by omega) (by omega) (by omega) (by omega) (by omega) (by omega) HR1.out HP2.out HP3.out HA2.out HA3.out HX.out).2, S4.out⟩
                  · have hBf : (decide (c < e) && decide (e < b)) = false := by
                      rw [Bool.and_eq_false_iff, decide_eq_false_iff_not, decide_eq_false_iff_not]
                      omega
                    rw [hBf]
                    have HA3 : Hid (Asc lt c b d2) := by
                      rcases Nat.lt_or_ge c e with c1 | c1
                      · obtain rfl : e = b := by omega
                        exact T3.out.left
                      · obtain rfl : e = c := by omega
                        exact T3.out.right
                    go_wp2_with fail
                    go_end0
                    exact ⟨rfl, d2, (merge_end (by omega) (by omega) (by omega) (by omega) (by omega) (by omega) HR1.out HP2.out (permIn_refl _ _ _) HA2.out HA3.out HX.out).1, (merge_end (by omega) (by omega) (by omega) (by omega) (by omega) (by omega) HR1.out HP2.out (permIn_refl _ _ _) HA2.out HA3.out HX.out).2, S3.out⟩

/-- What symMerge does. -/
theorem merge_any (lt : α → α → Prop) (O : Ord lt) (enc : α → Value) (cf : α → α → Int) (g : Nat) (cb : Array Value) (blk off cap : Nat) (d0 : Array α) (w0 : World)
    (eg : ∀ args w, (callFunc g args).run Try.prog w = .ok (.enter g args) w) (hcmp : CmpLays1 Try.prog g cb enc cf blk off d0.size w0) (R : Row1 enc w0 blk off d0) (hsz : d0.size < 4611686018427387904) : ∀ K, MergeK lt enc cf g cb blk off cap d0.size w0 K
  | 0 => fun a m b d w h1 _ _ h4 h5 _ _ => by omega
  | K + 1 => fun a m b d w h1 h2 h3 h4 h5 h6 h7 => by
    have ih := merge_any lt O enc cf g cb blk off cap d0 w0 eg hcmp R hsz K
    rw [← h2] at ih h6 hsz ⊢
    by_cases c1 : a + 1 = m
    · exact merge_left lt O enc cf g cb blk off cap a m b d0 d w0 w eg hcmp R h2.symm h3 c1 h5 h6 hsz h7
    · by_cases c2 : m + 1 = b
      · exact merge_right lt O enc cf g cb blk off cap a m b d0 d w0 w eg hcmp R h2.symm h3 c2 (by omega) h6 hsz h7
      · exact merge_rest lt O enc cf g cb blk off cap a m b K d0 d w0 w eg hcmp ih R h2.symm h3 h1 (by omega) (by omega) h6 hsz h7
end Go.Proofs.Ytpaihfdmjkfegaa.Sta
