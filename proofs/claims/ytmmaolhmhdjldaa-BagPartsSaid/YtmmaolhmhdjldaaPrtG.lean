/- BagParts, walked. -/
import Derived.Test.YtmmaolhmhdjldaaPrtF
namespace Go.Proofs.Ytmmaolhmhdjldaa.BagS
open Go.RowKit Go.Proofs.Ytmmaolhmhdjldaa.MapF Go.Maps Go.Proofs.Ytmmaolhmhdjldaa.Rd

/-- What is read of some addresses. -/
def AdsA (w : World) (A : Option Addr) (n : Nat) (X : Nat → Ad) : Prop :=
  ∀ i, i < n → ∃ b o, A = some ⟨b, o, none⟩ ∧ b < w.heap.size ∧ w.cell? ⟨b, o + i * 2, none⟩ = some (.int .i64 (X i).1.1) ∧ w.cell? ⟨b, o + i * 2 + 1, none⟩ = some (.int .i64 (X i).1.2)
theorem AdsA.below {w w' : World} {A : Option Addr} {n : Nat} {X : Nat → Ad} (h : AdsA w A n X) (hB : Below w.heap.size w w') : AdsA w' A n X := fun i hi => by
  obtain ⟨b, o, h1, h2, h3, h4⟩ := h i hi
  exact ⟨b, o, h1, Nat.lt_of_lt_of_le h2 hB.size, (hB.cell (p := ⟨b, o + i * 2, none⟩) h2).trans h3, (hB.cell (p := ⟨b, o + i * 2 + 1, none⟩) h2).trans h4⟩

/-- One of them, in each world in which old memory is as it was. -/
theorem AdsA.one {w : World} {A : Option Addr} {n : Nat} {X : Nat → Ad} (h : AdsA w A n X) {i : Nat} (hi : i < n) :
    ∃ b o, A = some ⟨b, o, none⟩ ∧ ∀ W, Below w.heap.size w W → W.cell? ⟨b, o + i * 2, none⟩ = some (.int .i64 (X i).1.1) ∧ W.cell? ⟨b, o + i * 2 + 1, none⟩ = some (.int .i64 (X i).1.2) := by
  obtain ⟨b, o, h1, h2, h3, h4⟩ := h i hi
  exact ⟨b, o, h1, fun W hW => ⟨(hW.cell (p := ⟨b, o + i * 2, none⟩) h2).trans h3, (hW.cell (p := ⟨b, o + i * 2 + 1, none⟩) h2).trans h4⟩⟩

/-- The messages. -/
def msgs (X Y : Nat → Ad) (n : Nat) : List (Array Value) := (List.range n).map (pmsg X Y)
theorem msgs_len (X Y : Nat → Ad) (n : Nat) : (msgs X Y n).length = n := by simp [msgs]
theorem msgs_succ (X Y : Nat → Ad) (n : Nat) : msgs X Y (n + 1) = msgs X Y n ++ [pmsg X Y n] := by simp [msgs, List.range_succ]
theorem msgs_at (X Y : Nat → Ad) {n i : Nat} (h : i < n) : (msgs X Y n)[i]? = some (pmsg X Y i) := by simp [msgs, h]
theorem msgs_drop (X Y : Nat → Ad) {n i : Nat} (h : i < n) : (msgs X Y n).drop i = pmsg X Y i :: (msgs X Y n).drop (i + 1) := by
  have hl : i < (msgs X Y n).length := by rw [msgs_len]; exact h
  rw [List.drop_eq_getElem_cons hl]
  congr 1
  have := msgs_at X Y h
  rw [List.getElem?_eq_getElem hl] at this
  exact Option.some.inj this
/-- What is parted when j are. -/
noncomputable def prt (Z : Nat → Ad) : Nat → Ad → Option Unit
  | 0 => fun _ => none
  | j + 1 => upd (prt Z j) (Z j) (some ())
noncomputable def cutF (Z : Nat → Ad) : Nat → Ad → Option Int
  | 0 => fun _ => none
  | j + 1 => upd (cutF Z j) (Z j) (some 1)
theorem cutF_prt (Z : Nat → Ad) : ∀ j x, cutF Z j x = if (prt Z j x).isSome then some 1 else none
  | 0, _ => rfl
  | j + 1, x => by
    unfold cutF prt upd
    split
    · rfl
    · exact cutF_prt Z j x
theorem cutF_some (Z : Nat → Ad) (j : Nat) (x : Ad) : (cutF Z j x).isSome = (prt Z j x).isSome := by
  rw [cutF_prt]
  cases (prt Z j x).isSome <;> rfl
theorem cutF_get (Z : Nat → Ad) (j : Nat) (x : Ad) : (cutF Z j x).getD 0 = if (prt Z j x).isSome then 1 else 0 := by
  rw [cutF_prt]
  cases (prt Z j x).isSome <;> rfl
theorem prt_in (Z : Nat → Ad) : ∀ j x, (prt Z j x).isSome = true → ∃ i, i < j ∧ Z i = x
  | 0, _, h => by cases h
  | j + 1, x, h => by
    unfold prt upd at h
    split at h
    · rename_i e; exact ⟨j, by omega, e.symm⟩
    · obtain ⟨i, hi, e⟩ := prt_in Z j x h
      exact ⟨i, by omega, e⟩
/-- What is parted still when j are healed. -/
noncomputable def hld (f : Ad → Option Unit) (Z : Nat → Ad) : Nat → Ad → Option Unit
  | 0 => f
  | j + 1 => upd (hld f Z j) (Z j) none
theorem hld_none (f : Ad → Option Unit) (Z : Nat → Ad) : ∀ j x, (f x = none ∨ ∃ i, i < j ∧ Z i = x) → hld f Z j x = none
  | 0, x, h => by
    rcases h with h | ⟨i, hi, _⟩
    · exact h
    · omega
  | j + 1, x, h => by
    unfold hld upd
    split
    · rfl
    · rename_i e
      refine hld_none f Z j x ?_
      rcases h with h | ⟨i, hi, hx⟩
      · exact .inl h
      · by_cases e2 : i = j
        · subst e2; exact absurd hx.symm e
        · exact .inr ⟨i, by omega, hx⟩
theorem all_healed (Z : Nat → Ad) (n : Nat) (x : Ad) : hld (prt Z n) Z n x = none := by
  refine hld_none _ Z n x ?_
  cases h : prt Z n x with
  | none => exact .inl rfl
  | some u => exact .inr (prt_in Z n x (by rw [h]; rfl))
/-- The place of one that arrives. -/
theorem readyTo_at (r : Nat → Bool) {i : Nat} (hr : r i = true) : ∀ n, i < n → (readyTo r n)[(readyTo r i).length]? = some i
  | 0, h => by omega
  | n + 1, h => by
    by_cases e : i = n
    · subst e
      rw [readyTo_succ, hr]
      simp
    · have h1 := readyTo_at r hr n (by omega)
      have h2 : (readyTo r i).length < (readyTo r n).length := (List.getElem?_eq_some_iff.1 h1).1
      rw [readyTo_succ, List.getElem?_append_left h2, h1]

def RelP (n : Nat) (m p : Nat) (X Y : Nat → Ad) (w0 : World) (g : Nat) (v9 : Value) (wr : World) : Prop :=
  ∃ k : Nat, k + g = n ∧ v9 = .int .i64 k ∧ StP wr w0 m p m (fun _ => none) 0 (msgs X Y k)

def RelK (n3 n m p c : Nat) (X Y Z : Nat → Ad) (w0 : World) (g : Nat) (v11 : Value) (wr : World) : Prop :=
  ∃ j : Nat, j + g = n3 ∧ v11 = .int .i64 j ∧ StC wr w0 m p m c (prt Z j) (cutF Z j) j (msgs X Y n)

def RelQ (n : Nat) (r : Nat → Bool) (W3 : World) (g : Nat) (v13 v14 : Value) (wr : World) : Prop :=
  ∃ i : Nat, i + g = n ∧ v13 = .int .i64 (readyTo r i).length ∧ v14 = .int .i64 i ∧ Below W3.heap.size W3 wr
def RelH (n3 n m p : Nat) (ff : Ad → Option Unit) (X Y Z : Nat → Ad) (w0 : World) (g : Nat) (v15 : Value) (wr : World) : Prop :=
  ∃ j : Nat, j + g = n3 ∧ v15 = .int .i64 j ∧ StP wr w0 m p m (hld ff Z j) n3 (msgs X Y n)
def RelT (n3 n m p : Nat) (ff : Ad → Option Unit) (X Y : Nat → Ad) (w0 : World) (g : Nat) (v16 : Value) (wr : World) : Prop :=
  ∃ i : Nat, i + g = n ∧ v16 = .int .i64 i ∧ StP wr w0 m p m ff n3 ((msgs X Y n).drop i)
theorem look_cut {w : World} {c k : Nat} {g : Ad → Option Int} (h : IsF cutMap w c k g) (x : Ad) : (Instr.lookup 101 (.map (some c)) (.agg #[.int .i64 x.1.1, .int .i64 x.1.2]) false).run Try.prog w = .ok (.int .i64 ((g x).getD 0)) w :=
  h.look (M := cutMap) Try.underlying101 (zero3 w) x trivial
theorem cut_cases (Z : Nat → Ad) (j : Nat) (x : Ad) : ((prt Z j x).isSome = false ∧ (cutF Z j x).getD 0 = 0) ∨ ((prt Z j x).isSome = true ∧ (cutF Z j x).getD 0 = 1) := by
  rw [cutF_get]
  cases (prt Z j x).isSome
  · exact .inl ⟨rfl, rfl⟩
  · exact .inr ⟨rfl, rfl⟩

attribute [local go_sem ↓] loadMsg_eq storeMsg_eq buildMsg_eq
attribute [local go_sem] run_loadMsg run_storeMsg run_buildMsg

set_option maxRecDepth 100000 in
set_option maxHeartbeats 8000000 in
theorem parts_some (A1 A2 A3 : Option Addr) (n1 n2 n3 c1 c2 c3 : Nat) (X Y Z : Nat → Ad) (h1 : n1 ≤ 100) (h2 : n2 ≤ 100) (h3 : n3 ≤ 100) (w : World) (hX : AdsA w A1 n1 X) (hY : AdsA w A2 n2 Y) (hZ : AdsA w A3 n3 Z) :
    Calls Try.prog 15 #[.slice A1 n1 c1, .slice A2 n2 c2, .slice A3 n3 c3] w fun e w' => e = .returned (.bool true) ∧ Below w.heap.size w w' := by
  have b1 : decide ((100 : Int) < (n1 : Int)) = false := decide_eq_false (by omega)
  have b2 : decide ((100 : Int) < (n2 : Int)) = false := decide_eq_false (by omega)
  have b3 : decide ((100 : Int) < (n3 : Int)) = false := decide_eq_false (by omega)
  have WK := Lib.hid (works_bag w)
  have HX := Lib.hid hX
  have HY := Lib.hid hY
  have HZ := Lib.hid hZ
  clear hX hY hZ
  go_enter Try.func15, Try.ntmps15
  go_wp2_with fail
  refine WK.out.mono ?_
  rintro e w1 ⟨rfl, hb1⟩
  have HB1 := Lib.hid hb1
  clear hb1 WK
  go_wp2_with fail
  refine (new_bag 256 w1).mono ?_
  rintro e W ⟨rfl, hB, hF, hbn⟩
  have S0 : Hid (StP W w w1.heap.size (w1.heap.size + 1) w1.heap.size (fun _ => none) 0 []) := Lib.hid ⟨none, 0, hB, hF, HB1.out.trans (hbn.mono HB1.out.size), HB1.out.size, HB1.out.size⟩
  have hm0 : w.heap.size ≤ w1.heap.size := HB1.out.size
  clear hB hF hbn
  obtain ⟨p, hp⟩ : ∃ p, p = w1.heap.size + 1 := ⟨_, rfl⟩
  obtain ⟨m, hm⟩ : ∃ m, m = w1.heap.size := ⟨_, rfl⟩
  rw [← hp, ← hm] at S0
  rw [← hp]
  rw [← hm] at hm0
  clear hp hm HB1 w1
  obtain ⟨n, hn, hn1, hn2⟩ : ∃ n : Nat, (n : Int) = min (n1 : Int) (n2 : Int) ∧ n ≤ n1 ∧ n ≤ n2 := ⟨min n1 n2, by omega, by omega, by omega⟩
  go_upto_region 9 with (fail)
  rw [← hn]
  clear hn
  go_wp2_with fail
  go_loopg [9] n (RelP n m p X Y w)
  case atStart => exact ⟨0, by omega, rfl, S0.out⟩
  case round =>
    clear S0
    obtain ⟨g1, hg1⟩ : ∃ x, x = gk := ⟨_, rfl⟩
    rw [← hg1] at hrel
    obtain ⟨k, hk, rfl, hS⟩ := hrel
    have HG1 := Lib.hid hg1
    have HS := Lib.hid hS
    have BW := Lib.hid hS.old.1
    clear hg1 hS
    by_cases hkn : k < n
    · have hkn' : (k : Int) < (n : Int) := by omega
      have hk0 : (0 : Int) ≤ (k : Int) := by omega
      have hkn1 : (k : Int) < (n1 : Int) := by omega
      have hkn2 : (k : Int) < (n2 : Int) := by omega
      obtain ⟨xb, xo, rfl, hFX⟩ := HX.out.one (show k < n1 by omega)
      obtain ⟨yb, yo, rfl, hFY⟩ := HY.out.one (show k < n2 by omega)
      have FX := Lib.hid hFX
      have FY := Lib.hid hFY
      clear hFX hFY
      have SN := Lib.hid (spSend (HS.out.below (Below.refl _ wr).drew) (by rw [msgs_len]; omega) (pmsg X Y k) (nilP _ _ _))
      rw [← msgs_succ] at SN
      unfold pmsg msgP at SN
      generalize hxk : X k = xk at *
      generalize hyk : Y k = yk at *
      obtain ⟨⟨xa, xc⟩, hxw⟩ := xk
      obtain ⟨⟨ya, yc⟩, hyw⟩ := yk
      simp only at SN FX FY
      obtain ⟨x0, x1⟩ := FX.out wr BW.out
      obtain ⟨y0, y1⟩ := FY.out wr BW.out
      go_wp2_with fail
      go_region_held3 (fun v => v.cell? ⟨xb, xo + k * 2, none⟩ = some (.int .i64 xa) ∧ v.cell? ⟨xb, xo + k * 2 + 1, none⟩ = some (.int .i64 xc) ∧ v.cell? ⟨yb, yo + k * 2, none⟩ = some (.int .i64 ya) ∧ v.cell? ⟨yb, yo + k * 2 + 1, none⟩ = some (.int .i64 yc)) (go_keep)
        (first | (go_at_call 43; refine SN.out.mono ?_; rintro e w2 ⟨rfl, hS2⟩; have HS2 := Lib.hid hS2; obtain ⟨z0, z1⟩ := FX.out w2 hS2.old.1; obtain ⟨z2, z3⟩ := FY.out w2 hS2.old.1; clear hS2))
      all_goals
        go_wp2_with fail
        go_roundg (g1 - 1)
        case measure => have := HG1.out; omega
        case rel => exact ⟨k + 1, by omega, by go_num, HS2.out⟩
    · obtain rfl : n = k := by omega
      have hnn : decide ((n : Int) < (n : Int)) = false := decide_eq_false (by omega)
      have hmm := @run_makeMap Try.prog
      go_upto_region 14 with (fail)
      clear hmm hnn hkn
      obtain ⟨c, hc⟩ : ∃ c, c = wr.heap.size := ⟨_, rfl⟩
      rw [← hc]
      refine world_out (fun W2 hW2 => ?_)
      have SC : Hid (StC W2 w m p m c (prt Z 0) (cutF Z 0) 0 (msgs X Y n)) := Lib.hid (by
        obtain ⟨_, _, _, hm1, _, _, _⟩ := HS.out
        have hmw := hm1.lt
        rw [hW2, hc]
        exact ⟨HS.out.below ((Below.refl _ _).alloc (Nat.le_refl _) _), IsF.made wr, by omega, BW.out.size⟩)
      clear hW2 hc HS BW HG1 hk
      go_wp2_with fail
      go_loopg [11] n3 (RelK n3 n m p c X Y Z w)
      case atStart => exact ⟨0, by omega, rfl, SC.out⟩
      case round =>
        clear SC
        obtain ⟨g2, hg2⟩ : ∃ x, x = gk := ⟨_, rfl⟩
        rw [← hg2] at hrel
        obtain ⟨j, hj, rfl, hC⟩ := hrel
        have HG2 := Lib.hid hg2
        have HC := Lib.hid hC
        have BW := Lib.hid hC.1.old.1
        clear hg2 hC
        by_cases hjn : j < n3
        · have hjn' : (j : Int) < (n3 : Int) := by omega
          have hj0 : (0 : Int) ≤ (j : Int) := by omega
          obtain ⟨zb, zo, rfl, hFZ⟩ := HZ.out.one hjn
          have FZ := Lib.hid hFZ
          clear hFZ
          have PT := Lib.hid (scPart HC.out (by omega) (Z j))
          have hZj : Hid (prt Z (j + 1) = upd (prt Z j) (Z j) (some ())) := Lib.hid rfl
          have hCj : Hid (cutF Z (j + 1) = upd (cutF Z j) (Z j) (some 1)) := Lib.hid rfl
          rw [← hZj.out] at PT
          generalize hzj : Z j = zj at *
          obtain ⟨⟨za, zc⟩, hzw⟩ := zj
          simp only at PT FZ
          obtain ⟨x0, x1⟩ := FZ.out wr BW.out
          go_wp2_with fail
          refine PT.out.mono ?_
          rintro e w2 ⟨rfl, hP2, hQ2⟩
          have HP2 := Lib.hid hP2
          have HQ2 := Lib.hid hQ2
          obtain ⟨y0, y1⟩ := FZ.out w2 hP2.old.1
          clear hP2 hQ2 PT x0 x1
          go_wp2_with (at_mapUpdate; refine wpList_storeF cutMap _ rfl _ _ _ 101 rfl 3 Try.underlying101 c j _ rfl HQ2.out (by unfold maxLen; omega) ⟨(za, zc), hzw⟩ trivial 1 rfl rfl ?_; intro w3 hf3 ht3; rw [← hCj.out] at hf3; have SC3 := Lib.hid (scStore HP2.out HQ2.out HC.out.2.2.1 HC.out.2.2.2 hf3 ht3); clear hf3 ht3 HP2 HQ2 HC)
          go_roundg (g2 - 1)
          case measure => have := HG2.out; omega
          case rel => exact ⟨j + 1, by omega, by go_num, SC3.out⟩
        · obtain rfl : n3 = j := by omega
          have hnn : decide ((n3 : Int) < (n3 : Int)) = false := decide_eq_false (by omega)
          go_upto_region 19 with (fail)
          clear hnn hjn HG2 hj
          have PD := Lib.hid (spParted HC.out.1 (by omega))
          go_wp2_with fail
          refine PD.out.mono ?_
          rintro e w2 ⟨A4, c4, ss, rfl, hss, hsl, hb2⟩
          have HC2 := Lib.hid (HC.out.below hb2)
          have hln := isF_size (M := cutMap) rfl (fun _ => trivial) HC2.out.2.1 ss hss.1 (fun x => by rw [cutF_some]; exact hss.2 x) Try.underlying101
          have BW2 := Lib.hid HC2.out.1.old.1
          clear hss hsl hb2 HC PD BW
          go_upto_region 21 with (fail)
          clear hln
          obtain ⟨r, hr⟩ : ∃ r, arr (prt Z n3) X Y = r := ⟨_, rfl⟩
          have RD := Lib.hid (spReady HC2.out.1 X Y (msgs_len X Y n) (fun i hi => ⟨_, msgs_at X Y hi, sentP _ _ _⟩))
          rw [hr] at RD
          have HR := Lib.hid hr
          clear hr
          go_wp2_with fail
          refine RD.out.mono ?_
          rintro e W3 ⟨A5, c5, rfl, hI, hb3⟩
          have HC3 := Lib.hid (HC2.out.below hb3)
          have BW3 := Lib.hid HC3.out.1.old.1
          have HI := Lib.hid hI
          clear hI hb3 HC2 BW2 RD
          go_wp2_with fail
          go_loopg [13, 14] n (RelQ n r W3)
          case atStart => exact ⟨0, by omega, rfl, rfl, Below.refl _ _⟩
          case round =>
            obtain ⟨g3, hg3⟩ : ∃ x, x = gk := ⟨_, rfl⟩
            rw [← hg3] at hrel
            obtain ⟨i, hi, rfl, rfl, hB⟩ := hrel
            have HG3 := Lib.hid hg3
            have B3 := Lib.hid hB
            have BW := Lib.hid (BW3.out.trans (hB.mono BW3.out.size))
            clear hg3 hB
            have hrl := readyTo_len r i
            by_cases hin : i < n
            · have hin' : (i : Int) < (n : Int) := by omega
              have hi0 : (0 : Int) ≤ (i : Int) := by omega
              have hin1 : (i : Int) < (n1 : Int) := by omega
              have hin2 : (i : Int) < (n2 : Int) := by omega
              obtain ⟨xb, xo, rfl, hFX⟩ := HX.out.one (show i < n1 by omega)
              obtain ⟨yb, yo, rfl, hFY⟩ := HY.out.one (show i < n2 by omega)
              have FX := Lib.hid hFX
              have FY := Lib.hid hFY
              clear hFX hFY
              have hri : (!(prt Z n3 (X i)).isSome && !(prt Z n3 (Y i)).isSome) = r i := by rw [← HR.out]; rfl
              have l1 := fun W' (hW' : Below W3.heap.size W3 W') => look_cut (HC3.out.below hW').2.1 (X i)
              have l2 := fun W' (hW' : Below W3.heap.size W3 W') => look_cut (HC3.out.below hW').2.1 (Y i)
              obtain ⟨u, hu⟩ : ∃ u, (cutF Z n3 (X i)).getD 0 = u := ⟨_, rfl⟩
              obtain ⟨v, hv⟩ : ∃ v, (cutF Z n3 (Y i)).getD 0 = v := ⟨_, rfl⟩
              have cu := cut_cases Z n3 (X i)
              have cv := cut_cases Z n3 (Y i)
              rw [hu] at l1 cu
              rw [hv] at l2 cv
              have hz : (IntKind.i64.wrap (u + v) == 0) = r i := by
                rw [← hri]
                rcases cu with ⟨e1, e2⟩ | ⟨e1, e2⟩ <;> rcases cv with ⟨e3, e4⟩ | ⟨e3, e4⟩ <;> rw [e1, e2, e3, e4] <;> decide +kernel
              have HZ0 := Lib.hid hz
              have L1 := Lib.hid l1
              have L2 := Lib.hid l2
              clear hz hri cu cv hu hv l1 l2
              generalize hxk : X i = xk at *
              generalize hyk : Y i = yk at *
              obtain ⟨⟨xa, xc⟩, hxw⟩ := xk
              obtain ⟨⟨ya, yc⟩, hyw⟩ := yk
              simp only at L1 L2 FX FY
              obtain ⟨x0, x1⟩ := FX.out wr BW.out
              obtain ⟨y0, y1⟩ := FY.out wr BW.out
              have k1 := L1.out wr.drew B3.out.drew
              have k2 := L2.out wr.drew B3.out.drew
              have hsc := readyTo_succ r i
              cases hrk : r i with
              | false =>
                have hq1 := HZ0.out
                rw [hrk] at hsc hq1
                simp only [Bool.false_eq_true, if_false, List.append_nil] at hsc
                have hq2 : ¬ IntKind.i64.wrap (u + v) = 0 := by simpa using hq1
                have HSC := Lib.hid hsc
                clear hsc hrk
                go_wp2_with fail
                go_region_held3 (fun W' => (W'.cell? ⟨xb, xo + i * 2, none⟩ = some (.int .i64 xa) ∧ W'.cell? ⟨xb, xo + i * 2 + 1, none⟩ = some (.int .i64 xc) ∧ W'.cell? ⟨yb, yo + i * 2, none⟩ = some (.int .i64 ya) ∧ W'.cell? ⟨yb, yo + i * 2 + 1, none⟩ = some (.int .i64 yc))) (go_keep) (fail)
                all_goals
                  go_wp2_with fail
                  go_roundg (g3 - 1)
                  case measure => have := HG3.out; omega
                  case rel => exact ⟨i + 1, by omega, by rw [HSC.out], by go_num, B3.out.drew⟩
              | true =>
                have hq1 := HZ0.out
                rw [hrk] at hsc hq1
                simp only [if_true] at hsc
                have hq2 : IntKind.i64.wrap (u + v) = 0 := by simpa using hq1
                have hat := readyTo_at r hrk n hin
                have hlt : (readyTo r i).length < (readyTo r n).length := (List.getElem?_eq_some_iff.1 hat).1
                have hIr := HI.out.below B3.out
                obtain ⟨g5, rfl, hnc, hcm, hg5⟩ := hIr.form (by omega)
                have cq : wr.cell? ⟨g5, (readyTo r i).length, none⟩ = some (.int .i64 i) := by
                  have h7 := World.ownsRow.cellAt hIr (readyTo r i).length (by omega)
                  rw [List.getElem?_map, hat] at h7
                  exact h7
                have hlt' : (((readyTo r i).length : Nat) : Int) < (((readyTo r n).length : Nat) : Int) := by omega
                have hge : decide ((((readyTo r n).length : Nat) : Int) ≤ (((readyTo r i).length : Nat) : Int)) = false := decide_eq_false (by omega)
                have HSC := Lib.hid (show (readyTo r (i + 1)).length = (readyTo r i).length + 1 by rw [hsc, List.length_append]; rfl)
                clear hsc hrk hat hIr
                generalize (readyTo r n).length = ln at *
                generalize (readyTo r i).length = lq at *
                go_wp2_with fail
                go_region_held3 (fun W' => (W'.cell? ⟨xb, xo + i * 2, none⟩ = some (.int .i64 xa) ∧ W'.cell? ⟨xb, xo + i * 2 + 1, none⟩ = some (.int .i64 xc) ∧ W'.cell? ⟨yb, yo + i * 2, none⟩ = some (.int .i64 ya) ∧ W'.cell? ⟨yb, yo + i * 2 + 1, none⟩ = some (.int .i64 yc))) (go_keep) (fail)
                all_goals
                  go_wp2_with fail
                  go_roundg (g3 - 1)
                  case measure => have := HG3.out; omega
                  case rel => exact ⟨i + 1, by omega, by rw [HSC.out]; go_num, by go_num, B3.out.drew⟩
            · obtain rfl : n = i := by omega
              have hnn : decide ((n : Int) < (n : Int)) = false := decide_eq_false (by omega)
              have SP := Lib.hid (HC3.out.below B3.out).1
              go_upto_region 32 with (fail)
              clear B3 HC3 HI BW3 hnn hin HG3 hi hrl
              go_wp2_with fail
              go_loopg [15] n3 (RelH n3 n m p (prt Z n3) X Y Z w)
              case atStart => exact ⟨0, by omega, rfl, SP.out⟩
              case round =>
                clear SP BW
                obtain ⟨g4, hg4⟩ : ∃ x, x = gk := ⟨_, rfl⟩
                rw [← hg4] at hrel
                obtain ⟨j, hj, rfl, hS⟩ := hrel
                have HG4 := Lib.hid hg4
                have HS := Lib.hid hS
                have BW := Lib.hid hS.old.1
                clear hg4 hS
                by_cases hjn : j < n3
                · have hjn' : (j : Int) < (n3 : Int) := by omega
                  have hj0 : (0 : Int) ≤ (j : Int) := by omega
                  obtain ⟨zb, zo, rfl, hFZ⟩ := HZ.out.one hjn
                  have FZ := Lib.hid hFZ
                  clear hFZ
                  have PT := Lib.hid (spHeal HS.out (Z j))
                  have hZj : Hid (hld (prt Z n3) Z (j + 1) = upd (hld (prt Z n3) Z j) (Z j) none) := Lib.hid rfl
                  rw [← hZj.out] at PT
                  generalize hzj : Z j = zj at *
                  obtain ⟨⟨za, zc⟩, hzw⟩ := zj
                  simp only at PT FZ
                  obtain ⟨x0, x1⟩ := FZ.out wr BW.out
                  go_wp2_with fail
                  refine PT.out.mono ?_
                  rintro e w2 ⟨rfl, hP2⟩
                  have HP2 := Lib.hid hP2
                  clear hP2 PT x0 x1
                  go_wp2_with fail
                  go_roundg (g4 - 1)
                  case measure => have := HG4.out; omega
                  case rel => exact ⟨j + 1, by omega, by go_num, HP2.out⟩
                · obtain rfl : n3 = j := by omega
                  have hnn : decide ((n3 : Int) < (n3 : Int)) = false := decide_eq_false (by omega)
                  obtain ⟨ff, hff⟩ : ∃ ff, hld (prt Z n3) Z n3 = ff := ⟨_, rfl⟩
                  rw [hff] at HS
                  have HN : Hid (∀ z, ff z = none) := Lib.hid (fun z => by rw [← hff]; exact all_healed Z n3 z)
                  clear hff
                  go_upto_region 36 with (fail)
                  clear hnn hjn HG4 hj
                  go_wp2_with fail
                  go_loopg [16] n (RelT n3 n m p ff X Y w)
                  case atStart => exact ⟨0, by omega, rfl, HS.out⟩
                  case round =>
                    clear HS BW
                    obtain ⟨g5, hg5⟩ : ∃ x, x = gk := ⟨_, rfl⟩
                    rw [← hg5] at hrel
                    obtain ⟨i, hi, rfl, hS⟩ := hrel
                    have HG5 := Lib.hid hg5
                    by_cases hin : i < n
                    · have hin' : (i : Int) < (n : Int) := by omega
                      rw [msgs_drop X Y hin] at hS
                      have hnil := nilP (i : Int) (X i) (Y i)
                      have hsent := sentP (i : Int) (X i) (Y i)
                      have h12 : (pmsg X Y i).toList[12]? = some (.int .i64 (i : Int)) := rfl
                      change NilC (pmsg X Y i) at hnil
                      change Sent (pmsg X Y i) _ _ at hsent
                      obtain ⟨C, hC⟩ : ∃ C, pmsg X Y i = C := ⟨_, rfl⟩
                      rw [hC] at hS hnil hsent h12
                      have TK := Lib.hid (spTake hS (X i) (Y i) hsent HN.out)
                      have hmc := hnil.msg
                      have HNIL := Lib.hid hnil
                      have H12 := Lib.hid h12
                      clear hg5 hS hnil hsent h12 hC
                      go_wp2_with fail
                      refine TK.out.mono ?_
                      rintro e w2 ⟨rfl, hS2⟩
                      have HS2 := Lib.hid hS2
                      have rz : RoomMsg (w2.alloc (.cells zeroC 73)) w2.heap.size 0 := (Blk.new w2 73 zeroC).there
                      unfold zeroC at rz
                      clear hS2 TK
                      go_upto_region 40 with (fail)
                      refine world_out (fun w3 hW3 => ?_)
                      have S3 : Hid (StP w3 w m p m ff n3 ((msgs X Y n).drop (i + 1))) := Lib.hid (by rw [hW3]; exact HS2.out.below (below_setCells ((Below.refl _ _).alloc (Nat.le_refl _) _) _ _ (Nat.le_refl _) _))
                      have c12 : w3.cell? ⟨w2.heap.size, 12, none⟩ = some (.int .i64 (i : Int)) := by rw [hW3]; exact World.rangeAt_setCells_same _ _ _ _ (by rw [Array.length_toList, HNIL.out.size]; exact rz) 12 _ H12.out
                      clear hW3 rz HS2 hmc
                      go_wp2_with fail
                      refine (num_any 0 _).mono ?_
                      rintro e wq ⟨rfl, rfl⟩
                      go_wp2_with fail
                      go_roundg (g5 - 1)
                      case measure => have := HG5.out; omega
                      case rel => exact ⟨i + 1, by omega, by go_num, S3.out⟩
                    · obtain rfl : n = i := by omega
                      have hnn : decide ((n : Int) < (n : Int)) = false := decide_eq_false (by omega)
                      rw [List.drop_of_length_le (by rw [msgs_len]; exact Nat.le_refl _)] at hS
                      have LN := Lib.hid (spLen hS)
                      have HS := Lib.hid hS
                      have BW := Lib.hid hS.old.1
                      clear hg5 hS
                      go_upto_region 42 with (fail)
                      clear hnn hin HG5 hi
                      go_wp2_with fail
                      refine LN.out.mono ?_
                      rintro e wq ⟨rfl, rfl⟩
                      have PD := Lib.hid (spParted HS.out (by omega))
                      clear LN
                      go_wp2_with fail
                      refine PD.out.mono ?_
                      rintro e w2 ⟨A6, c6, ss, rfl, hss, _, hb2⟩
                      have hnil : ss = [] := by
                        cases ss with
                        | nil => rfl
                        | cons z t =>
                          have := (hss.2 z).1 (by simp)
                          rw [HN.out z] at this
                          cases this
                      subst hnil
                      have HS2 := Lib.hid (HS.out.below hb2)
                      have RD := Lib.hid (spReady (n := 0) HS2.out X Y rfl (fun i hi => by omega))
                      clear hss hb2 HS PD
                      go_wp2_with fail
                      refine RD.out.mono ?_
                      rintro e w3 ⟨A7, c7, rfl, _, hb3⟩
                      have BW3 := Lib.hid (HS2.out.below hb3).old.1
                      clear hb3 RD HS2
                      go_wp2_with fail
                      go_ret
                      exact ⟨rfl, BW3.out⟩

set_option maxRecDepth 100000 in
set_option maxHeartbeats 2000000 in
/-- Long lists. -/
theorem parts_long (A1 A2 A3 : Option Addr) (n1 n2 n3 c1 c2 c3 : Nat) (h : 100 < n1 ∨ 100 < n2 ∨ 100 < n3) (w : World) :
    Calls Try.prog 15 #[.slice A1 n1 c1, .slice A2 n2 c2, .slice A3 n3 c3] w fun e w' => e = .returned (.bool true) ∧ Below w.heap.size w w' := by
  have WK := Lib.hid (works_bag w)
  by_cases h1 : 100 < n1
  · have b1 : decide ((100 : Int) < (n1 : Int)) = true := decide_eq_true (by omega)
    clear h
    go_enter Try.func15, Try.ntmps15
    go_wp2_with fail
    refine WK.out.mono ?_
    rintro e w1 ⟨rfl, hb1⟩
    have HB1 := Lib.hid hb1
    clear hb1 WK
    go_wp2_with fail
    go_ret
    exact ⟨rfl, HB1.out⟩
  · have b1 : decide ((100 : Int) < (n1 : Int)) = false := decide_eq_false (by omega)
    by_cases h2 : 100 < n2
    · have b2 : decide ((100 : Int) < (n2 : Int)) = true := decide_eq_true (by omega)
      clear h
      go_enter Try.func15, Try.ntmps15
      go_wp2_with fail
      refine WK.out.mono ?_
      rintro e w1 ⟨rfl, hb1⟩
      have HB1 := Lib.hid hb1
      clear hb1 WK
      go_wp2_with fail
      go_ret
      exact ⟨rfl, HB1.out⟩
    · have b2 : decide ((100 : Int) < (n2 : Int)) = false := decide_eq_false (by omega)
      have b3 : decide ((100 : Int) < (n3 : Int)) = true := decide_eq_true (by omega)
      clear h
      go_enter Try.func15, Try.ntmps15
      go_wp2_with fail
      refine WK.out.mono ?_
      rintro e w1 ⟨rfl, hb1⟩
      have HB1 := Lib.hid hb1
      clear hb1 WK
      go_wp2_with fail
      go_ret
      exact ⟨rfl, HB1.out⟩
/-- All of it. -/
theorem parts_any (A1 A2 A3 : Option Addr) (n1 n2 n3 c1 c2 c3 : Nat) (X Y Z : Nat → Ad) (w : World) (hX : AdsA w A1 n1 X) (hY : AdsA w A2 n2 Y) (hZ : AdsA w A3 n3 Z) :
    Calls Try.prog 15 #[.slice A1 n1 c1, .slice A2 n2 c2, .slice A3 n3 c3] w fun e w' => e = .returned (.bool true) ∧ Below w.heap.size w w' := by
  by_cases h : 100 < n1 ∨ 100 < n2 ∨ 100 < n3
  · exact parts_long A1 A2 A3 n1 n2 n3 c1 c2 c3 h w
  · exact parts_some A1 A2 A3 n1 n2 n3 c1 c2 c3 X Y Z (by omega) (by omega) (by omega) w hX hY hZ
end Go.Proofs.Ytmmaolhmhdjldaa.BagS
