/- script.Check and the document's Check, walked. -/
import Derived.Test.YtpfebfckolbnmaaDoorScJ
namespace Go.Proofs.YtpfebfckolbnmaaDoor.Sc
open Go.RowKit Go.Lib Go.Proofs.YtpfebfckolbnmaaDoor.Sta Go.Proofs.YtpfebfckolbnmaaDoor.Rd Go.Proofs.YtpfebfckolbnmaaDoor.Cls Go.Proofs.YtpfebfckolbnmaaDoor.Far
open Go.Proofs.YtpfebfckolbnmaaDoor.Ck (RowIn sV CfgAt cfgV)

/-- An error's value: none, or a fault. -/
def FaultAt (w : World) (r : Int × Int) (v : Value) : Prop :=
  (r = (0, 0) ∧ v = .nilIface) ∨ (r.2 ≠ 0 ∧ ∃ H, v = .iface 44 (.pointer (some ⟨H, 0, none⟩)) ∧ H < w.heap.size ∧ w.cell? ⟨H, 0, none⟩ = some (.int .i64 r.1) ∧ w.cell? ⟨H, 1, none⟩ = some (.iface 46 (.int .i64 r.2)))
theorem FaultAt.below {w w' : World} {r : Int × Int} {v : Value} (h : FaultAt w r v) (hb : Below w.heap.size w w') : FaultAt w' r v := by
  rcases h with h | ⟨h1, H, h2, h3, h4, h5⟩
  · exact .inl h
  · exact .inr ⟨h1, H, h2, Nat.lt_of_lt_of_le h3 hb.size, (hb.cell (p := ⟨H, 0, none⟩) h3).trans h4, (hb.cell (p := ⟨H, 1, none⟩) h3).trans h5⟩
def CheckP (w : World) (r : Int × Int) (e : Ending) (w' : World) : Prop := Below w.heap.size w w' ∧ ∃ v, e = .returned v ∧ FaultAt w' r v

set_option maxRecDepth 100000 in
set_option maxHeartbeats 1600000 in
theorem check_any (G F C S : Int) (sp : List ByteArray) (pl : List Int) (l : List Stp) (A1 A2 A3 : Option Addr) (c1 c2 c3 : Nat) (w : World) (h1 : RowIn w w.heap.size A1 (sp.map sV)) (h2 : IntsIn w w.heap.size A2 pl) (h3 : StepsIn w w.heap.size A3 l) (hm : l.length ≤ maxLen) (hF : FormsAt w) :
    Calls Tryd.prog 7 #[scrV G F C S (.slice A1 sp.length c1) (.slice A2 pl.length c2) (.slice A3 l.length c3)] w (CheckP w (faultF (Ck.chk G F C S sp pl) l)) := by
  have LK := Lib.hid (fun v (hb : Below w.heap.size w v) => look_any G F C S sp pl l A1 A2 A3 c1 c2 c3 v ((h1.below hb).more hb.size) ((h2.below hb).more hb.size) ((h3.below hb).more hb.size) hm (hF.below hb))
  have B0 : Hid (Below w.heap.size w (w.alloc (.cells #[.int .i64 G, .int .i64 F, .int .i64 C, .slice A1 sp.length c1, .slice A2 pl.length c2, .int .i64 S, .slice A3 l.length c3] 28))) := Lib.hid ((Below.refl _ _).alloc (Nat.le_refl _) _)
  generalize faultF (Ck.chk G F C S sp pl) l = r at LK ⊢
  clear h1 h2 h3 hF hm
  unfold scrV
  go_enter Tryd.func7, Tryd.ntmps7
  go_wp2_with fail
  refine (LK.out _ B0.out).mono ?_
  rintro e w1 ⟨hb, h⟩
  have B1 : Hid (Below w.heap.size w w1) := Lib.hid (B0.out.trans (hb.mono B0.out.size))
  clear hb LK B0
  rcases h with ⟨hr, rfl⟩ | ⟨hr, H, rfl, h1, h2, h3⟩
  · have HR := Lib.hid hr
    clear hr
    go_wp2_with fail
    go_ret
    exact ⟨B1.out, _, rfl, .inl ⟨HR.out, rfl⟩⟩
  · have HH : Hid (FaultAt w1 r (.iface 44 (.pointer (some ⟨H, 0, none⟩)))) := Lib.hid (.inr ⟨hr, H, rfl, h1, h2, h3⟩)
    clear hr h1 h2 h3
    go_wp2_with fail
    go_ret
    exact ⟨B1.out, _, rfl, HH.out⟩

set_option maxRecDepth 100000 in
set_option maxHeartbeats 6400000 in
theorem refcheck_any (G F C S : Int) (sp : List ByteArray) (pl : List Int) (l : List Stp) (A1 A2 A3 : Option Addr) (c1 c2 c3 : Nat) (w : World) (h1 : RowIn w w.heap.size A1 (sp.map sV)) (h2 : IntsIn w w.heap.size A2 pl) (h3 : StepsIn w w.heap.size A3 l) (hm : l.length ≤ maxLen) :
    Calls Tryd.prog 8 #[scrV G F C S (.slice A1 sp.length c1) (.slice A2 pl.length c2) (.slice A3 l.length c3)] w fun e w' => e = .returned (.agg #[.int .i64 (faultF (Ck.chk G F C S sp pl) l).1, .int .i64 (faultF (Ck.chk G F C S sp pl) l).2]) ∧ Below w.heap.size w w' := by
  have CK := Lib.hid (fun v (hb : Below w.heap.size w v) => Ck.refCheck_any G F C S sp pl A1 A2 c1 c2 v ((h1.below hb).more hb.size) ((h2.below hb).more hb.size))
  obtain ⟨E, hE⟩ : ∃ E, E = Ck.chk G F C S sp pl := ⟨_, rfl⟩
  rw [← hE] at CK ⊢
  obtain ⟨W0, hW0⟩ : ∃ W0, W0 = (w.alloc (.cells #[.int .i64 G, .int .i64 F, .int .i64 C, .slice A1 sp.length c1, .slice A2 pl.length c2, .int .i64 S, .slice A3 l.length c3] 28)).alloc (.cells #[.int .i64 0, .int .i64 0] 36) := ⟨_, rfl⟩
  have B0 : Hid (Below w.heap.size w W0) := Lib.hid (by rw [hW0]; exact ((Below.refl _ _).alloc (Nat.le_refl _) _).alloc (by simp) _)
  have C6 : Hid (W0.cell? ⟨w.heap.size, 6, none⟩ = some (.slice A3 l.length c3)) := Lib.hid (by rw [hW0]; simp [go_sem])
  have D0 : Hid (W0.cell? ⟨w.heap.size + 1, 0, none⟩ = some (.int .i64 0)) := Lib.hid (by rw [hW0]; simp [go_sem])
  have D1 : Hid (W0.cell? ⟨w.heap.size + 1, 1, none⟩ = some (.int .i64 0)) := Lib.hid (by rw [hW0]; simp [go_sem])
  have F0 : Hid (∀ i, W0.frozen? ⟨w.heap.size + 1, i, none⟩ = false) := Lib.hid (fun i => by rw [hW0]; simp [go_sem])
  have Z0 : Hid (W0.heap.size = w.heap.size + 1 + 1) := Lib.hid (by rw [hW0]; simp)
  have HW0 := Lib.hid hW0
  have L0 : Hid (∀ v, Below w.heap.size w v → StepsIn v w.heap.size A3 l) := Lib.hid (fun v hb => h3.below hb)
  obtain ⟨r, hr⟩ : ∃ r, faultF E l = r := ⟨_, rfl⟩
  rw [hr]
  have HR := Lib.hid hr
  unfold maxLen at hm
  clear h1 h2 h3 hE hr hW0
  unfold scrV
  obtain ⟨n, hn⟩ : ∃ n, n = l.length := ⟨_, rfl⟩
  rw [← hn] at C6 hm HW0 ⊢
  have HN := Lib.hid hn
  clear hn
  go_enter Tryd.func8, Tryd.ntmps8
  go_wp2_with fail
  rw [← HW0.out]
  refine (CK.out _ B0.out).mono ?_
  rintro e w1 ⟨rfl, hb⟩
  have hb0 : Below W0.heap.size W0 w1 := hb
  have B1 : Hid (Below w.heap.size w w1) := Lib.hid (B0.out.trans (hb.mono B0.out.size))
  have c6 : w1.cell? ⟨w.heap.size, 6, none⟩ = some (.slice A3 n c3) := (hb.cell (p := ⟨w.heap.size, 6, none⟩) (by show w.heap.size < _; rw [Z0.out]; omega)).trans C6.out
  have d0 : w1.cell? ⟨w.heap.size + 1, 0, none⟩ = some (.int .i64 0) := (hb.cell (p := ⟨w.heap.size + 1, 0, none⟩) (by show w.heap.size + 1 < _; rw [Z0.out]; omega)).trans D0.out
  have d1 : w1.cell? ⟨w.heap.size + 1, 1, none⟩ = some (.int .i64 0) := (hb.cell (p := ⟨w.heap.size + 1, 1, none⟩) (by show w.heap.size + 1 < _; rw [Z0.out]; omega)).trans D1.out
  have f0 : w1.frozen? ⟨w.heap.size + 1, 0, none⟩ = false := (hb.frozen (p := ⟨w.heap.size + 1, 0, none⟩) (by show w.heap.size + 1 < _; rw [Z0.out]; omega)).trans (F0.out 0)
  have f1 : w1.frozen? ⟨w.heap.size + 1, 1, none⟩ = false := (hb.frozen (p := ⟨w.heap.size + 1, 1, none⟩) (by show w.heap.size + 1 < _; rw [Z0.out]; omega)).trans (F0.out 1)
  have Z1 : Hid (w.heap.size + 1 + 1 ≤ w1.heap.size) := Lib.hid (by have := hb.size; rw [Z0.out] at this; exact this)
  clear hb hb0 B0 C6 Z0 D0 D1 F0 CK HW0
  by_cases hE : E = 0
  · subst hE
    by_cases hl : 4096 < n
    · have hl' : (4096 : Int) < (n : Int) := by omega
      have er : r = (-1, 9) := by rw [← HR.out]; unfold faultF; rw [if_neg (by simp), if_pos (by rw [← HN.out]; exact hl)]
      have HER := Lib.hid er
      clear er hl
      go_wp2_with fail
      have HB : Below w.heap.size w ((w1.setCell ⟨w.heap.size + 1, 0, none⟩ (.int .i64 (-1))).setCell ⟨w.heap.size + 1, 1, none⟩ (.int .i64 9)) := (Below.setCell B1.out (p := ⟨w.heap.size + 1, 0, none⟩) (by show w.heap.size ≤ w.heap.size + 1; omega) _).setCell (p := ⟨w.heap.size + 1, 1, none⟩) (by show w.heap.size ≤ w.heap.size + 1; omega) _
      exact bodyPost_ret (v := .agg #[.int .i64 (-1), .int .i64 9]) (by simp [results, Tryd.results8, go_sem, d0, d1]) rfl ⟨by rw [HER.out], HB⟩
    · have hl' : ¬ (4096 : Int) < (n : Int) := by omega
      have er : badF 0 l = r := by rw [← HR.out]; unfold faultF; rw [if_neg (by simp), if_neg (by rw [← HN.out]; exact hl)]
      have HB0 := Lib.hid er
      clear er hl
      go_wp2_with fail
      clear hl'
      have C6 := Lib.hid c6
      have D0 := Lib.hid d0
      have D1 := Lib.hid d1
      have F0 := Lib.hid f0
      have F1 := Lib.hid f1
      clear c6 d0 d1 f0 f1
      go_loopg [4] n (fun gk v4 wr => ∃ i : Nat, n - i = gk ∧ i ≤ n ∧ v4 = .int .i64 i ∧ Hid (Below w1.heap.size w1 wr) ∧ Hid (badF i (l.drop i) = r))
      case atStart => exact ⟨0, rfl, by omega, rfl, Lib.hid (Below.refl _ _), HB0⟩
      case round =>
        obtain ⟨i, hg, hi, rfl, HK, HF⟩ := hrel
        have BR : Hid (Below w.heap.size w wr) := Lib.hid (B1.out.trans (HK.out.mono B1.out.size))
        have c6 : wr.cell? ⟨w.heap.size, 6, none⟩ = some (.slice A3 n c3) := (HK.out.cell (p := ⟨w.heap.size, 6, none⟩) (by have := Z1.out; show w.heap.size < _; omega)).trans C6.out
        have d0 : wr.cell? ⟨w.heap.size + 1, 0, none⟩ = some (.int .i64 0) := (HK.out.cell (p := ⟨w.heap.size + 1, 0, none⟩) (by have := Z1.out; show w.heap.size + 1 < _; omega)).trans D0.out
        have d1 : wr.cell? ⟨w.heap.size + 1, 1, none⟩ = some (.int .i64 0) := (HK.out.cell (p := ⟨w.heap.size + 1, 1, none⟩) (by have := Z1.out; show w.heap.size + 1 < _; omega)).trans D1.out
        have f0 : wr.frozen? ⟨w.heap.size + 1, 0, none⟩ = false := (HK.out.frozen (p := ⟨w.heap.size + 1, 0, none⟩) (by have := Z1.out; show w.heap.size + 1 < _; omega)).trans F0.out
        have f1 : wr.frozen? ⟨w.heap.size + 1, 1, none⟩ = false := (HK.out.frozen (p := ⟨w.heap.size + 1, 1, none⟩) (by have := Z1.out; show w.heap.size + 1 < _; omega)).trans F1.out
        have zr : w.heap.size + 1 + 1 ≤ wr.heap.size := Nat.le_trans Z1.out HK.out.size
        have ZR := Lib.hid zr
        clear zr
        by_cases hlt : i < n
        · have hlt' : (i : Int) < (n : Int) := by omega
          obtain ⟨s, hs⟩ : ∃ s, l[i]? = some s := ⟨_, List.getElem?_eq_getElem (by rw [← HN.out]; exact hlt)⟩
          obtain ⟨b, o, hA, hB, hc⟩ := (L0.out _ BR.out) (by rw [← HN.out]; omega)
          subst hA
          obtain ⟨a0, a1, a2, a3, a4, a5, a6, a7⟩ := hc i s hs
          clear hc
          have HS := Lib.hid hs
          clear hs
          by_cases hk : s.kind < 1 ∨ 18 < s.kind
          · have hw : wrongE s = 5 := by unfold wrongE; rw [if_pos hk]
            have er : r = ((i : Int), 5) := by rw [← hw]; exact bad_hit HS.out (by rw [hw]; decide) HF.out
            have HER := Lib.hid er
            clear er hw
            rcases hk with hk | hk
            · go_wp2_with fail
              have HB : Below w.heap.size w ((wr.setCell ⟨w.heap.size + 1, 0, none⟩ (.int .i64 i)).setCell ⟨w.heap.size + 1, 1, none⟩ (.int .i64 5)) := (Below.setCell BR.out (p := ⟨w.heap.size + 1, 0, none⟩) (by show w.heap.size ≤ w.heap.size + 1; omega) _).setCell (p := ⟨w.heap.size + 1, 1, none⟩) (by show w.heap.size ≤ w.heap.size + 1; omega) _
              exact bodyPost_ret (v := .agg #[.int .i64 i, .int .i64 5]) (by simp [results, Tryd.results8, go_sem, d0, d1]) rfl ⟨by rw [HER.out], HB⟩
            · have hk' : ¬ s.kind < 1 := by omega
              go_wp2_with fail
              have HB : Below w.heap.size w ((wr.setCell ⟨w.heap.size + 1, 0, none⟩ (.int .i64 i)).setCell ⟨w.heap.size + 1, 1, none⟩ (.int .i64 5)) := (Below.setCell BR.out (p := ⟨w.heap.size + 1, 0, none⟩) (by show w.heap.size ≤ w.heap.size + 1; omega) _).setCell (p := ⟨w.heap.size + 1, 1, none⟩) (by show w.heap.size ≤ w.heap.size + 1; omega) _
              exact bodyPost_ret (v := .agg #[.int .i64 i, .int .i64 5]) (by simp [results, Tryd.results8, go_sem, d0, d1]) rfl ⟨by rw [HER.out], HB⟩
          · have h1 : 1 ≤ s.kind := by omega
            have h2 : s.kind ≤ 18 := by omega
            have RS : Hid (∀ v, Calls Tryd.prog 14 #[.agg #[.int .i64 s.kind, .int .i64 s.client, .int .i64 s.group, .int .i64 s.node, .string s.key, .string s.val, .int .i64 s.n, .int .i64 s.cut]] v fun e w' => e = .returned (.bool (stepOk s)) ∧ Below v.heap.size v w') := Lib.hid (fun v => by rw [ok_eq s h1 h2]; exact refstep_any s h1 h2 v)
            have WV : Hid (wrongE s = if stepOk s = true then 0 else 6) := Lib.hid (by unfold wrongE; rw [if_neg hk])
            have h3 : ¬ s.kind < 1 := by omega
            have h4 : ¬ 18 < s.kind := by omega
            clear hk h1 h2
            go_wp2_with fail
            refine (RS.out _).mono ?_
            rintro e w2 ⟨rfl, hb⟩
            clear a0 a1 a2 a3 a4 a5 a6 a7 RS h3 h4 c6
            obtain ⟨k, hk⟩ : ∃ k, stepOk s = k := ⟨_, rfl⟩
            rw [hk]
            cases k with
            | true =>
              have hw : wrongE s = 0 := by rw [WV.out, if_pos hk]
              have BN : Hid (Below w1.heap.size w1 w2) := Lib.hid (HK.out.trans (hb.mono HK.out.size))
              have HW := Lib.hid hw
              clear hb hw d0 d1 f0 f1 hk
              go_wp2_with fail
              go_roundg (n - (i + 1))
              case measure => omega
              case rel => exact ⟨i + 1, rfl, by omega, by go_num, BN, Lib.hid (bad_on HS.out HW.out HF.out)⟩
            | false =>
              have hw : wrongE s = 6 := by rw [WV.out, if_neg (by rw [hk]; decide)]
              have er : r = ((i : Int), 6) := by rw [← hw]; exact bad_hit HS.out (by rw [hw]; decide) HF.out
              have HER := Lib.hid er
              have BN : Hid (Below w.heap.size w w2) := Lib.hid (BR.out.trans (hb.mono BR.out.size))
              replace d0 : w2.cell? ⟨w.heap.size + 1, 0, none⟩ = some (.int .i64 0) := (hb.cell (p := ⟨w.heap.size + 1, 0, none⟩) (by have := ZR.out; show w.heap.size + 1 < _; omega)).trans d0
              replace d1 : w2.cell? ⟨w.heap.size + 1, 1, none⟩ = some (.int .i64 0) := (hb.cell (p := ⟨w.heap.size + 1, 1, none⟩) (by have := ZR.out; show w.heap.size + 1 < _; omega)).trans d1
              replace f0 : w2.frozen? ⟨w.heap.size + 1, 0, none⟩ = false := (hb.frozen (p := ⟨w.heap.size + 1, 0, none⟩) (by have := ZR.out; show w.heap.size + 1 < _; omega)).trans f0
              replace f1 : w2.frozen? ⟨w.heap.size + 1, 1, none⟩ = false := (hb.frozen (p := ⟨w.heap.size + 1, 1, none⟩) (by have := ZR.out; show w.heap.size + 1 < _; omega)).trans f1
              clear er hw hb hk
              go_wp2_with fail
              have HB : Below w.heap.size w ((w2.setCell ⟨w.heap.size + 1, 0, none⟩ (.int .i64 i)).setCell ⟨w.heap.size + 1, 1, none⟩ (.int .i64 6)) := (Below.setCell BN.out (p := ⟨w.heap.size + 1, 0, none⟩) (by show w.heap.size ≤ w.heap.size + 1; omega) _).setCell (p := ⟨w.heap.size + 1, 1, none⟩) (by show w.heap.size ≤ w.heap.size + 1; omega) _
              exact bodyPost_ret (v := .agg #[.int .i64 i, .int .i64 6]) (by simp [results, Tryd.results8, go_sem, d0, d1]) rfl ⟨by rw [HER.out], HB⟩
        · obtain rfl : i = n := by omega
          have er : r = (0, 0) := bad_end (by rw [← HN.out]; exact Nat.le_refl _) HF.out
          have HER := Lib.hid er
          have hnn : decide ((i : Int) < (i : Int)) = false := decide_eq_false (by omega)
          clear er
          go_wp2_with fail
          have HB : Below w.heap.size w ((wr.setCell ⟨w.heap.size + 1, 0, none⟩ (.int .i64 0)).setCell ⟨w.heap.size + 1, 1, none⟩ (.int .i64 0)) := (Below.setCell BR.out (p := ⟨w.heap.size + 1, 0, none⟩) (by show w.heap.size ≤ w.heap.size + 1; omega) _).setCell (p := ⟨w.heap.size + 1, 1, none⟩) (by show w.heap.size ≤ w.heap.size + 1; omega) _
          exact bodyPost_ret (v := .agg #[.int .i64 0, .int .i64 0]) (by simp [results, Tryd.results8, go_sem, d0, d1]) rfl ⟨by rw [HER.out], HB⟩
  · have hw1 : (E == 0) = false := beq_eq_false_iff_ne.2 hE
    have hw2 : (E != 0) = true := bne_iff_ne.2 hE
    have er : r = (-1, E) := by rw [← HR.out]; unfold faultF; rw [if_pos hE]
    have HER := Lib.hid er
    clear er c6 hE
    go_wp2_with fail
    have HB : Below w.heap.size w ((w1.setCell ⟨w.heap.size + 1, 0, none⟩ (.int .i64 (-1))).setCell ⟨w.heap.size + 1, 1, none⟩ (.int .i64 E)) := (Below.setCell B1.out (p := ⟨w.heap.size + 1, 0, none⟩) (by show w.heap.size ≤ w.heap.size + 1; omega) _).setCell (p := ⟨w.heap.size + 1, 1, none⟩) (by show w.heap.size ≤ w.heap.size + 1; omega) _
    exact bodyPost_ret (v := .agg #[.int .i64 (-1), .int .i64 E]) (by simp [results, Tryd.results8, go_sem, d0, d1]) rfl ⟨by rw [HER.out], HB⟩
end Go.Proofs.YtpfebfckolbnmaaDoor.Sc
