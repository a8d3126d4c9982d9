/- A new client: client.New, walked; the client whole. -/
import Derived.Test.YtpaihfdmjkfegaaCpE
import Derived.Deep.CutRange
import Derived.Deep.RegionLaw
namespace Go.Proofs.Ytpaihfdmjkfegaa.Cl
open Go.RowKit Go.Lib Go.Proofs.Ytpaihfdmjkfegaa.Sta Go.Proofs.Ytpaihfdmjkfegaa.Rd Go.Proofs.Ytpaihfdmjkfegaa.Far Go.Proofs.Ytpaihfdmjkfegaa.Ck Go.Proofs.Ytpaihfdmjkfegaa.Msg

/-- What client.New hands back. -/
def NewOk (lo : Nat) (v : World) (p : Nat) (num G F : Int) (sp : List ByteArray) : Prop :=
  ∃ (d : Nat) (v3 v4 : Value) (ob oc gb gc g q : Nat) (L : List Ent), G = g ∧ (q : Int) = 2 * F + 1 ∧ (1 ≤ g ∧ g ≤ 8 ∧ 1 ≤ q ∧ q ≤ 5) ∧ CliAt lo v p (fresh num q d v3 v4) ob oc gb gc g q L (heads L) sp

theorem fresh_cs (num q : Int) (D : Nat) : (fresh num q D (.slice none 0 0) (.slice none 0 0)).cs = #[.int .i64 num, .int .i64 q, .pointer (some ⟨D, 0, none⟩), .slice none 0 0, .slice none 0 0, .int .i64 0, .int .i64 0, .pointer none, .bool false, .bool false, .int .i64 0, .int .i64 0, .int .i64 0, .int .i64 0, .int .i64 0, .int .i64 0, .int .i64 0, .int .i64 0, .int .i64 0, .int .i64 0, .bool false, .slice none 0 0, .slice none 0 0, .int .i64 0, .int .i64 0, .int .i64 0, .int .i64 0, .string ⟨#[]⟩, .int .i64 0, .slice none 0 0, .slice none 0 0, .int .i64 0, .int .i64 0, .int .i64 0, .int .i64 0, .bool false, .string ⟨#[]⟩, .int .i64 0, .int .i64 0, .int .i64 0, .int .i64 0, .string ⟨#[]⟩, .string ⟨#[]⟩, .bool false, .int .i64 0, .int .i64 0, .int .i64 0, .int .i64 0] := by
  simp [Client.cs, Client.hd, ActV.cs, fresh, zeroC, zeroAct]

set_option maxRecDepth 100000 in
set_option maxHeartbeats 12800000 in
theorem clientNew_whole (number G F C S : Int) (sp : List ByteArray) (pl : List Int) (A1 A2 : Option Addr) (c1 c2 : Nat) (w : World) (h1 : RowIn w w.heap.size A1 (sp.map sV)) (h2 : IntsIn w w.heap.size A2 pl) (hc2 : pl.length ≤ c2) :
    Calls Try.prog 8 #[.int .i64 number, cfgV G F C (.slice A1 sp.length c1) (.slice A2 pl.length c2) S] w fun e w' => ∃ P, e = .returned (.tuple #[.pointer P, .int .i64 (newErr number C (chk G F C S sp pl))]) ∧
      (newErr number C (chk G F C S sp pl) ≠ 0 → P = none) ∧ (newErr number C (chk G F C S sp pl) = 0 → ∃ p, P = some ⟨p, 0, none⟩ ∧ NewOk w.heap.size w' p number G F sp) ∧ Below w.heap.size w w' := by
  have HP := Lib.hid h2
  have CK := Lib.hid (fun w' (hb : Below w.heap.size w w') => check_any G F C S sp pl A1 A2 c1 c2 w' ((h1.below hb).more hb.size) ((h2.below hb).more hb.size))
  have DN := Lib.hid (fun w' (hb : Below w.heap.size w w') => dirNew_any sp A1 c1 w' ((h1.below hb).more hb.size))
  have B0 : Hid (Below w.heap.size w (w.alloc (.cells #[.int .i64 G, .int .i64 F, .int .i64 C, .slice A1 sp.length c1, .slice A2 pl.length c2, .int .i64 S] 25))) := Lib.hid ((Below.refl _ _).alloc (Nat.le_refl _) _)
  have K0 : Hid (CfgAt (w.alloc (.cells #[.int .i64 G, .int .i64 F, .int .i64 C, .slice A1 sp.length c1, .slice A2 pl.length c2, .int .i64 S] 25)) w.heap.size G F C (.slice A1 sp.length c1) (.slice A2 pl.length c2) S) := Lib.hid ⟨by simp, by simp [go_sem], by simp [go_sem], by simp [go_sem], by simp [go_sem], by simp [go_sem], by simp [go_sem]⟩
  obtain ⟨n, hn⟩ : ∃ n, n = pl.length := ⟨_, rfl⟩
  obtain ⟨m, hm⟩ : ∃ m, m = sp.length := ⟨_, rfl⟩
  rw [← hn, ← hm] at B0 K0 ⊢
  rw [← hm] at DN CK
  rw [← hn] at CK hc2
  have HN := Lib.hid hn
  have HM := Lib.hid hm
  obtain ⟨e0, he0⟩ : ∃ e0, e0 = chk G F C S sp pl := ⟨_, rfl⟩
  rw [← he0] at CK ⊢
  have HE := Lib.hid he0
  clear h1 h2 hn hm he0
  unfold cfgV at CK ⊢
  go_enter Try.func8, Try.ntmps8
  go_upto_region 1 with (fail)
  obtain ⟨W, hW⟩ : ∃ W, W = w.alloc (.cells #[.int .i64 G, .int .i64 F, .int .i64 C, .slice A1 m c1, .slice A2 n c2, .int .i64 S] 25) := ⟨_, rfl⟩
  obtain ⟨H, hH⟩ : ∃ H, H = w.heap.size := ⟨_, rfl⟩
  have hHs : w.heap.size ≤ H := by omega
  rw [← hW] at B0 K0
  rw [← hH] at K0
  try rw [← hW]
  try rw [← hH]
  clear hW hH
  have k0 := K0.out.c0
  have k1 := K0.out.c1
  have k2 := K0.out.c2
  have k3 := K0.out.c3
  have k4 := K0.out.c4
  have k5 := K0.out.c5
  go_wp2_with fail
  refine (CK.out _ B0.out).mono ?_
  rintro e w1 ⟨rfl, hb⟩
  have K1 := Lib.hid (K0.out.below hb)
  have B1 : Hid (Below w.heap.size w w1) := Lib.hid (B0.out.trans (hb.mono B0.out.size))
  clear hb k0 k1 k2 k3 k4 k5 CK K0 B0
  by_cases hz : e0 = 0
  · have HZ := Lib.hid hz
    obtain ⟨r1, r2, r3, r4, r5, r6, r7⟩ := chk_ok (HE.out ▸ hz : chk G F C S sp pl = 0)
    have k2 := K1.out.c2
    rcases (show number < 0 ∨ (0 ≤ number ∧ C ≤ number) ∨ (0 ≤ number ∧ number < C) by omega) with c | ⟨c, d⟩ | ⟨c, d⟩
    · have er : newErr number C e0 = 2 := by unfold newErr; rw [if_neg (by simpa using hz), if_pos (.inl c)]
      have ER := Lib.hid er
      clear er
      subst hz
      as_aux_lemma =>
      go_wp2
      exact bodyPost_ret (v := .tuple #[.pointer none, .int .i64 2]) (by simp [results, Try.results8, go_sem]) rfl ⟨none, by rw [ER.out], fun _ => rfl, (fun h => by rw [ER.out] at h; cases h), B1.out⟩
    · have er : newErr number C e0 = 2 := by unfold newErr; rw [if_neg (by simpa using hz), if_pos (.inr d)]
      have ER := Lib.hid er
      have c' : ¬ number < 0 := by omega
      clear er
      subst hz
      as_aux_lemma =>
      go_wp2
      exact bodyPost_ret (v := .tuple #[.pointer none, .int .i64 2]) (by simp [results, Try.results8, go_sem]) rfl ⟨none, by rw [ER.out], fun _ => rfl, (fun h => by rw [ER.out] at h; cases h), B1.out⟩
    · have er : newErr number C e0 = 0 := by unfold newErr; rw [if_neg (by simpa using hz), if_neg (by omega)]
      have ER := Lib.hid er
      have c' : ¬ number < 0 := by omega
      have d' : ¬ C ≤ number := by omega
      have k3 := K1.out.c3
      clear er
      subst hz
      go_wp2_with fail
      refine (DN.out _ B1.out).mono ?_
      rintro e w2 ⟨D, rfl, hd1, _, hb⟩
      rw [r5] at hd1
      obtain ⟨dd, hDd⟩ : ∃ dd, D = some ⟨dd, 0, none⟩ := by obtain ⟨x, _, _, e, _⟩ := hd1 rfl; exact ⟨x, e⟩
      subst hDd
      have DA : Hid (DirAt w.heap.size w2 (some ⟨dd, 0, none⟩) sp) := Lib.hid (by obtain ⟨x, A, cc, e, y1, y2⟩ := hd1 rfl; exact ⟨x, A, cc, e, Nat.le_trans B1.out.size y1, y2.1, y2.2.1, fun hl => by obtain ⟨b, o, z1, z2, z3⟩ := y2.2.2 hl; exact ⟨b, o, z1, Nat.le_trans B1.out.size z2, z3⟩⟩)
      rw [r5]
      have K2 := Lib.hid (K1.out.below hb)
      have B2 : Hid (Below w.heap.size w w2) := Lib.hid (B1.out.trans (hb.mono B1.out.size))
      clear hb hd1 k2 k3 K1 B1 DN
      have k1 := K2.out.c1
      go_upto_region 8 with (fail)
      generalize decide (number < 0) = bb1
      generalize decide (C ≤ number) = bb2
      obtain ⟨g0, rfl⟩ : ∃ g : Nat, G = (g : Int) := ⟨G.toNat, by omega⟩
      obtain ⟨f0, rfl⟩ : ∃ g : Nat, F = (g : Int) := ⟨F.toNat, by omega⟩
      obtain ⟨cN, rfl⟩ : ∃ g : Nat, C = (g : Int) := ⟨C.toNat, by omega⟩
      obtain ⟨kN, rfl⟩ : ∃ g : Nat, number = (g : Int) := ⟨number.toNat, by omega⟩
      obtain ⟨q, hq⟩ : ∃ q : Nat, 2 * (f0 : Int) + 1 = (q : Int) := ⟨2 * f0 + 1, by omega⟩
      rw [hq]
      have hq5 : 1 ≤ q ∧ q ≤ 5 := by omega
      have hlen : 0 < n → n = cN + g0 * q := fun h => by
        have := r6 (by rw [← HN.out]; exact h)
        rw [hq, ← HN.out] at this
        exact_mod_cast this
      have HLEN := Lib.hid hlen
      have S0 : Hid (NewT w2 (fresh kN q dd (.slice none 0 0) (.slice none 0 0)).cs w w2.heap.size H (CfgF g0 f0 cN (.slice A1 m c1) (.slice A2 n c2) S) q 1 3 4 23 (.int .i64 q) (.slice none 0 0) (.slice none 0 0) (.slice none 0 0) (.slice none 0 0) 0 0 [] [] []
        (w2.alloc (.cells #[.int .i64 kN, .int .i64 q, .pointer (some ⟨dd, 0, none⟩), .slice none 0 0, .slice none 0 0, .int .i64 0, .int .i64 0, .pointer none, .bool false, .bool false, .int .i64 0, .int .i64 0, .int .i64 0, .int .i64 0, .int .i64 0, .int .i64 0, .int .i64 0, .int .i64 0, .int .i64 0, .int .i64 0, .bool false, .slice none 0 0, .slice none 0 0, .int .i64 0, .int .i64 0, .int .i64 0, .int .i64 0, .string ⟨#[]⟩, .int .i64 0, .slice none 0 0, .slice none 0 0, .int .i64 0, .int .i64 0, .int .i64 0, .int .i64 0, .bool false, .string ⟨#[]⟩, .int .i64 0, .int .i64 0, .int .i64 0, .int .i64 0, .string ⟨#[]⟩, .string ⟨#[]⟩, .bool false, .int .i64 0, .int .i64 0, .int .i64 0, .int .i64 0] 79))) := Lib.hid
        ⟨⟨B2.out.alloc B2.out.size _, ⟨B2.out.size, by simp⟩, ⟨hHs, by have := K2.out.lt; simp; omega⟩, K2.out.below ((Below.refl _ _).alloc (Nat.le_refl _) _), by simp [go_sem], by simp [go_sem], by simp [go_sem], by simp [go_sem], by simp [go_sem],
          World.ownsRow_nil _ _ _ _, World.ownsRow_nil _ _ _ _, (fun b hb => by cases hb), (fun b hb => by cases hb), (fun e he => by cases he), (by have := K2.out.lt; omega), fun e he => by cases he⟩,
          fun k hk => Below.heap_alloc w2 _ k hk, ⟨_, Blk.new w2 79 _, by rw [fresh_cs], fun i _ _ => by rw [fresh_cs]⟩, (fun b hb => by cases hb), fun b hb => by cases hb⟩
      obtain ⟨p, hp⟩ : ∃ p, p = w2.heap.size := ⟨_, rfl⟩
      generalize w2.alloc (.cells #[.int .i64 kN, .int .i64 q, .pointer (some ⟨dd, 0, none⟩), .slice none 0 0, .slice none 0 0, .int .i64 0, .int .i64 0, .pointer none, .bool false, .bool false, .int .i64 0, .int .i64 0, .int .i64 0, .int .i64 0, .int .i64 0, .int .i64 0, .int .i64 0, .int .i64 0, .int .i64 0, .int .i64 0, .bool false, .slice none 0 0, .slice none 0 0, .int .i64 0, .int .i64 0, .int .i64 0, .int .i64 0, .string ⟨#[]⟩, .int .i64 0, .slice none 0 0, .slice none 0 0, .int .i64 0, .int .i64 0, .int .i64 0, .int .i64 0, .bool false, .string ⟨#[]⟩, .int .i64 0, .int .i64 0, .int .i64 0, .int .i64 0, .string ⟨#[]⟩, .string ⟨#[]⟩, .bool false, .int .i64 0, .int .i64 0, .int .i64 0, .int .i64 0] 79) = W3 at S0 ⊢
      rw [← hp] at S0 ⊢
      obtain ⟨u, hu⟩ : ∃ u, u = w2 := ⟨_, rfl⟩
      obtain ⟨rc, hrc⟩ : ∃ rc, rc = (fresh kN q dd (.slice none 0 0) (.slice none 0 0)).cs := ⟨_, rfl⟩
      rw [← hu, ← hrc] at S0
      have FIN : Hid (∀ (v : World) (v3 v4 : Value) (L : List Ent), L.length = g0 → NewT u rc w p H (CfgF g0 f0 cN (.slice A1 m c1) (.slice A2 n c2) S) q 1 3 4 23 (.int .i64 q) v3 v4 v3 v4 g0 g0 (L.map Ent.sl) (L.map Ent.hd) L v → NewOk w.heap.size v p kN g0 f0 sp) := Lib.hid (fun v v3 v4 L hL h => by
        rw [hrc] at h
        obtain ⟨ob, oc, gb, gc, hh⟩ := cli_of (by omega) hL h (by rw [hu]; exact hp) (by rw [hu]; exact DA.out)
        exact ⟨dd, v3, v4, ob, oc, gb, gc, g0, q, L, rfl, by omega, by omega, hh⟩)
      clear hu hrc
      have k0 := S0.out.cfg.c0
      clear hp hq hlen K2 B2 k1 DA HZ c c' r4 r5 r6
      have R7 := Lib.hid r7
      clear r7
      have G8 : g0 ≤ 8 := by omega
      have C16 : cN ≤ 16 := by omega
      clear r1 r2 r3
      have mk := fun w => run_make_row' (P := Try.prog) 23 3 (.int .i64 0) 8 Try.underlying23 info3 rfl .i64 .i64 q (by omega) (by omega) w
      obtain ⟨ti, hi0, hz0, hz1, hz2⟩ := info_parts infoSl
      obtain ⟨tj, hj0, hy0, hy1, hy2⟩ := info_parts info3
      go_wp2_with fail
      clear k0
      go_loopg [44] g0 (fun gk v44 wr => ∃ (g : Nat) (A3 : Option Addr) (c3 : Nat) (A4 : Option Addr) (c4 : Nat) (L : List Ent), g0 - g = gk ∧ g ≤ g0 ∧ v44 = .int .i64 g ∧
        Hid (L.length = g ∧ NewT u rc w p H (CfgF g0 f0 cN (.slice A1 m c1) (.slice A2 n c2) S) q 1 3 4 23 (.int .i64 q) (.slice A3 g c3) (.slice A4 g c4) (.slice A3 g c3) (.slice A4 g c4) g g (L.map Ent.sl) (L.map Ent.hd) L wr))
      case atStart => exact ⟨0, none, 0, none, 0, [], rfl, by omega, rfl, rfl, S0.out⟩
      case round =>
        clear S0
        obtain ⟨g, A3, c3, A4, c4, L, hg, hgi, rfl, S1⟩ := hrel
        by_cases hlt : g < g0
        · have hlt' : (g : Int) < (g0 : Int) := by omega
          have n1 := S1.out.2.n1
          go_upto_region 13 with (fail)
          have S2 := Lib.hid (S1.out.2.step cfgF_of ((Below.refl wr.heap.size wr).alloc (Nat.le_refl _) (.cells (madeCells #[.int .i64 0] q) 3)))
          have Z2 : Hid (IntsIn (wr.alloc (.cells (madeCells #[.int .i64 0] q) 3)) (wr.alloc (.cells (madeCells #[.int .i64 0] q) 3)).heap.size (some ⟨wr.heap.size, 0, none⟩) (List.replicate q 0)) := Lib.hid (fun _ => by
            have hz := World.rowIs_made wr (.int .i64 0) q 3
            refine ⟨wr.heap.size, 0, rfl, hz.lt, fun i x hx => ?_⟩
            have hi : i < q := by have := (List.getElem?_eq_some_iff.1 hx).1; rwa [List.length_replicate] at this
            rw [List.getElem?_replicate, if_pos hi] at hx
            cases hx
            rw [Nat.zero_add]
            exact hz.cell hi)
          have hL := S1.out.1
          obtain ⟨Z, hZ⟩ : ∃ Z, Z = wr.heap.size := ⟨_, rfl⟩
          rw [← hZ] at Z2 ⊢
          generalize wr.alloc (.cells (madeCells #[.int .i64 0] q) 3) = W4 at S2 Z2 ⊢
          clear hZ S1 n1
          have k4 := S2.out.cfg.c4
          have k2 := S2.out.cfg.c2
          have n1 := S2.out.n1
          go_upto_if 55 with (fail)
          go_cut [11, 12] from 46 to 106 (CutN (NewT u rc w p H (CfgF g0 f0 cN (.slice A1 m c1) (.slice A2 n c2) S) q 1 3 4 23 (.int .i64 q) (.slice A3 g c3) (.slice A4 g c4) (.slice A3 g c3) (.slice A4 g c4) g g (L.map Ent.sl) (L.map Ent.hd) L) q)
          case first =>
            rcases Nat.eq_zero_or_pos n with hz | hpos
            · have hz' : ¬ (0 : Int) < (n : Int) := by omega
              clear hz
              as_aux_lemma =>
              go_wp2_with fail
              go_meet
              case rel => exact ⟨0, some ⟨Z, 0, none⟩, q, List.replicate q 0, rfl, rfl, List.length_replicate, Z2.out, ⟨refPt0, fun x hx => by rw [(List.mem_replicate.1 hx).2]; exact refPt0⟩, S2.out⟩
            · have hz' : (0 : Int) < (n : Int) := by omega
              have hn := HLEN.out hpos
              obtain ⟨b, o, rfl, hb, hc⟩ := HP.out (by rw [← HN.out]; exact hpos)
              have hkN : kN < n := by
                have : cN ≤ n := by rw [hn]; exact Nat.le_add_right _ _
                omega
              obtain ⟨here, hhere⟩ : ∃ x, pl[kN]? = some x := ⟨_, List.getElem?_eq_getElem (by rw [← HN.out]; exact hkN)⟩
              have ch : W4.cell? ⟨b, o + kN, none⟩ = some (.int .i64 here) := (S2.out.below.cell (p := ⟨b, o + kN, none⟩) hb).trans (hc kN here hhere)
              obtain ⟨t, ht⟩ : ∃ t, t = cN + g * q := ⟨_, rfl⟩
              have htn : t + q ≤ n := by
                have : (g + 1) * q ≤ g0 * q := Nat.mul_le_mul_right q hlt
                rw [Nat.succ_mul] at this
                omega
              have LST : Hid (IntsIn W4 W4.heap.size (some ⟨b, o + t, none⟩) ((pl.drop t).take q)) := Lib.hid (fun hl => by
                refine ⟨b, o + t, rfl, Nat.lt_of_lt_of_le hb S2.out.below.size, fun i x hx => ?_⟩
                rw [List.getElem?_take] at hx
                split at hx
                · rw [List.getElem?_drop] at hx
                  rw [Nat.add_assoc]
                  exact (S2.out.below.cell (p := ⟨b, o + (t + i), none⟩) hb).trans (hc (t + i) x hx)
                · cases hx)
              have LEN : Hid (((pl.drop t).take q).length = q) := Lib.hid (by rw [List.length_take, List.length_drop, ← HN.out]; omega)
              have OKL : Hid (OrdOk here ((pl.drop t).take q)) := Lib.hid ⟨R7.out here (List.mem_of_getElem? hhere), fun x hx => R7.out x (List.mem_of_mem_drop (List.mem_of_mem_take hx))⟩
              have e1 : (g : Int) * (q : Int) = ((g * q : Nat) : Int) := by rw [Int.natCast_mul]
              obtain ⟨gq, hgq⟩ : ∃ x, x = g * q := ⟨_, rfl⟩
              rw [← hgq] at e1
              have e2 : (cN : Int) + (gq : Int) = (t : Int) := by omega
              have hgq40 : gq ≤ 1000 := by
                have := Nat.mul_le_mul (show g ≤ 8 by omega) (show q ≤ 5 by omega)
                omega
              have t1 : (t : Int) ≤ (n : Int) := by omega
              have t2 : (q : Int) ≤ (c2 : Int) - (t : Int) := by omega
              have t3 : q ≤ c2 - t := by omega
              have t4 : t ≤ c2 := by omega
              have kNi : (kN : Int) < (n : Int) := by omega
              clear hc hhere hn hgq ht htn hb
              as_aux_lemma =>
              go_wp2_with fail
              go_quiet (fail)
              have S3 := Lib.hid (S2.out.step cfgF_of (v' := W4.drewN nq) (below_drewN (Below.refl _ _) nq))
              clear k4 k2 n1 ch
              go_wp2_with fail
              go_meet
              case rel => exact ⟨here, _, _, _, rfl, rfl, LEN.out, LST.out, OKL.out, S3.out⟩
          case rest =>
            obtain ⟨here, A, c, lst, rfl, rfl, hl, hI, hok, hS⟩ := hcut
            clear S2 Z2 k4 k2 n1
            have S3 : Hid (NewT u rc w p H (CfgF g0 f0 cN (.slice A1 m c1) (.slice A2 n c2) S) q 1 3 4 23 (.int .i64 q) (.slice A3 g c3) (.slice A4 g c4) (.slice A3 g c3) (.slice A4 g c4) g g (L.map Ent.sl) (L.map Ent.hd) L wc) := hS
            have OR := Lib.hid (order_any here lst A c wc hI (by omega))
            rw [hl] at OR
            have HL := Lib.hid hl
            have HO := Lib.hid hok
            clear hI hS hl hok
            go_wp2_with fail
            refine OR.out.mono ?_
            rintro e w5 ⟨A', c', r, er, rfl, hA, hown, hb⟩
            have ANS : Hid (r.Perm (List.range q) ∧ r.length = q ∧ er = 0) := Lib.hid (by
              rcases hA with ⟨_, h0, h2⟩ | ⟨h0, _, _⟩
              · rw [HL.out] at h2
                exact ⟨h2.1, h2.length, h0⟩
              · exact absurd HO.out h0)
            have hrl := ANS.out.2.1
            have S4 : Hid (NewT u rc w p H (CfgF g0 f0 cN (.slice A1 m c1) (.slice A2 n c2) S) q 1 3 4 23 (.int .i64 q) (.slice A3 g c3) (.slice A4 g c4) (.slice A3 g c3) (.slice A4 g c4) g g (L.map Ent.sl) (L.map Ent.hd) ((⟨A', c', r⟩ : Ent) :: L) w5) := Lib.hid (S3.out.add cfgF_of hb (e := ⟨A', c', r⟩) (own_ent ANS.out.1 (hown (by omega))))
            rw [hrl]
            have HRL := Lib.hid hrl
            clear hA hown hb S3 OR hrl
            have S5 := Lib.hid (S4.out.step cfgF_of ((Below.refl w5.heap.size w5).alloc (Nat.le_refl _) (.cells #[.slice A' q c'] 23)))
            have c3f := S4.out.c3
            have yb : w.heap.size ≤ (w5.alloc (.cells #[.slice A' q c'] 23)).heap.size := S5.out.below.size
            have y1 : g + 1 ≤ maxLen := by unfold maxLen; omega
            have y2 : (g + 1) * 24 ≤ 140737488355328 := by omega
            have y3 : (g + 1) * 8 ≤ 140737488355328 := by omega
            go_upto_region 17 with (fail)
            go_upto_region 18 with (first
              | (at_builtin
                 refine wpList_append_lies _ rfl (.tmp 88) (.tmp 90) 76 rfl w.heap.size 23 ti (.slice none 0 0) 1 24 Try.underlying76 hi0 hz0 hz1 hz2 rfl (by decide) _ g (L.map Ent.sl) rfl S5.out.order ⟨w5.heap.size, 0, none⟩ 1 1 [.slice A' q c'] rfl rfl (new_cell w5 _ 23) (one_sl A' q c') (by omega) y1 y2 yb _ rfl ?_
                 intro g77 c77 w6 hown2 hg2 hat2 hlt2
                 have S6 := Lib.hid (S5.out.orderTo cfgF_of hg2 hown2 (by rcases hat2 with e | e <;> first | exact .inl e.symm | exact .inr (by rw [e]; rfl)))
                 have c3g := S6.out.c3
                 have f3g := S6.out.f3
                 clear hown2 hg2 hat2 hlt2))
            have S7 : Hid (NewT u rc w p H (CfgF g0 f0 cN (.slice A1 m c1) (.slice A2 n c2) S) q 1 3 4 23 (.int .i64 q) (.slice (some ⟨g77, 0, none⟩) (g + 1) c77) (.slice A4 g c4) (.slice (some ⟨g77, 0, none⟩) (g + 1) c77) (.slice A4 g c4) (g + 1) g (L.map Ent.sl ++ [.slice A' q c']) (L.map Ent.hd) ((⟨A', c', r⟩ : Ent) :: L) (w6.setCell ⟨p, 3, none⟩ (.slice (some ⟨g77, 0, none⟩) (g + 1) c77))) := Lib.hid (S6.out.set cfgF_of 3 _ (by decide) (by decide))
            generalize w6.setCell ⟨p, 3, none⟩ (.slice (some ⟨g77, 0, none⟩) (g + 1) c77) = W7 at S7 ⊢
            clear S6 c3g f3g c3f S5 S4 yb
            obtain ⟨x, hx⟩ : ∃ x, r[0]? = some x := ⟨_, List.getElem?_eq_getElem (by rw [HRL.out]; omega)⟩
            obtain ⟨hperm, O, o, eA, hO, hI⟩ := S7.out.ents _ List.mem_cons_self
            simp only at eA hI hperm
            subst eA
            have cO : W7.cell? ⟨O, o, none⟩ = some (.int .i64 (x : Int)) := hI.2 0 x hx
            have HX := Lib.hid hx
            have c4f := S7.out.c4
            have f4f := S7.out.f4
            have q0 : (0 : Int) < (q : Int) := by omega
            have q0n : 0 < q := by omega
            have V8 : Hid (Below W7.heap.size W7 (W7.alloc (.cells #[.int .i64 (x : Int)] 3)).drew) := Lib.hid (((Below.refl _ _).alloc (Nat.le_refl _) _).drew)
            have S9 := Lib.hid (S7.out.step cfgF_of V8.out)
            have yb9 : w.heap.size ≤ ((W7.alloc (.cells #[.int .i64 (x : Int)] 3)).drew).heap.size := S9.out.below.size
            have c4k : (W7.alloc (.cells #[.int .i64 (x : Int)] 3)).cell? ⟨p, 4, none⟩ = some (.slice A4 g c4) := S9.out.c4
            clear hx hperm hO hI
            go_region_law (first
              | (refine step_append_lies _ (by rfl) (.tmp 98) (.tmp 102) 23 (by rfl) w.heap.size 3 tj (.int .i64 0) 1 8 Try.underlying23 hj0 hy0 hy1 hy2 (by rfl) (by decide) (.slice A4 g c4) g (L.map Ent.hd) (by simp [Act.eval]) S9.out.guess ⟨W7.heap.size, 0, none⟩ 1 1 [.int .i64 (x : Int)] (by simp [Act.eval]) rfl (new_cell W7 _ 3) (one_int _) (by omega) y1 y3 yb9 _ (by rfl) ?_
                 intro g78 c78 w8 hown3 hg3 hat3 hlt3
                 have S10 := Lib.hid (S9.out.guessTo cfgF_of hg3 hown3 (by rcases hat3 with e | e <;> first | exact .inl e.symm | exact .inr (by rw [e]; rfl)))
                 have c4h := S10.out.c4
                 have f4h := S10.out.f4
                 clear hown3 hg3 hat3 hlt3))
            all_goals
              have S11 : Hid (NewT u rc w p H (CfgF g0 f0 cN (.slice A1 m c1) (.slice A2 n c2) S) q 1 3 4 23 (.int .i64 q) (.slice (some ⟨g77, 0, none⟩) (g + 1) c77) (.slice (some ⟨g78, 0, none⟩) (g + 1) c78) (.slice (some ⟨g77, 0, none⟩) (g + 1) c77) (.slice (some ⟨g78, 0, none⟩) (g + 1) c78) (g + 1) (g + 1) (L.map Ent.sl ++ [.slice (some ⟨O, o, none⟩) q c']) (L.map Ent.hd ++ [.int .i64 (x : Int)]) ((⟨some ⟨O, o, none⟩, c', r⟩ : Ent) :: L) (w8.setCell ⟨p, 4, none⟩ (.slice (some ⟨g78, 0, none⟩) (g + 1) c78))) := Lib.hid (S10.out.set cfgF_of 4 _ (by decide) (by decide))
              clear S10 S9 S7 c4h f4h c4f f4f cO c4k V8 yb9
              go_wp2_with fail
              go_roundg (g0 - (g + 1))
              case measure => omega
              case rel => exact ⟨g + 1, some ⟨g77, 0, none⟩, c77, some ⟨g78, 0, none⟩, c78, L ++ [(⟨some ⟨O, o, none⟩, c', r⟩ : Ent)], rfl, by omega, by go_num, by rw [List.length_append, hL]; rfl, by rw [ent_more_sl L _ _ _ _ HRL.out, ent_more_hd L _ _ _ _ HX.out]; exact S11.out.sub (fun e he => by rcases List.mem_append.1 he with h | h; exact List.mem_cons_of_mem _ h; rw [List.mem_singleton.1 h]; exact List.mem_cons_self)⟩
        · obtain rfl : g = g0 := by omega
          have hnn : decide ((g : Int) < (g : Int)) = false := decide_eq_false (by omega)
          as_aux_lemma =>
          clear mk
          go_wp2
          exact bodyPost_ret (v := .tuple #[.pointer (some ⟨p, 0, none⟩), .int .i64 0]) (by simp [results, Try.results8, go_sem]) rfl ⟨_, by rw [ER.out], (fun h => absurd ER.out h), (fun _ => ⟨p, rfl, FIN.out _ _ _ _ S1.out.1 S1.out.2⟩), S1.out.2.below⟩
  · have er : newErr number C e0 = e0 := by unfold newErr; rw [if_pos hz]
    have ER := Lib.hid er
    clear er
    as_aux_lemma =>
    go_wp2
    exact bodyPost_ret (v := .tuple #[.pointer none, .int .i64 e0]) (by simp [results, Try.results8, go_sem]) rfl ⟨none, by rw [ER.out], fun _ => rfl, (fun h => absurd (ER.out ▸ h) hz), B1.out⟩
end Go.Proofs.Ytpaihfdmjkfegaa.Cl
