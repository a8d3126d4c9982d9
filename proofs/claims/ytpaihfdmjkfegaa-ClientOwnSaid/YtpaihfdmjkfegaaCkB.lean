/- The document's New of first keys, walked. -/
import Derived.Test.YtpaihfdmjkfegaaCkA
import Derived.Deep.RegionHeld3
namespace Go.Proofs.Ytpaihfdmjkfegaa.Ck
open Go.RowKit Go.Lib Go.Proofs.Ytpaihfdmjkfegaa.Sta Go.Proofs.Ytpaihfdmjkfegaa.Rd

set_option maxRecDepth 100000 in
set_option maxHeartbeats 6400000 in
theorem refDirNew_any (l : List ByteArray) (A : Option Addr) (c : Nat) (w : World) (hR : RowIn w w.heap.size A (l.map sV)) :
    Calls Try.prog 22 #[.slice A l.length c] w fun e w' => ∃ v, e = .returned (.tuple #[.agg #[v], .int .i64 (dirErr l)]) ∧ (dirErr l = 0 → ∃ A' c', v = .slice A' l.length c' ∧ RowFrom w.heap.size w' A' (l.map sV)) ∧ (dirErr l ≠ 0 → v = .slice none 0 0) ∧ Below w.heap.size w w' := by
  have HR := Lib.hid hR
  obtain ⟨n, hn⟩ : ∃ n, n = l.length := ⟨_, rfl⟩
  have HN := Lib.hid hn
  rw [← hn]
  have B0 : Hid (Below w.heap.size w (w.alloc (.cells #[.slice none 0 0] 83))) := Lib.hid ((Below.refl _ _).alloc (Nat.le_refl _) _)
  have C0 : (w.alloc (.cells #[.slice none 0 0] 83)).cell? ⟨w.heap.size, 0, none⟩ = some (.slice none 0 0) := by simp [go_sem]
  have F0 : (w.alloc (.cells #[.slice none 0 0] 83)).frozen? ⟨w.heap.size, 0, none⟩ = false := by simp [go_sem]
  by_cases h8 : 8 ≤ n
  · have hE : dirErr l = 9 := by unfold dirErr; rw [if_pos (by omega)]
    rw [hE]
    have h8' : (8 : Int) ≤ (n : Int) := by omega
    clear hR hn
    go_enter Try.func22, Try.ntmps22
    go_wp2
    exact bodyPost_ret (v := .tuple #[.agg #[.slice none 0 0], .int .i64 9]) (by simp [results, Try.results22, go_sem]) rfl ⟨_, rfl, (fun h => by cases h), (fun _ => rfl), B0.out⟩
  · have hE : dirErr l = dirE none l := by unfold dirErr; rw [if_neg (by omega)]
    rw [hE]
    have h8' : ¬ (8 : Int) ≤ (n : Int) := by omega
    obtain ⟨i0, hi0, hz0, hz1, hz2⟩ := info_parts infoStr
    clear hR hn
    go_enter Try.func22, Try.ntmps22
    go_wp2_with fail
    obtain ⟨W1, hW1⟩ : ∃ W1, W1 = w.alloc (.cells #[.slice none 0 0] 83) := ⟨_, rfl⟩
    rw [← hW1] at B0 C0 F0 ⊢
    have W0 : Hid (w.heap.size < W1.heap.size) := by rw [hW1]; show _ < _; simp
    obtain ⟨H, hH⟩ : ∃ H, H = w.heap.size := ⟨_, rfl⟩
    rw [← hH] at C0 F0 ⊢
    have HH : Hid (H = w.heap.size) := hH
    clear hW1 hH
    go_loopg [4] n (fun gk v4 wr => ∃ i : Nat, n - i = gk ∧ i ≤ n ∧ v4 = .int .i64 i ∧ Hid (dirE (prevOf l i) (l.drop i) = dirE none l) ∧ Hid (∃ q, wr = W1.drewN q))
    case atStart => exact ⟨0, rfl, by omega, rfl, rfl, 0, (World.drewN_zero W1).symm⟩
    case round =>
      obtain ⟨i, hg, hi, rfl, HD, HQ⟩ := hrel
      obtain ⟨q, rfl⟩ := HQ.out
      have C1 : (W1.drewN q).cell? ⟨H, 0, none⟩ = some (.slice none 0 0) := C0
      have F1 : (W1.drewN q).frozen? ⟨H, 0, none⟩ = false := F0
      by_cases hlt : i < n
      · have hlt' : (i : Int) < (n : Int) := by omega
        obtain ⟨b, o, rfl, hb, hc⟩ := HR.out (by rw [List.length_map, ← HN.out]; omega)
        obtain ⟨s, hs⟩ : ∃ s, l[i]? = some s := ⟨_, List.getElem?_eq_getElem (by rw [← HN.out]; exact hlt)⟩
        have hcc : ∀ (k : Nat) (x : ByteArray), l[k]? = some x → W1.cell? ⟨b, o + k, none⟩ = some (.string x) := fun k x hx => (B0.out.cell (p := ⟨b, o + k, none⟩) hb).trans (hc k (.string x) (by rw [List.getElem?_map, hx]; rfl))
        have cs : (W1.drewN q).cell? ⟨b, o + i, none⟩ = some (.string s) := hcc i s hs
        have HS := Lib.hid hs
        have HC := Lib.hid hcc
        have BE : Hid (∀ k, Below w.heap.size w (((W1.drewN k).setCell ⟨H, 0, none⟩ (.slice none 0 0)))) := Lib.hid (fun k => (below_drewN B0.out k).setCell (p := ⟨H, 0, none⟩) (by show _ ≤ H; rw [HH.out]; exact Nat.le_refl _) _)
        clear hs hc hcc hb
        cases hk : keyB s with
        | false =>
          have HRR := Lib.hid (dirE_key l i s HS.out hk HD.out)
          have KA := Lib.hid (refkey_any s)
          rw [hk] at KA
          clear hk
          as_aux_lemma =>
          go_wp2_with fail
          refine (KA.out _).mono ?_
          rintro e w1 ⟨rfl, rfl⟩
          go_wp2
          exact bodyPost_ret (v := .tuple #[.agg #[.slice none 0 0], .int .i64 120]) (by simp [results, Try.results22, go_sem, C0]) rfl ⟨_, by rw [HRR.out], (fun h => by rw [HRR.out] at h; cases h), (fun _ => rfl), BE.out _⟩
        | true =>
          have KA := Lib.hid (refkey_any s)
          rw [hk] at KA
          have HK := Lib.hid hk
          clear hk
          rcases Nat.eq_zero_or_pos i with hz | hp
          · subst hz
            rw [Nat.add_zero] at cs
            as_aux_lemma =>
            go_wp2_with fail
            refine (KA.out _).mono ?_
            rintro e w1 ⟨rfl, rfl⟩
            go_wp2_with fail
            go_quiet (fail)
            go_wp2_with fail
            go_roundg (n - 1)
            case measure => omega
            case rel => exact ⟨1, rfl, by omega, by go_num, dirE_on l 0 s HS.out HK.out (fun q hq => by cases hq) HD.out, _, rfl⟩
          · obtain ⟨j, rfl⟩ : ∃ j, i = j + 1 := ⟨i - 1, by omega⟩
            obtain ⟨p, hp⟩ : ∃ p, l[j]? = some p := ⟨_, List.getElem?_eq_getElem (by rw [← HN.out]; omega)⟩
            have cp : (W1.drewN q).cell? ⟨b, o + j, none⟩ = some (.string p) := HC.out j p hp
            have HP : Hid (prevOf l (j + 1) = some p) := hp
            have cp0 : W1.cell? ⟨b, o + j, none⟩ = some (.string p) := cp
            have cs0 : W1.cell? ⟨b, o + (j + 1), none⟩ = some (.string s) := cs
            have jn : (j : Int) < (n : Int) := by omega
            have jp : decide ((j : Int) + 1 > 0) = true := decide_eq_true (by omega)
            have jq : decide ((0 : Int) < (j : Int) + 1) = true := decide_eq_true (by omega)
            have jr : (0 : Int) < (j : Int) + 1 := by omega
            have jw : IntKind.i64.wrap (j : Int) = (j : Int) := by rw [IntKind.wrap_i64]; omega
            have js : (j : Int) + 1 < (n : Int) := by omega
            have jt : (0 : Int) ≤ (j : Int) + 1 := by omega
            have ju : ((j : Int) + 1).toNat = j + 1 := by omega
            clear hp
            cases hg : Op.bytesLess p.toList s.toList with
            | true =>
              have hgs : Hid (geS p s = false) := by show geS p s = false; unfold geS; rw [hg]; rfl
              as_aux_lemma =>
              go_wp2_with fail
              refine (KA.out _).mono ?_
              rintro e w1 ⟨rfl, rfl⟩
              go_wp2_with fail
              go_quiet (fail)
              go_wp2_with fail
              go_roundg (n - (j + 1 + 1))
              case measure => omega
              case rel => exact ⟨j + 1 + 1, rfl, by omega, by go_num, dirE_on l (j + 1) s HS.out HK.out (fun q hq => by rw [HP.out] at hq; cases hq; exact hgs.out) HD.out, _, rfl⟩
            | false =>
              have HRR := Lib.hid (dirE_ge l (j + 1) s p HS.out HK.out HP.out (by unfold geS; rw [hg]; rfl) HD.out)
              as_aux_lemma =>
              go_wp2_with fail
              refine (KA.out _).mono ?_
              rintro e w1 ⟨rfl, rfl⟩
              go_wp2_with fail
              go_quiet (fail)
              have C2 : ((W1.drewN q).drewN nq).cell? ⟨H, 0, none⟩ = some (.slice none 0 0) := C0
              have F2 : ((W1.drewN q).drewN nq).frozen? ⟨H, 0, none⟩ = false := F0
              go_wp2
              refine bodyPost_ret (v := .tuple #[.agg #[.slice none 0 0], .int .i64 2]) (by simp [results, Try.results22, go_sem, C0]) rfl ⟨_, by rw [HRR.out], (fun h => by rw [HRR.out] at h; cases h), (fun _ => rfl), ?_⟩
              exact BE.out (q + nq)
      · obtain rfl : i = n := by omega
        have HRR := Lib.hid (dirE_end l i (by rw [← HN.out]; exact Nat.le_refl _) HD.out)
        have hnn : decide ((i : Int) < (i : Int)) = false := decide_eq_false (by omega)
        have B1 : Hid (Below w.heap.size w (W1.drewN q)) := Lib.hid (below_drewN B0.out q)
        have W2 : Hid (H < (W1.drewN q).heap.size) := by rw [HH.out]; exact W0.out
        generalize W1.drewN q = W3 at C1 F1 B1 W2 ⊢
        have B3 : Hid (Below W3.heap.size W3 (W3.alloc (.cells #[] 9))) := Lib.hid ((Below.refl _ _).alloc (Nat.le_refl _) _)
        have OWN0 : Hid ((W3.alloc (.cells #[] 9)).ownsRow W3.heap.size 9 1 (.slice (some ⟨W3.heap.size, 0, none⟩) 0 0) 0 []) := Lib.hid (World.ownsRow_made W3 #[] 0 (Nat.le_refl _) (by unfold maxLen; omega) rfl)
        have RD : Hid (Reads (W3.alloc (.cells #[] 9)) w.heap.size 1 A i (l.map sV)) := by
          have := ((HR.out.below B1.out).below (B3.out.mono B1.out.size)).reads
          rwa [List.length_map, ← HN.out] at this
        have OD := Lib.hid (sV_one l)
        have y1 : 0 + i ≤ maxLen := by unfold maxLen; omega
        have y2 : (0 + i) * 16 ≤ 140737488355328 := by omega
        have yb : W3.heap.size ≤ (W3.alloc (.cells #[] 9)).heap.size := B3.out.size
        clear HQ C0 F0 B0 W0
        go_upto_region 10 with (fail)
        go_wp2_with (at_builtin; refine wpList_append_any _ rfl (.tmp 37) (.tmp 38) 22 rfl W3.heap.size 9 i0 (.string ByteArray.empty) 1 16 Try.underlying22 hi0 hz0 hz1 hz2 rfl (by decide) _ 0 [] rfl OWN0.out w.heap.size A i c (l.map sV) rfl RD.out OD.out y1 y2 yb ?_; intro v39 w4 hown1 hg1 hat1; rw [Nat.zero_add, List.nil_append] at hown1; have B4 : Hid (Below W3.heap.size W3 w4) := Lib.hid (B3.out.grown hg1 yb (fun j hj => by cases hj; exact Nat.le_refl _)); have C4 : w4.cell? ⟨H, 0, none⟩ = some (.slice none 0 0) := (B4.out.cell (p := ⟨H, 0, none⟩) W2.out).trans C1; have F4 : w4.frozen? ⟨H, 0, none⟩ = false := (B4.out.frozen (p := ⟨H, 0, none⟩) W2.out).trans F1; obtain ⟨A', c', rfl⟩ := own_form hown1; have O4 := Lib.hid hown1; clear hown1 hg1 hat1 C1 F1)
        refine bodyPost_ret (v := .tuple #[.agg #[.slice A' i c'], .int .i64 0]) (by simp [results, Try.results22, go_sem, C4]) rfl ⟨_, by rw [HRR.out], (fun _ => ⟨A', c', rfl, ?_⟩), (fun h => absurd HRR.out h), ?_⟩
        · intro hl
          obtain ⟨b, o, e, h1, h2, h3⟩ := RowFrom.of_own O4.out hl
          have w2 := W2.out
          have b1 := B1.out.size
          exact ⟨b, o, e, by omega, by simpa using h2, fun k x hx => (World.cell?_setCell_other _ _ _ _ (by intro e'; simp only [Addr.mk.injEq] at e'; omega)).trans (h3 k x hx)⟩
        · exact (B1.out.trans (B4.out.mono B1.out.size)).setCell (p := ⟨H, 0, none⟩) (by show _ ≤ H; rw [HH.out]; exact Nat.le_refl _) _
end Go.Proofs.Ytpaihfdmjkfegaa.Ck
