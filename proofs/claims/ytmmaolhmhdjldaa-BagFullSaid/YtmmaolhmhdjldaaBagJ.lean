/- BagFull, walked. -/
import Derived.Test.YtmmaolhmhdjldaaBagI
import Derived.Deep.LoopGhost
namespace Go.Proofs.Ytmmaolhmhdjldaa.BagS
open Go.RowKit Go.Proofs.Ytmmaolhmhdjldaa.MapF Go.Maps

/-- A bag of some messages between nobody and nobody, and that old memory is as it was. -/
def BagN (wr w0 : World) (base p m r k : Nat) : Prop :=
  ∃ A cap L, BagAt wr base p m r A k cap L ∧ (∀ C ∈ L, Sent C ad0 ad0) ∧ IsF adMap wr m 0 (fun _ => none) ∧ Below w0.heap.size w0 wr ∧ w0.heap.size ≤ base
def RelB (r base p m : Nat) (w0 : World) (g : Nat) (v7 : Value) (wr : World) : Prop := ∃ k : Nat, k + g = r ∧ v7 = .int .i64 k ∧ BagN wr w0 base p m r k
def RelC3 (r base p m : Nat) (w0 : World) (g : Nat) (v8 : Value) (wr : World) : Prop := ∃ j : Nat, j + g = 3 ∧ v8 = .int .i64 j ∧ BagN wr w0 base p m r r
def Cut6 (r : Nat) (W : World) (v6 : Value) (wr : World) : Prop := v6 = .int .i64 (r : Int) ∧ wr = W
def Cut9 (r : Nat) (W : World) (v9 : Value) (wr : World) : Prop := ∃ q : Nat, q < r ∧ v9 = .int .i64 (q : Int) ∧ wr = W
theorem BagN.below {w w' w0 : World} {base p m r k : Nat} (h : BagN w w0 base p m r k) (hB : Below w.heap.size w w') : BagN w' w0 base p m r k := by
  obtain ⟨A, cap, L, h1, h2, h3, h4, h5⟩ := h
  exact ⟨A, cap, L, h1.below hB, h2, same_f h3 (hB.block _ h3.lt), h4.trans (hB.mono h4.size), h5⟩

theorem sendN_room {w w0 : World} {base p m r k : Nat} (h : BagN w w0 base p m r k) (hk : k < r) (s : Int) :
    Calls Try.prog 43 #[.pointer (some ⟨p, 0, none⟩), .agg (msgS s 0 0)] w fun e w' => e = .returned (.bool true) ∧ BagN w' w0 base p m r (k + 1) := by
  obtain ⟨A, cap, L, h1, h2, h3, h4, h5⟩ := h
  refine (send_room base p m r A k cap L (msgS s 0 0) w h1 (nilS _ _ _) (by omega)).mono ?_
  rintro e w' ⟨g, cap', rfl, hB, hO, _⟩
  refine ⟨rfl, _, _, _, hB, fun C hC => ?_, only_isF h1 hO h3, h4.trans ((hO.base h1).mono h5), h5⟩
  rcases List.mem_append.1 hC with hC | hC
  · exact h2 C hC
  · rw [List.mem_singleton] at hC
    rw [hC]
    exact sentS s ad0
theorem sendN_full {w w0 : World} {base p m r : Nat} (h : BagN w w0 base p m r r) (C : Array Value) :
    Calls Try.prog 43 #[.pointer (some ⟨p, 0, none⟩), .agg C] w fun e w' => e = .returned (.bool false) ∧ BagN w' w0 base p m r r := by
  have h0 := h
  obtain ⟨A, cap, L, h1, h2, h3, h4, h5⟩ := h
  refine (send_full base p m r A r cap L C w h1 rfl).mono ?_
  rintro e w' ⟨rfl, hB⟩
  exact ⟨rfl, h0.below hB⟩
theorem doubleN_full {w w0 : World} {base p m r : Nat} (h : BagN w w0 base p m r r) (q : Nat) (hq : q < r) :
    Calls Try.prog 45 #[.pointer (some ⟨p, 0, none⟩), .int .i64 q] w fun e w' => e = .returned (.int .i64 4) ∧ BagN w' w0 base p m r r := by
  have h0 := h
  obtain ⟨A, cap, L, h1, h2, h3, h4, h5⟩ := h
  refine (double_full base p m r A r cap L q (L[q]'(by rw [h1.len]; exact hq)) w h1 (List.getElem?_eq_getElem _) rfl).mono ?_
  rintro e w' ⟨rfl, hB⟩
  exact ⟨rfl, h0.below hB⟩
theorem dropN {w w0 : World} {base p m r : Nat} (h : BagN w w0 base p m r r) (q : Nat) (hq : q < r) :
    Calls Try.prog 46 #[.pointer (some ⟨p, 0, none⟩), .int .i64 q] w fun e w' => e = .returned (.int .i64 0) ∧ BagN w' w0 base p m r (r - 1) := by
  obtain ⟨A, cap, L, h1, h2, h3, h4, h5⟩ := h
  have hl : q < L.length := by rw [h1.len]; exact hq
  refine (drop_yes base p m 0 r A r cap L _ q (L[q]) ad0 ad0 w h1 (List.getElem?_eq_getElem _) (h2 _ (List.getElem_mem _)) h3).mono ?_
  rintro e w' ⟨rfl, hB, hO⟩
  exact ⟨rfl, _, _, _, hB, fun C hC => h2 C (List.mem_of_mem_eraseIdx hC), only_isF h1 hO h3, h4.trans ((hO.base h1).mono h5), h5⟩
theorem lenN {w w0 : World} {base p m r k : Nat} (h : BagN w w0 base p m r k) : Calls Try.prog 47 #[.pointer (some ⟨p, 0, none⟩)] w fun e w' => e = .returned (.int .i64 k) ∧ w = w' := by
  obtain ⟨A, cap, L, h1, _⟩ := h
  exact len_any p m r A k cap w h1.blk

theorem modq (more : Int) (r : Nat) (h0 : 0 < r) (h : r ≤ 256) : ∃ q : Nat, q < r ∧ wrap64 ((IntKind.u64.wrap more).tmod (r : Int)) = (q : Int) := by
  have hw : 0 ≤ IntKind.u64.wrap more := by rw [IntKind.wrap_u64]; omega
  have h1 : (IntKind.u64.wrap more).tmod (r : Int) = (IntKind.u64.wrap more) % (r : Int) := Int.tmod_eq_emod_of_nonneg hw
  have h2 := Int.emod_nonneg (IntKind.u64.wrap more) (b := (r : Int)) (by omega)
  have h3 := Int.emod_lt_of_pos (IntKind.u64.wrap more) (b := (r : Int)) (by omega)
  refine ⟨((IntKind.u64.wrap more) % (r : Int)).toNat, by omega, ?_⟩
  rw [h1, IntWalk.wrap64_in _ (by constructor <;> omega)]
  omega

set_option maxRecDepth 100000 in
set_option maxHeartbeats 4000000 in
theorem full_any (most more : Int) (_h1 : (Lit.int .i64 most).wf = true) (_h2 : (Lit.int .i64 more).wf = true) (w : World) : Calls Try.prog 10 #[.int .i64 most, .int .i64 more] w fun e w' => e = .returned (.bool true) ∧ Below w.heap.size w w' := by
  obtain ⟨r, hr⟩ : ∃ r : Nat, (r : Int) = max 0 (min most 256) := ⟨(max 0 (min most 256)).toNat, by omega⟩
  have hr256 : r ≤ 256 := by omega
  have HR := Lib.hid hr
  clear hr
  have WK := Lib.hid (works_bag w)
  go_enter Try.func10, Try.ntmps10
  go_wp2_with fail
  refine WK.out.mono ?_
  rintro e w1 ⟨rfl, hb1⟩
  have HB1 := Lib.hid hb1
  clear hb1 WK
  go_wp2_with fail
  refine (new_bag most w1).mono ?_
  rintro e W ⟨rfl, hB, hF, hb⟩
  rw [← HR.out] at hB
  have BN : Hid (BagN W w w1.heap.size (w1.heap.size + 1) w1.heap.size r 0) := Lib.hid ⟨_, _, _, hB, (fun C hC => nomatch hC), hF, HB1.out.trans (hb.mono HB1.out.size), HB1.out.size⟩
  clear hB hF hb
  obtain ⟨p, hp⟩ : ∃ p, p = w1.heap.size + 1 := ⟨_, rfl⟩
  obtain ⟨m, hm⟩ : ∃ m, m = w1.heap.size := ⟨_, rfl⟩
  rw [← hp, ← hm] at BN
  rw [← hp]
  clear hp hm HB1 w1
  go_upto_region 6 with (fail)
  go_cut [6] from 10 (Cut6 r W)
  case first =>
    rcases (show most ≤ 0 ∨ (0 < most ∧ most ≤ 256) ∨ 256 < most by omega) with h0 | ⟨h0, h0'⟩ | h0
    all_goals
      go_wp2_with fail
      all_goals
        go_meet
        case rel => exact ⟨by have := HR.out; first | rfl | (congr 1; omega), rfl⟩
  case rest =>
    obtain ⟨rfl, rfl⟩ := hcut
    go_wp2_with fail
    go_loopg [7] r (RelB r m p m w)
    case atStart => exact ⟨0, by omega, rfl, BN.out⟩
    case round =>
      clear BN
      obtain ⟨g1, hg1⟩ : ∃ x, x = gk := ⟨_, rfl⟩
      rw [← hg1] at hrel
      obtain ⟨k, hk, rfl, hN⟩ := hrel
      have HG1 := Lib.hid hg1
      have HN := Lib.hid hN
      clear hg1 hN
      by_cases hkr : k < r
      · have hkr' : (k : Int) < (r : Int) := by omega
        have SN := Lib.hid (sendN_room HN.out hkr (k : Int))
        go_wp2_with fail
        refine (show Calls Try.prog 43 #[.pointer (some ⟨p, 0, none⟩), .agg #[.int .i64 0, .int .i64 0, .int .i64 0, .int .i64 0, .int .i64 0, .int .i64 0, .int .i64 0, .int .i64 0, .int .i64 0, .bool false, .slice none 0 0, .slice none 0 0, .int .i64 k, .int .i64 0, .int .i64 0, .int .i64 0, .string ⟨#[]⟩, .int .i64 0, .slice none 0 0, .slice none 0 0, .int .i64 0, .int .i64 0, .int .i64 0, .int .i64 0, .bool false, .string ⟨#[]⟩]] wr _ from SN.out).mono ?_
        rintro e w2 ⟨rfl, hN2⟩
        have HN2 := Lib.hid hN2
        clear hN2 SN HN
        go_wp2_with fail
        go_roundg (g1 - 1)
        case measure => have := HG1.out; omega
        case rel => exact ⟨k + 1, by omega, by go_num, HN2.out⟩
      · obtain rfl : r = k := by omega
        have hrr : decide ((r : Int) < (r : Int)) = false := decide_eq_false (by omega)
        go_wp2_with fail
        go_loopg [8] 3 (RelC3 r m p m w)
        case atStart => exact ⟨0, by omega, rfl, HN.out⟩
        case round =>
          clear HN
          obtain ⟨g2, hg2⟩ : ∃ x, x = gk := ⟨_, rfl⟩
          rw [← hg2] at hrel
          obtain ⟨j, hj, rfl, hN⟩ := hrel
          have HG2 := Lib.hid hg2
          have HN := Lib.hid hN
          clear hg2 hN
          by_cases hj3 : j < 3
          · have hj3' : (j : Int) < 3 := by omega
            go_wp2_with fail
            refine (sendN_full HN.out _).mono ?_
            rintro e w2 ⟨rfl, hN2⟩
            have HN2 := Lib.hid hN2
            clear hN2 HN
            go_wp2_with fail
            go_roundg (g2 - 1)
            case measure => have := HG2.out; omega
            case rel => exact ⟨j + 1, by omega, by go_num, HN2.out⟩
          · have hj3' : decide ((j : Int) < 3) = false := decide_eq_false (by omega)
            rcases (show r = 0 ∨ 0 < r by omega) with h0 | h0
            · have hr0 : decide ((0 : Int) < (r : Int)) = false := decide_eq_false (by omega)
              have hr0' : decide (0 < r) = false := decide_eq_false (by omega)
              clear h0
              go_wp2_with fail
              refine (lenN HN.out).mono ?_
              rintro e w2 ⟨rfl, rfl⟩
              go_wp2_with fail
              go_ret
              obtain ⟨_, _, _, _, _, _, hBW, _⟩ := HN.out
              exact ⟨rfl, hBW⟩
            · have hr0 : decide ((0 : Int) < (r : Int)) = true := decide_eq_true (by omega)
              have hr0' : decide (0 < r) = true := decide_eq_true (by omega)
              go_upto_region 18 with (fail)
              go_cut [9] from 38 (Cut9 r wr)
              case first =>
                go_wp2_with fail
                go_meet
                case rel =>
                  obtain ⟨q, hq, e⟩ := modq more r h0 hr256
                  exact ⟨q, hq, by rw [e], rfl⟩
              case rest =>
                obtain ⟨q, hq, rfl, rfl⟩ := hcut
                go_wp2_with fail
                refine (doubleN_full HN.out q hq).mono ?_
                rintro e w2 ⟨rfl, hN2⟩
                have HN2 := Lib.hid hN2
                clear hN2 HN
                go_wp2_with fail
                refine (num_any 4 _).mono ?_
                rintro e w9 ⟨rfl, rfl⟩
                go_wp2_with fail
                refine (dropN HN2.out q hq).mono ?_
                rintro e w3 ⟨rfl, hN3⟩
                have HN3 := Lib.hid hN3
                clear hN3 HN2
                go_wp2_with fail
                refine (num_any 0 _).mono ?_
                rintro e w9 ⟨rfl, rfl⟩
                have SN := Lib.hid (sendN_room HN3.out (by omega) (-2))
                rw [show r - 1 + 1 = r by omega] at SN
                go_wp2_with fail
                refine (show Calls Try.prog 43 #[.pointer (some ⟨p, 0, none⟩), .agg #[.int .i64 0, .int .i64 0, .int .i64 0, .int .i64 0, .int .i64 0, .int .i64 0, .int .i64 0, .int .i64 0, .int .i64 0, .bool false, .slice none 0 0, .slice none 0 0, .int .i64 (-2), .int .i64 0, .int .i64 0, .int .i64 0, .string ⟨#[]⟩, .int .i64 0, .slice none 0 0, .slice none 0 0, .int .i64 0, .int .i64 0, .int .i64 0, .int .i64 0, .bool false, .string ⟨#[]⟩]] w3 _ from SN.out).mono ?_
                rintro e w4 ⟨rfl, hN4⟩
                have HN4 := Lib.hid hN4
                clear hN4 HN3 SN
                go_wp2_with fail
                refine (sendN_full HN4.out _).mono ?_
                rintro e w5 ⟨rfl, hN5⟩
                have HN5 := Lib.hid hN5
                clear hN5 HN4
                go_wp2_with fail
                refine (lenN HN5.out).mono ?_
                rintro e w6 ⟨rfl, rfl⟩
                go_wp2_with fail
                go_ret
                obtain ⟨_, _, _, _, _, _, hBW, _⟩ := HN5.out
                exact ⟨rfl, hBW⟩
end Go.Proofs.Ytmmaolhmhdjldaa.BagS
