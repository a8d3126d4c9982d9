/- The stable sort: stableCmpFunc, SortStableFunc, walked. -/
import Derived.Test.YtpaihfdmjkfegaaStaI
import Derived.Test.YtpaihfdmjkfegaaStaJ
import Derived.Shelf.SlSortCmp.Insertion1
namespace Go.Proofs
open Go.Shelf
def Try.insInt_ren : Go.Shelf.Ren := ⟨fun | 20 => 58 | n => n, fun | 22 => 23 | 24 => 3 | 25 => 120 | n => n, fun | n => n⟩
theorem Try.insInt : Go.Proofs.SlLaysF.n20 Try.prog Try.insInt_ren := {
  mixed := by kernel_rfl
  f20 := ⟨Try.f58.name, by decide, Try.func58.trans (congrArg some (by kernel_rfl))⟩
  t0 := Try.underlying0
  a0 := Try.isAgg0
  z0 := Try.sizeOf0
  v0 := Try.zeroValue0
  t3 := Try.underlying3
  a3 := Try.isAgg3
  z3 := Try.sizeOf3
  v3 := Try.zeroValue3
  t4 := Try.underlying4
  a4 := Try.isAgg4
  z4 := Try.sizeOf4
  v4 := Try.zeroValue4
  t22 := Try.underlying23
  a22 := Try.isAgg23
  z22 := Try.sizeOf23
  v22 := Try.zeroValue23
  a24 := Try.isAgg3
  z24 := Try.sizeOf3
  t25 := Try.underlying120
  a25 := Try.isAgg120
  z25 := Try.sizeOf120
  v25 := Try.zeroValue120 }
namespace Ytpaihfdmjkfegaa.Sta
open Go.Shelf Go.RowKit Go.Lib Go.Sort
variable {α : Type} [Inhabited α]

set_option maxHeartbeats 4000000 in
set_option maxRecDepth 1000000 in
theorem stable_all (far : α → Int) (ix : α → Nat) (enc : α → Value) (cf : α → α → Int) (g : Nat) (cb : Array Value) (blk off cap n : Nat) (d0 : Array α) (w0 w : World)
    (eg : ∀ args w, (callFunc g args).run Try.prog w = .ok (.enter g args) w) (hcmp : CmpLays1 Try.prog g cb enc cf blk off n w0) (R : Row1 enc w0 blk off d0) (hn : d0.size = n) (hsz : n < 100000)
    (S : SW enc w0 blk off d0 w) (hcl : ∀ x y, ltOf cf x y = decide (far x < far y)) (hix : ∀ i, i < n → ix d0[i]! = i) :
    Calls Try.prog 48 #[.slice (some ⟨blk, off, none⟩) n cap, .int .i64 n, .func (.func g) #[] cb] w fun e w' => e = .returned (.tuple #[]) ∧ ∃ d', PermIn 0 n d0 d' ∧ Good far ix 0 n d' ∧ SW enc w0 blk off d' w' := by
  have INS := Lib.hid (fun (a b : Nat) (d : Array α) (w : World) (hs : d0.size = d.size) (S : SW enc w0 blk off d w) (hab : a ≤ b) (hb : b ≤ d.size) =>
    Any.insertionSortCmpFunc_s Try.insInt enc cf g cb blk off cap a b d0 d w0 w eg (by rw [hn]; exact hcmp) R hs S hab hb (by omega))
  have MRG := Lib.hid (fun (K : Nat) => merge_any (Nearer far ix) (nearer_ord far ix) enc cf g cb blk off cap d0 w0 eg (by rw [hn]; exact hcmp) R (by omega) K)
  have S0 : Aside (SW enc w0 blk off d0 w) := S
  have F0 : Hid (First far ix 20 n 0 d0) := ⟨fun q hq => by omega, fun p _ hp => hix p hp⟩
  have HCL := Lib.hid hcl
  clear S hcmp hix hcl
  go_enter Try.func48, Try.ntmps48
  go_wp2_with fail
  go_loopg [7, 8] n (fun gk v7 v8 wr => ∃ (k a b : Nat) (d : Array α), n - a = gk ∧ a = k * 20 ∧ b = a + 20 ∧ a ≤ n ∧ v7 = .int .i64 a ∧ v8 = .int .i64 b ∧ Hid (First far ix 20 n k d) ∧ Hid (PermIn 0 n d0 d) ∧ Aside (SW enc w0 blk off d wr))
  case atStart => exact ⟨0, 0, 20, d0, rfl, rfl, rfl, by omega, rfl, rfl, F0, permIn_refl _ _ _, S0⟩
  case round =>
    clear S0 F0
    obtain ⟨k, a, b, d, hg, ha, hb, han, rfl, rfl, FF, HP, S1⟩ := hrel
    have hds : d.size = n := HP.out.1.trans hn
    have ha1 : a ≤ k * 20 := by omega
    have ha2 : k * 20 ≤ a := by omega
    have hb1 : b ≤ a + 20 := by omega
    have hb2 : a + 20 ≤ b := by omega
    have HA := Lib.hid ha
    have HB := Lib.hid hb
    clear ha hb
    by_cases hlt : b ≤ n
    · as_aux_lemma =>
      have hlt' : (b : Int) ≤ (n : Int) := by omega
      have C1 := Lib.hid (INS.out a b d _ (by omega) S1.out (by omega) (by omega))
      have key := Lib.hid (insertion_good (far := far) (ix := ix) HCL.out (a := a) (b := b) (d := d) (by omega) (by omega) (fun i z1 z2 => FF.out.right i (by omega) (by omega)))
      rw [hds] at C1
      go_wp2_with fail
      refine C1.out.mono ?_
      rintro ed w2 ⟨rfl, hS2⟩
      have S2 := Lib.hid hS2
      clear hS2 C1
      go_wp2_with fail
      go_roundg (n - b)
      case measure => omega
      case rel =>
        have e1 := HA.out
        have e2 := HB.out
        refine ⟨k + 1, b, b + 20, _, rfl, by omega, rfl, hlt, rfl, by go_num, ?_, ?_, S2.out⟩
        · have := key.out
          rw [e2, e1] at this
          rw [e2, e1]
          exact FF.out.step this.2 this.1
        · exact permIn_trans _ _ _ _ _ HP.out (permIn_mono _ _ a b 0 n (Nat.zero_le _) hlt (by omega) key.out.1)
    · have hlt' : ¬ (b : Int) ≤ (n : Int) := by omega
      have C1 := Lib.hid (INS.out a n d _ (by omega) S1.out (by omega) (by omega))
      have key := Lib.hid (insertion_good (far := far) (ix := ix) HCL.out (a := a) (b := n) (d := d) (by omega) (by omega) (fun i z1 z2 => FF.out.right i (by omega) (by omega)))
      rw [hds] at C1
      go_wp2_with fail
      refine C1.out.mono ?_
      rintro ed w2 ⟨rfl, hS2⟩
      have S2 := Lib.hid hS2
      have E0 : Hid (Even far ix 20 n (insertionSort (ltOf cf) d a n)) := by
        have e1 := HA.out
        have := key.out
        rw [e1] at this
        rw [e1]
        exact FF.out.last (by omega) (by omega) this.2 this.1
      have P0 : Hid (PermIn 0 n d0 (insertionSort (ltOf cf) d a n)) := permIn_trans _ _ _ _ _ HP.out (permIn_mono _ _ a n 0 n (Nat.zero_le _) (Nat.le_refl _) (by omega) key.out.1)
      clear hS2 C1 key FF HP S1 HA HB
      generalize insertionSort (ltOf cf) d a n = d1 at S2 E0 P0
      clear hds d
      clear ha1 ha2 hb1 hb2 hg
      go_wp2_with fail
      go_loopg [6] n (fun gk v6 wr => ∃ (s : Nat) (d : Array α), n - s ≤ gk ∧ 0 < s ∧ s < 400000 ∧ v6 = .int .i64 s ∧ Hid (Even far ix s n d) ∧ Hid (PermIn 0 n d0 d) ∧ Aside (SW enc w0 blk off d wr))
      case atStart => exact ⟨20, d1, by omega, by omega, by omega, rfl, E0, P0, S2.out⟩
      case round =>
        clear S2 E0 P0
        obtain ⟨s, d, hg, hs1, hs2, rfl, EV, HP, S1⟩ := hrel
        have hds : d.size = n := HP.out.1.trans hn
        by_cases hst : s < n
        · have hst' : (s : Int) < (n : Int) := by omega
          have P0 : Hid (Pass far ix s n 0 d) := Pass.start EV.out
          clear EV
          go_wp2_with fail
          go_loopg [7, 8] n (fun gk v7 v8 wr => ∃ (k a b : Nat) (d' : Array α), n - a = gk ∧ Hid (a = k * (2 * s)) ∧ b ≤ a + 2 * s ∧ a + 2 * s ≤ b ∧ a ≤ n ∧ v7 = .int .i64 a ∧ v8 = .int .i64 b ∧ Hid (Pass far ix s n k d') ∧ Hid (PermIn 0 n d0 d') ∧ Aside (SW enc w0 blk off d' wr))
          case atStart => exact ⟨0, 0, 2 * s, d, rfl, (Nat.zero_mul _).symm, by omega, by omega, by omega, rfl, by go_num, P0, HP, S1⟩
          case round =>
            clear S1 P0 HP hds d
            obtain ⟨k, a, b, d, hg2, HA, hb1, hb2, han, rfl, rfl, FF, HP, S1⟩ := hrel
            have hds : d.size = n := HP.out.1.trans hn
            obtain ⟨m, hm⟩ : ∃ q, q = a + s := ⟨_, rfl⟩
            have em : (a : Int) + (s : Int) = (m : Int) := by omega
            have hm1 : m ≤ a + s := by omega
            have hm2 : a + s ≤ m := by omega
            clear hm
            by_cases hlt : b ≤ n
            · as_aux_lemma =>
              have hlt' : (b : Int) ≤ (n : Int) := by omega
              have pr : Hid (Good far ix a m d ∧ Good far ix m b d) := by
                obtain rfl : b = a + 2 * s := by omega
                obtain rfl : m = a + s := by omega
                have e1 := HA.out
                have := FF.out.pair hs1 (by rw [← e1]; exact hlt)
                rw [← e1] at this
                exact this
              have C0 := MRG.out (2 * s) a m b d wr (by omega) (by omega) S1.out (by omega) (by omega) (by omega) (pr.out.1.two HCL.out pr.out.2)
              rw [hn] at C0
              have C1 := Lib.hid C0
              clear C0
              go_wp2_with fail
              refine C1.out.mono ?_
              rintro ed w2 ⟨rfl, d2, hP2, hA2, hS2⟩
              have P2 := Lib.hid hP2
              have A2 := Lib.hid hA2
              have S2 := Lib.hid hS2
              clear hP2 hA2 hS2 C1
              go_wp2_with fail
              go_roundg (n - b)
              case measure => omega
              case rel =>
                refine ⟨k + 1, b, b + 2 * s, d2, rfl, ?_, by omega, by omega, hlt, rfl, by go_num, ?_, ?_, S2.out⟩
                · show b = (k + 1) * (2 * s)
                  have := HA.out
                  rw [show (k + 1) * (2 * s) = k * (2 * s) + 2 * s from Nat.succ_mul k _]
                  omega
                · have g := pr.out.1.laid pr.out.2 (by omega) (by omega) (by omega) P2.out A2.out
                  have p := P2.out
                  obtain rfl : b = a + 2 * s := by omega
                  have e1 := HA.out
                  rw [e1] at g p
                  exact FF.out.step g p
                · exact permIn_trans _ _ _ _ _ HP.out (permIn_mono _ _ a b 0 n (Nat.zero_le _) hlt (by omega) P2.out)
            · have hlt' : ¬ (b : Int) ≤ (n : Int) := by omega
              by_cases hmn : m < n
              · as_aux_lemma =>
                have hmn' : (m : Int) < (n : Int) := by omega
                have pr : Hid (Good far ix a m d ∧ Good far ix m n d) := by
                  obtain rfl : m = a + s := by omega
                  have e1 := HA.out
                  have := FF.out.halves (by omega) (by omega)
                  rw [← e1] at this
                  exact this
                have C0 := MRG.out (2 * s) a m n d wr (by omega) (by omega) S1.out (by omega) (by omega) (by omega) (pr.out.1.two HCL.out pr.out.2)
                rw [hn] at C0
                have C1 := Lib.hid C0
                clear C0
                go_wp2_with fail
                refine C1.out.mono ?_
                rintro ed w2 ⟨rfl, d2, hP2, hA2, hS2⟩
                have P2 := Lib.hid hP2
                have A2 := Lib.hid hA2
                have S2 := Lib.hid hS2
                clear hP2 hA2 hS2 C1
                go_wp2_with fail
                go_roundg (n - 2 * s)
                case measure => omega
                case rel =>
                  refine ⟨2 * s, d2, Nat.le_refl _, by omega, by omega, by go_num, ?_, ?_, S2.out⟩
                  · have g := pr.out.1.laid pr.out.2 (by omega) (by omega) (by omega) P2.out A2.out
                    have p := P2.out
                    have e1 := HA.out
                    rw [e1] at g p
                    exact FF.out.done (by omega) (by omega) g p
                  · exact permIn_trans _ _ _ _ _ HP.out (permIn_mono _ _ a n 0 n (Nat.zero_le _) (Nat.le_refl _) (by omega) P2.out)
              · as_aux_lemma =>
                have hmn' : ¬ (m : Int) < (n : Int) := by omega
                go_wp2_with fail
                go_roundg (n - 2 * s)
                case measure => omega
                case rel =>
                  refine ⟨2 * s, d, Nat.le_refl _, by omega, by omega, by go_num, ?_, HP, S1⟩
                  have e1 := HA.out
                  have g := FF.out.one (by omega)
                  exact FF.out.done (by omega) (by omega) g (permIn_refl _ _ _)
        · as_aux_lemma =>
          have hst' : ¬ (s : Int) < (n : Int) := by omega
          go_wp2_with fail
          go_end0
          exact ⟨rfl, d, HP.out, EV.out.whole (by omega), S1.out⟩

set_option maxHeartbeats 4000000 in
set_option maxRecDepth 1000000 in
theorem sortStable_all (far : α → Int) (ix : α → Nat) (enc : α → Value) (cf : α → α → Int) (g : Nat) (cb : Array Value) (blk off cap n : Nat) (d0 : Array α) (w0 w : World)
    (eg : ∀ args w, (callFunc g args).run Try.prog w = .ok (.enter g args) w) (hcmp : CmpLays1 Try.prog g cb enc cf blk off n w0) (R : Row1 enc w0 blk off d0) (hn : d0.size = n) (hsz : n < 100000)
    (S : SW enc w0 blk off d0 w) (hcl : ∀ x y, ltOf cf x y = decide (far x < far y)) (hix : ∀ i, i < n → ix d0[i]! = i) :
    Calls Try.prog 34 #[.slice (some ⟨blk, off, none⟩) n cap, .func (.func g) #[] cb] w fun e w' => e = .returned (.tuple #[]) ∧ ∃ d', PermIn 0 n d0 d' ∧ Good far ix 0 n d' ∧ SW enc w0 blk off d' w' := by
  have C1 := Lib.hid (stable_all far ix enc cf g cb blk off cap n d0 w0 w eg hcmp R hn hsz S hcl hix)
  clear hcmp hcl hix S
  go_enter Try.func34, Try.ntmps34
  go_wp2_with fail
  refine C1.out.mono ?_
  rintro ed w2 ⟨rfl, hh⟩
  have HH := Lib.hid hh
  clear hh C1
  go_wp2_with fail
  go_end0
  exact ⟨rfl, HH.out⟩
end Ytpaihfdmjkfegaa.Sta
end Go.Proofs
