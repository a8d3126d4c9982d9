/- The stable sort: symMerge where the right part is one, walked. -/
import Derived.Test.YtpaihfdmjkfegaaStaG
namespace Go.Proofs.Ytpaihfdmjkfegaa.Sta
open Go.Shelf Go.RowKit Go.Lib Go.Sort
variable {α : Type} [Inhabited α]

/-- What the comparison says of one of the left it says of all behind it. -/
theorem Two.downL {lt : α → α → Prop} {cl : α → α → Bool} (O : Ord lt) {a m b : Nat} {d : Array α} (T : Two lt cl a m b d) {i h k : Nat} (hi : m ≤ i) (hib : i < b) (hh : a ≤ h) (hk : h ≤ k) (hkm : k < m) (hc : cl d[i]! d[h]! = true) : cl d[i]! d[k]! = true := by
  have h1 := (T.agree h i hh (by omega) hi hib).1 hc
  refine (T.agree k i (by omega) hkm hi hib).2 ?_
  rcases T.left.le hh hk hkm with e | e
  · rw [← e]; exact h1
  · exact O.trans _ _ _ h1 e
theorem Two.upL {lt : α → α → Prop} {cl : α → α → Bool} (O : Ord lt) {a m b : Nat} {d : Array α} (T : Two lt cl a m b d) {i h k : Nat} (hi : m ≤ i) (hib : i < b) (hh : a ≤ h) (hk : h ≤ k) (hkm : k < m) (hc : cl d[i]! d[k]! = false) : cl d[i]! d[h]! = false := by
  cases e : cl d[i]! d[h]! with
  | false => rfl
  | true => rw [T.downL O hi hib hh hk hkm e] at hc; cases hc

set_option maxHeartbeats 4000000 in
set_option maxRecDepth 1000000 in
theorem merge_right (lt : α → α → Prop) (O : Ord lt) (enc : α → Value) (cf : α → α → Int) (g : Nat) (cb : Array Value) (blk off cap a m b : Nat) (d0 d : Array α) (w0 w : World)
    (eg : ∀ args w, (callFunc g args).run Try.prog w = .ok (.enter g args) w) (hcmp : CmpLays1 Try.prog g cb enc cf blk off d0.size w0)
    (R : Row1 enc w0 blk off d0) (hs : d0.size = d.size) (S : SW enc w0 blk off d w) (hm : m + 1 = b) (h2 : a + 1 < m) (h3 : b ≤ d.size) (hsz : d.size < 4611686018427387904) (T : Two lt (ltOf cf) a m b d) :
    Calls Try.prog 59 #[.slice (some ⟨blk, off, none⟩) d.size cap, .int .i64 a, .int .i64 m, .int .i64 b, .func (.func g) #[] cb] w fun e w' => e = .returned (.tuple #[]) ∧ ∃ d', PermIn a b d d' ∧ Asc lt a b d' ∧ SW enc w0 blk off d' w' := by
  have mixed : Try.prog.follows Departure.mixedOrders = true := by kernel_rfl
  have hcl0 := R.hO.cells
  simp only [Value.cells] at hcl0
  have hst := R.hO.store Try.prog
  have HC := Lib.hid hcmp
  have HT := Lib.hid T
  have S0 : Aside (SW enc w0 blk off d w) := S
  clear S hcmp T
  have e0 : (((m : Nat) : Int) - (a : Int) == 1) = false := by simp; omega
  have e1 : ((b : Nat) : Int) - (m : Int) = 1 := by omega
  go_enter Try.func59, Try.ntmps59
  go_wp2_with fail
  go_loopg [14, 15, 16] (m - a) (fun gk v10 v11 v12 wr => ∃ (i j : Nat), j - i = gk ∧ a ≤ i ∧ i ≤ j ∧ j ≤ m ∧ v10 = .int .i64 i ∧ v11 = .int .i64 j ∧ Aside (SW enc w0 blk off d wr) ∧
    (∀ h, a ≤ h → h < i → ltOf cf d[m]! d[h]! = false) ∧ (∀ h, j ≤ h → h < m → ltOf cf d[m]! d[h]! = true))
  case atStart => exact ⟨a, m, rfl, by omega, by omega, Nat.le_refl _, rfl, rfl, S0, fun h q1 q2 => by omega, fun h q1 q2 => by omega⟩
  case round =>
    clear S0
    obtain ⟨i, j, hg, hi, hij, hj, rfl, rfl, S1, hB, hN⟩ := hrel
    have HB := Lib.hid hB
    have HN := Lib.hid hN
    clear hB hN
    by_cases hlt : i < j
    · have hlt' : (i : Int) < (j : Int) := by omega
      go_upto_region 17 with (fail)
      obtain ⟨hN, hh⟩ : ∃ q : Nat, q = (i + j) / 2 := ⟨_, rfl⟩
      have eh : ((i : Int) + (j : Int)) / 2 = (hN : Int) := by omega
      rw [eh]
      have hlo : i ≤ hN := by omega
      have hhi : hN < j := by omega
      clear hh eh
      obtain ⟨aN, haN⟩ : ∃ q, q = m := ⟨_, rfl⟩
      obtain ⟨kN, hkN⟩ : ∃ q, q = hN := ⟨_, rfl⟩
      have ea : (hN : Int).toNat = kN := by omega
      have pa : (0 : Int) ≤ (hN : Int) := by omega
      have ba : (hN : Int) < (d.size : Int) := by omega
      have ec : (m : Int).toNat = aN := by omega
      have pc : (0 : Int) ≤ (m : Int) := by omega
      have bc : (m : Int) < (d.size : Int) := by omega
      obtain ⟨x, hx⟩ : ∃ x, x = d[hN]! := ⟨_, rfl⟩
      obtain ⟨y, hy⟩ : ∃ x, x = d[m]! := ⟨_, rfl⟩
      have la := S1.out.cl R (by omega) hN (by omega)
      have lb := S1.out.cl R (by omega) m (by omega)
      rw [← hx, ← hkN] at la
      rw [← hy, ← haN] at lb
      have hc := S1.out.cmp HC.out (by omega) y x
      have HX := Lib.hid hx
      have HY := Lib.hid hy
      clear hx hy hkN haN
      by_cases hv : cf y x < 0
      · have hd : decide (cf y x < 0) = true := decide_eq_true hv
        go_quiet_grown (first | (go_at_fn g; refine Calls.grown_of (hc _ _)))
        have S2 : Aside (SW enc w0 blk off d (grow (wr.drewN nq) osq)) := S1.out.grown nq osq
        clear la lb hc S1
        generalize grow (wr.drewN nq) osq = w2 at S2 ⊢
        clear nq osq ea ec
        go_wp2_with fail
        go_roundg (hN - i)
        case measure => omega
        case rel => exact ⟨i, hN, rfl, hi, by omega, by omega, rfl, rfl, S2, HB.out, fun h q1 q2 => HT.out.downL O (Nat.le_refl m) (by omega) (show a ≤ hN by omega) q1 q2 (by rw [← HX.out, ← HY.out]; exact hd)⟩
      · have hd : decide (cf y x < 0) = false := decide_eq_false hv
        go_quiet_grown (first | (go_at_fn g; refine Calls.grown_of (hc _ _)))
        have S2 : Aside (SW enc w0 blk off d (grow (wr.drewN nq) osq)) := S1.out.grown nq osq
        clear la lb hc S1
        generalize grow (wr.drewN nq) osq = w2 at S2 ⊢
        clear nq osq ea ec
        go_wp2_with fail
        go_roundg (j - (hN + 1))
        case measure => omega
        case rel => exact ⟨hN + 1, j, rfl, by omega, by omega, hj, by go_num, rfl, S2, fun h q1 q2 => HT.out.upL O (Nat.le_refl m) (by omega) q1 (show h ≤ hN by omega) (by omega) (by rw [← HX.out, ← HY.out]; exact hd), HN.out⟩
    · obtain rfl : i = j := by omega
      have hnn : decide ((i : Int) < (i : Int)) = false := decide_eq_false (by omega)
      go_upto_region 20 with (fail)
      clear hnn hlt hg
      go_wp2_with fail
      go_loopg [17] (m - i) (fun gk v13 wr => ∃ (k : Nat) (dk : Array α), k - i = gk ∧ i ≤ k ∧ k ≤ m ∧ v13 = .int .i64 k ∧ Rot k m (m + 1) d dk ∧ Aside (SW enc w0 blk off dk wr))
      case atStart => exact ⟨m, d, rfl, hj, Nat.le_refl _, rfl, rot_nil_left _ _ _, S1⟩
      case round =>
        clear S1
        obtain ⟨kk, dk, hg, hk, hki, rfl, hR, S2⟩ := hrel
        have HR := Lib.hid hR
        have hds : dk.size = d.size := hR.size
        clear hR
        by_cases hlt : i < kk
        · have hlt' : (i : Int) < (kk : Int) := by omega
          obtain ⟨k, hkk⟩ : ∃ k, kk = k + 1 := ⟨kk - 1, by omega⟩
          have ek : (kk : Int) - 1 = (k : Int) := by omega
          have hk1 : k < kk := by omega
          have hk2 : kk ≤ k + 1 := by omega
          have HK := Lib.hid hkk
          clear hkk
          go_wp2_with fail
          obtain ⟨iN, hiN⟩ : ∃ x, x = kk := ⟨_, rfl⟩
          obtain ⟨jN, hjN⟩ : ∃ x, x = k := ⟨_, rfl⟩
          have ea : (kk : Int).toNat = iN := by omega
          have pa : (0 : Int) ≤ (kk : Int) := by omega
          have ba : (kk : Int) < (d.size : Int) := by omega
          have rc : IntKind.i64.wrap ((kk : Int) - 1) = (k : Int) := by rw [IntKind.wrap_i64]; omega
          have ec : (k : Int).toNat = jN := by omega
          have pc : (0 : Int) ≤ (k : Int) := by omega
          have bc : (k : Int) < (d.size : Int) := by omega
          obtain ⟨x, hx⟩ : ∃ x, x = dk[kk]! := ⟨_, rfl⟩
          obtain ⟨y, hy⟩ : ∃ x, x = dk[k]! := ⟨_, rfl⟩
          have S3 : Aside (SW enc w0 blk off (swp dk kk k) ((wr.setCell ⟨blk, off + iN, none⟩ (enc y)).setCell ⟨blk, off + jN, none⟩ (enc x)).drew) := by rw [hiN, hjN, hx, hy]; exact S2.out.swapped R kk k (by omega) (by omega)
          have ca := S2.out.c1 R (by omega) kk (by omega)
          have cb' := S2.out.c1 R (by omega) k (by omega)
          have fa := S2.out.f1 R (by omega) kk (by omega)
          have fb := S2.out.f1 R (by omega) k (by omega)
          obtain ⟨u, cc⟩ := S2.out.c2 R (by omega) kk k (by omega) (by omega) (enc y)
          rw [← hjN, ← hiN] at cc
          rw [← hx, ← hiN] at ca
          rw [← hy, ← hjN] at cb'
          rw [← hiN] at fa
          rw [← hjN] at fb
          clear S2 hx hy hiN hjN
          go_big_region_o
          clear ca cb' cc fa fb
          generalize ((wr.setCell ⟨blk, off + iN, none⟩ (enc y)).setCell ⟨blk, off + jN, none⟩ (enc x)).drew = w2 at S3 ⊢
          clear ea ec
          go_wp2
          go_roundg (k - i)
          case measure => omega
          case rel =>
            have hkk := HK.out
            clear HK
            subst hkk
            exact ⟨k, swp dk (k + 1) k, rfl, by omega, by omega, by go_num, rot_step_left HR.out (by omega) (by omega), S3⟩
        · obtain rfl : kk = i := by omega
          have hnn : decide ((kk : Int) < (kk : Int)) = false := decide_eq_false (by omega)
          go_wp2_with fail
          refine bodyPost_ret (results_none rfl _ _ _) rfl ?_
          have hR := HR.out
          subst hm
          exact ⟨rfl, dk, permIn_mono d dk kk (m + 1) a (m + 1) (by omega) (Nat.le_refl _) (by omega) (hR.perm hj (by omega) (by omega)), ins_right HT.out (by omega) hj HB.out HN.out hR, S2.out⟩
end Go.Proofs.Ytpaihfdmjkfegaa.Sta
