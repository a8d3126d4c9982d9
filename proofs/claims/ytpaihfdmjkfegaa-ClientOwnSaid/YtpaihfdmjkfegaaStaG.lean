/- The stable sort: symMerge where the left part is one, walked. -/
import Derived.Test.YtpaihfdmjkfegaaStaF
import Derived.Deep.Cut
namespace Go.Proofs.Ytpaihfdmjkfegaa.Sta
open Go.Shelf Go.RowKit Go.Lib Go.Sort
variable {α : Type} [Inhabited α]

/-- What the comparison says of one of the right it says of all ahead of it. -/
theorem Two.down {lt : α → α → Prop} {cl : α → α → Bool} (O : Ord lt) {a m b : Nat} {d : Array α} (T : Two lt cl a m b d) {i h k : Nat} (hi : a ≤ i) (him : i < m) (hh : m ≤ h) (hk : h ≤ k) (hkb : k < b) (hc : cl d[k]! d[i]! = true) : cl d[h]! d[i]! = true := by
  have h1 := (T.agree i k hi him (by omega) hkb).1 hc
  refine (T.agree i h hi him hh (by omega)).2 ?_
  rcases T.right.le hh hk hkb with e | e
  · rw [e]; exact h1
  · exact O.trans _ _ _ e h1
theorem Two.up {lt : α → α → Prop} {cl : α → α → Bool} (O : Ord lt) {a m b : Nat} {d : Array α} (T : Two lt cl a m b d) {i h k : Nat} (hi : a ≤ i) (him : i < m) (hk : m ≤ k) (hh : k ≤ h) (hhb : h < b) (hc : cl d[k]! d[i]! = false) : cl d[h]! d[i]! = false := by
  cases e : cl d[h]! d[i]! with
  | false => rfl
  | true => rw [T.down O hi him hk hh hhb e] at hc; cases hc

set_option maxHeartbeats 4000000 in
set_option maxRecDepth 1000000 in
theorem merge_left (lt : α → α → Prop) (O : Ord lt) (enc : α → Value) (cf : α → α → Int) (g : Nat) (cb : Array Value) (blk off cap a m b : Nat) (d0 d : Array α) (w0 w : World)
    (eg : ∀ args w, (callFunc g args).run Try.prog w = .ok (.enter g args) w) (hcmp : CmpLays1 Try.prog g cb enc cf blk off d0.size w0)
    (R : Row1 enc w0 blk off d0) (hs : d0.size = d.size) (S : SW enc w0 blk off d w) (hm : a + 1 = m) (h2 : m < b) (h3 : b ≤ d.size) (hsz : d.size < 4611686018427387904) (T : Two lt (ltOf cf) a m b d) :
    Calls Try.prog 59 #[.slice (some ⟨blk, off, none⟩) d.size cap, .int .i64 a, .int .i64 m, .int .i64 b, .func (.func g) #[] cb] w fun e w' => e = .returned (.tuple #[]) ∧ ∃ d', PermIn a b d d' ∧ Asc lt a b d' ∧ SW enc w0 blk off d' w' := by
  have mixed : Try.prog.follows Departure.mixedOrders = true := by kernel_rfl
  have hcl0 := R.hO.cells
  simp only [Value.cells] at hcl0
  have hst := R.hO.store Try.prog
  have HC := Lib.hid hcmp
  have HT := Lib.hid T
  have S0 : Aside (SW enc w0 blk off d w) := S
  clear S hcmp T
  have e1 : ((m : Nat) : Int) - (a : Int) = 1 := by omega
  go_enter Try.func59, Try.ntmps59
  go_wp2_with fail
  go_loopg [10, 11, 12] (b - m) (fun gk v10 v11 v12 wr => ∃ (i j : Nat), j - i = gk ∧ m ≤ i ∧ i ≤ j ∧ j ≤ b ∧ v10 = .int .i64 i ∧ v11 = .int .i64 j ∧ Aside (SW enc w0 blk off d wr) ∧
    (∀ h, m ≤ h → h < i → ltOf cf d[h]! d[a]! = true) ∧ (∀ h, j ≤ h → h < b → ltOf cf d[h]! d[a]! = false))
  case atStart => exact ⟨m, b, rfl, by omega, by omega, Nat.le_refl _, rfl, rfl, S0, fun h q1 q2 => by omega, fun h q1 q2 => by omega⟩
  case round =>
    clear S0
    obtain ⟨i, j, hg, hi, hij, hj, rfl, rfl, S1, hB, hN⟩ := hrel
    have HB := Lib.hid hB
    have HN := Lib.hid hN
    clear hB hN
    by_cases hlt : i < j
    · have hlt' : (i : Int) < (j : Int) := by omega
      go_upto_region 5 with (fail)
      obtain ⟨hN, hh⟩ : ∃ q : Nat, q = (i + j) / 2 := ⟨_, rfl⟩
      have eh : ((i : Int) + (j : Int)) / 2 = (hN : Int) := by omega
      rw [eh]
      have hlo : i ≤ hN := by omega
      have hhi : hN < j := by omega
      clear hh eh
      obtain ⟨aN, haN⟩ : ∃ q, q = a := ⟨_, rfl⟩
      obtain ⟨kN, hkN⟩ : ∃ q, q = hN := ⟨_, rfl⟩
      have ea : (hN : Int).toNat = kN := by omega
      have pa : (0 : Int) ≤ (hN : Int) := by omega
      have ba : (hN : Int) < (d.size : Int) := by omega
      have ec : (a : Int).toNat = aN := by omega
      have pc : (0 : Int) ≤ (a : Int) := by omega
      have bc : (a : Int) < (d.size : Int) := by omega
      obtain ⟨x, hx⟩ : ∃ x, x = d[hN]! := ⟨_, rfl⟩
      obtain ⟨y, hy⟩ : ∃ x, x = d[a]! := ⟨_, rfl⟩
      have la := S1.out.cl R (by omega) hN (by omega)
      have lb := S1.out.cl R (by omega) a (by omega)
      rw [← hx, ← hkN] at la
      rw [← hy, ← haN] at lb
      have hc := S1.out.cmp HC.out (by omega) x y
      have HX := Lib.hid hx
      have HY := Lib.hid hy
      clear hx hy hkN haN
      by_cases hv : cf x y < 0
      · have hd : decide (cf x y < 0) = true := decide_eq_true hv
        go_quiet_grown (first | (go_at_fn g; refine Calls.grown_of (hc _ _)))
        have S2 : Aside (SW enc w0 blk off d (grow (wr.drewN nq) osq)) := S1.out.grown nq osq
        clear la lb hc S1
        generalize grow (wr.drewN nq) osq = w2 at S2 ⊢
        clear nq osq ea ec
        go_wp2_with fail
        go_roundg (j - (hN + 1))
        case measure => omega
        case rel => exact ⟨hN + 1, j, rfl, by omega, by omega, hj, by go_num, rfl, S2, fun h q1 q2 => HT.out.down O (Nat.le_refl a) (by omega) q1 (show h ≤ hN by omega) (by omega) (by rw [← HX.out, ← HY.out]; exact hd), HN.out⟩
      · have hd : decide (cf x y < 0) = false := decide_eq_false hv
        go_quiet_grown (first | (go_at_fn g; refine Calls.grown_of (hc _ _)))
        have S2 : Aside (SW enc w0 blk off d (grow (wr.drewN nq) osq)) := S1.out.grown nq osq
        clear la lb hc S1
        generalize grow (wr.drewN nq) osq = w2 at S2 ⊢
        clear nq osq ea ec
        go_wp2_with fail
        go_roundg (hN - i)
        case measure => omega
        case rel => exact ⟨i, hN, rfl, hi, by omega, by omega, rfl, rfl, S2, HB.out, fun h q1 q2 => HT.out.up O (Nat.le_refl a) (by omega) (show m ≤ hN by omega) q1 q2 (by rw [← HX.out, ← HY.out]; exact hd)⟩
    · obtain rfl : i = j := by omega
      have hnn : decide ((i : Int) < (i : Int)) = false := decide_eq_false (by omega)
      go_upto_region 8 with (fail)
      clear hnn hlt hg
      have ei : (i : Int) - 1 = ((i - 1 : Nat) : Int) := by omega
      go_wp2_with fail
      go_loopg [13] (i - 1 - a) (fun gk v13 wr => ∃ (k : Nat) (dk : Array α), i - 1 - k = gk ∧ a ≤ k ∧ k + 1 ≤ i ∧ v13 = .int .i64 k ∧ Rot a (a + 1) (k + 1) d dk ∧ Aside (SW enc w0 blk off dk wr))
      case atStart => exact ⟨a, d, rfl, Nat.le_refl _, by omega, rfl, rot_nil_right _ _ _, S1⟩
      case round =>
        clear S1
        obtain ⟨k, dk, hg, hk, hki, rfl, hR, S2⟩ := hrel
        have HR := Lib.hid hR
        have hds : dk.size = d.size := hR.size
        clear hR
        by_cases hlt : k < i - 1
        · have hlt' : (k : Int) < ((i - 1 : Nat) : Int) := by omega
          go_wp2_with fail
          obtain ⟨iN, hiN⟩ : ∃ x, x = k := ⟨_, rfl⟩
          obtain ⟨jN, hjN⟩ : ∃ x, x = k + 1 := ⟨_, rfl⟩
          have rc : IntKind.i64.wrap ((k : Int) + 1) = (k : Int) + 1 := by rw [IntKind.wrap_i64]; omega
          have ea : (k : Int).toNat = iN := by omega
          have pa : (0 : Int) ≤ (k : Int) := by omega
          have ba : (k : Int) < (d.size : Int) := by omega
          have ec : ((k : Int) + 1).toNat = jN := by omega
          have pc : (0 : Int) ≤ (k : Int) + 1 := by omega
          have bc : (k : Int) + 1 < (d.size : Int) := by omega
          obtain ⟨x, hx⟩ : ∃ x, x = dk[k]! := ⟨_, rfl⟩
          obtain ⟨y, hy⟩ : ∃ x, x = dk[k + 1]! := ⟨_, rfl⟩
          have S3 : Aside (SW enc w0 blk off (swp dk k (k + 1)) ((wr.setCell ⟨blk, off + iN, none⟩ (enc y)).setCell ⟨blk, off + jN, none⟩ (enc x)).drew) := by rw [hiN, hjN, hx, hy]; exact S2.out.swapped R k (k + 1) (by omega) (by omega)
          have ca := S2.out.c1 R (by omega) k (by omega)
          have cb' := S2.out.c1 R (by omega) (k + 1) (by omega)
          have fa := S2.out.f1 R (by omega) k (by omega)
          have fb := S2.out.f1 R (by omega) (k + 1) (by omega)
          obtain ⟨u, cc⟩ := S2.out.c2 R (by omega) k (k + 1) (by omega) (by omega) (enc y)
          rw [← hjN, ← hiN] at cc
          rw [← hx, ← hiN] at ca
          rw [← hy, ← hjN] at cb'
          rw [← hiN] at fa
          rw [← hjN] at fb
          clear S2 hx hy hiN hjN
          go_big_region_o
          clear ca cb' cc fa fb
          generalize ((wr.setCell ⟨blk, off + iN, none⟩ (enc y)).setCell ⟨blk, off + jN, none⟩ (enc x)).drew = w2 at S3 ⊢
          clear ea ec
          go_wp2
          go_roundg (i - 1 - (k + 1))
          case measure => omega
          case rel => exact ⟨k + 1, swp dk k (k + 1), rfl, by omega, by omega, by simp, rot_step_right HR.out hk (by omega), S3⟩
        · obtain rfl : k = i - 1 := by omega
          have hnn : decide (((i - 1 : Nat) : Int) < ((i - 1 : Nat) : Int)) = false := decide_eq_false (by omega)
          go_wp2_with fail
          refine bodyPost_ret (results_none rfl _ _ _) rfl ?_
          have hR := HR.out
          rw [show i - 1 + 1 = i by omega] at hR
          subst hm
          exact ⟨rfl, dk, permIn_mono d dk a i a b (Nat.le_refl _) (by omega) (by omega) (hR.perm (by omega) (by omega) (by omega)), ins_left HT.out (by omega) (by omega) HB.out HN.out hR, S2.out⟩
end Go.Proofs.Ytpaihfdmjkfegaa.Sta
