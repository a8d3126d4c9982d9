/- script.look, walked. -/
import Derived.Test.YtpfebfckolbnmaaDoorScI
import Derived.Test.YtpfebfckolbnmaaDoorCkD
import Derived.Test.YtpfebfckolbnmaaDoorCkH
namespace Go.Proofs.YtpfebfckolbnmaaDoor.Sc
open Go.RowKit Go.Lib Go.Proofs.YtpfebfckolbnmaaDoor.Sta Go.Proofs.YtpfebfckolbnmaaDoor.Rd Go.Proofs.YtpfebfckolbnmaaDoor.Cls Go.Proofs.YtpfebfckolbnmaaDoor.Far
open Go.Proofs.YtpfebfckolbnmaaDoor.Ck (RowIn sV CfgAt cfgV)

/-- A script's value. -/
def scrV (G F C S : Int) (v3 v4 v6 : Value) : Value := .agg #[.int .i64 G, .int .i64 F, .int .i64 C, v3, v4, .int .i64 S, v6]

/-- What script.look's loop holds. -/
structure LkAt (w0 : World) (A : Option Addr) (l : List Stp) (v : World) : Prop where
  below : Below w0.heap.size w0 v
  forms : FormsAt v
  steps : StepsIn v w0.heap.size A l
theorem LkAt.next {w0 v v' : World} {A : Option Addr} {l : List Stp} (h : LkAt w0 A l v) (hb : Below v.heap.size v v') : LkAt w0 A l v' :=
  ⟨h.below.trans (hb.mono h.below.size), h.forms.below hb, h.steps.below (hb.mono h.below.size)⟩

set_option maxRecDepth 100000 in
set_option maxHeartbeats 6400000 in
theorem look_any (G F C S : Int) (sp : List ByteArray) (pl : List Int) (l : List Stp) (A1 A2 A3 : Option Addr) (c1 c2 c3 : Nat) (w : World) (h1 : RowIn w w.heap.size A1 (sp.map sV)) (h2 : IntsIn w w.heap.size A2 pl) (h3 : StepsIn w w.heap.size A3 l) (hm : l.length ≤ maxLen) (hF : FormsAt w) :
    Calls Tryd.prog 12 #[scrV G F C S (.slice A1 sp.length c1) (.slice A2 pl.length c2) (.slice A3 l.length c3)] w (LookP w (faultF (Ck.chk G F C S sp pl) l)) := by
  have CK := Lib.hid (fun v (hb : Below w.heap.size w v) => Ck.check_any G F C S sp pl A1 A2 c1 c2 v ((h1.below hb).more hb.size) ((h2.below hb).more hb.size))
  obtain ⟨E, hE⟩ : ∃ E, E = Ck.chk G F C S sp pl := ⟨_, rfl⟩
  rw [← hE] at CK ⊢
  have B0 : Hid (Below w.heap.size w (w.alloc (.cells #[.int .i64 G, .int .i64 F, .int .i64 C, .slice A1 sp.length c1, .slice A2 pl.length c2, .int .i64 S, .slice A3 l.length c3] 28))) := Lib.hid ((Below.refl _ _).alloc (Nat.le_refl _) _)
  have C6 : Hid ((w.alloc (.cells #[.int .i64 G, .int .i64 F, .int .i64 C, .slice A1 sp.length c1, .slice A2 pl.length c2, .int .i64 S, .slice A3 l.length c3] 28)).cell? ⟨w.heap.size, 6, none⟩ = some (.slice A3 l.length c3)) := Lib.hid (by simp [go_sem])
  have Z0 : Hid ((w.alloc (.cells #[.int .i64 G, .int .i64 F, .int .i64 C, .slice A1 sp.length c1, .slice A2 pl.length c2, .int .i64 S, .slice A3 l.length c3] 28)).heap.size = w.heap.size + 1) := Lib.hid (by simp)
  have L0 : Hid (∀ v, Below w.heap.size w v → LkAt w A3 l v) := Lib.hid (fun v hb => ⟨hb, hF.below hb, h3.below hb⟩)
  obtain ⟨r, hr⟩ : ∃ r, faultF E l = r := ⟨_, rfl⟩
  rw [hr]
  have HR := Lib.hid hr
  unfold maxLen at hm
  clear h1 h2 h3 hF hE hr
  unfold scrV
  obtain ⟨n, hn⟩ : ∃ n, n = l.length := ⟨_, rfl⟩
  rw [← hn] at B0 C6 Z0 hm ⊢
  have HN := Lib.hid hn
  clear hn
  go_enter Tryd.func12, Tryd.ntmps12
  go_wp2_with fail
  refine (CK.out _ B0.out).mono ?_
  rintro e w1 ⟨rfl, hb⟩
  have B1 : Hid (Below w.heap.size w w1) := Lib.hid (B0.out.trans (hb.mono B0.out.size))
  have c6 : w1.cell? ⟨w.heap.size, 6, none⟩ = some (.slice A3 n c3) := (hb.cell (p := ⟨w.heap.size, 6, none⟩) (by rw [Z0.out]; exact Nat.lt_succ_self _)).trans C6.out
  clear hb B0 C6 Z0 CK
  by_cases hE : E = 0
  · subst hE
    by_cases hl : 4096 < n
    · have hl' : (4096 : Int) < (n : Int) := by omega
      have er : r = (-1, 9) := by rw [← HR.out]; unfold faultF; rw [if_neg (by simp), if_pos (by rw [← HN.out]; exact hl)]
      have HER := Lib.hid er
      clear er hl
      go_wp2_with fail
      refine (fault_any _ _ _).mono ?_
      rintro e w2 ⟨rfl, rfl⟩
      clear c6
      go_wp2_with fail
      go_ret
      have h := LookP.yes (r := r) B1.out (by rw [HER.out]; decide)
      rw [HER.out] at h
      rw [HER.out]
      exact h
    · have hl' : ¬ (4096 : Int) < (n : Int) := by omega
      have er : badF 0 l = r := by rw [← HR.out]; unfold faultF; rw [if_neg (by simp), if_neg (by rw [← HN.out]; exact hl)]
      have HER := Lib.hid er
      have L1 : Hid (LkAt w A3 l w1) := Lib.hid (L0.out _ B1.out)
      clear er hl
      go_wp2_with fail
      clear c6 hl'
      go_loopg [22] n (fun gk v22 wr => ∃ i : Nat, n - i = gk ∧ i ≤ n ∧ v22 = .int .i64 i ∧ Hid (LkAt w A3 l wr) ∧ Hid (badF i (l.drop i) = r))
      case atStart => exact ⟨0, rfl, by omega, rfl, L1, HER⟩
      case round =>
        obtain ⟨i, hg, hi, rfl, HK, HF⟩ := hrel
        by_cases hlt : i < n
        · have hlt' : (i : Int) < (n : Int) := by omega
          obtain ⟨s, hs⟩ : ∃ s, l[i]? = some s := ⟨_, List.getElem?_eq_getElem (by rw [← HN.out]; exact hlt)⟩
          obtain ⟨b, o, hA, hB, hc⟩ := HK.out.steps (by rw [← HN.out]; omega)
          subst hA
          obtain ⟨a0, a1, a2, a3, a4, a5, a6, a7⟩ := hc i s hs
          clear hc
          have WA : Hid (∀ v, FormsAt v → Calls Tryd.prog 20 #[.agg #[.int .i64 s.kind, .int .i64 s.client, .int .i64 s.group, .int .i64 s.node, .string s.key, .string s.val, .int .i64 s.n, .int .i64 s.cut]] v fun e w' => e = .returned (.int .i64 (wrongE s)) ∧ Below v.heap.size v w') := Lib.hid (fun v hv => wrong_any s v hv)
          have FN : Hid (∀ v, Below wr.heap.size wr v → FormsAt v) := Lib.hid (fun v hb => HK.out.forms.below hb)
          have HS := Lib.hid hs
          clear hs
          go_wp2_with fail
          refine (WA.out _ (FN.out _ ((Below.refl _ _).alloc (Nat.le_refl _) _))).mono ?_
          rintro e w2 ⟨rfl, hb⟩
          have LN : Hid (LkAt w (some ⟨b, o, none⟩) l w2) := Lib.hid (HK.out.next (((Below.refl _ _).alloc (Nat.le_refl _) _).trans (hb.mono (by simp))))
          clear hb a0 a1 a2 a3 a4 a5 a6 a7 WA FN
          by_cases hw : wrongE s = 0
          · have HW := Lib.hid hw
            rw [hw]
            clear hw
            go_wp2_with fail
            go_roundg (n - (i + 1))
            case measure => omega
            case rel => exact ⟨i + 1, rfl, by omega, by go_num, LN, Lib.hid (bad_on HS.out HW.out HF.out)⟩
          · have HW := Lib.hid hw
            have er : r = ((i : Int), wrongE s) := bad_hit HS.out hw HF.out
            have HE2 := Lib.hid er
            obtain ⟨e, he⟩ : ∃ e, wrongE s = e := ⟨_, rfl⟩
            rw [he] at hw ⊢
            have HE := Lib.hid he
            have hw1 : (e == 0) = false := beq_eq_false_iff_ne.2 hw
            have hw2 : (e != 0) = true := bne_iff_ne.2 hw
            clear er he hw
            go_wp2_with fail
            refine (fault_any _ _ _).mono ?_
            rintro e w3 ⟨rfl, rfl⟩
            go_wp2_with fail
            go_ret
            have h := LookP.yes (r := r) LN.out.below (by rw [HE2.out]; exact HW.out)
            rw [HE2.out, HE.out] at h
            rw [HE2.out, HE.out]
            exact h
        · obtain rfl : i = n := by omega
          have er : r = (0, 0) := bad_end (by rw [← HN.out]; exact Nat.le_refl _) HF.out
          have HE := Lib.hid er
          have hnn : decide ((i : Int) < (i : Int)) = false := decide_eq_false (by omega)
          clear er
          go_wp2_with fail
          go_ret
          exact LookP.no HK.out.below HE.out
  · have hw1 : (E == 0) = false := beq_eq_false_iff_ne.2 hE
    have hw2 : (E != 0) = true := bne_iff_ne.2 hE
    have er : r = (-1, E) := by rw [← HR.out]; unfold faultF; rw [if_pos hE]
    have HER := Lib.hid er
    have HE := Lib.hid hE
    clear er c6 hE
    go_wp2_with fail
    refine (fault_any _ _ _).mono ?_
    rintro e w2 ⟨rfl, rfl⟩
    go_wp2_with fail
    go_ret
    have h := LookP.yes (r := r) B1.out (by rw [HER.out]; exact HE.out)
    rw [HER.out] at h
    rw [HER.out]
    exact h
end Go.Proofs.YtpfebfckolbnmaaDoor.Sc
