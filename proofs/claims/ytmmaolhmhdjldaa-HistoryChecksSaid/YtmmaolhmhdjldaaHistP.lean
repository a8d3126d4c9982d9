/- The program's Check of a history, walked. -/
import Derived.Test.YtmmaolhmhdjldaaHistR
import Derived.Test.YtmmaolhmhdjldaaMapF
namespace Go.Proofs.Ytmmaolhmhdjldaa.Hist
open Go.RowKit Go.Proofs.Ytmmaolhmhdjldaa.Cls Go.Proofs.Ytmmaolhmhdjldaa.MapF Go.Maps

/-- map[int]Id. -/
def idMap : MapTy Try.prog 3 Int (Int × Int) where
  kv a := .int .i64 a
  kl a := .int .i64 a
  ev p := .agg #[.int .i64 p.1, .int .i64 p.2]
  ed p := .agg [.lit (.int .i64 p.1), .lit (.int .i64 p.2)]
  ok a := (Lit.int .i64 a).wf = true
  law := int_keyed Try.underlying3
  hkey _ h := keyOf_int_mk Try.underlying3 h
  kinj _ _ h := by cases h; rfl
  einj a b h := by obtain ⟨a1, a2⟩ := a; obtain ⟨b1, b2⟩ := b; simp at h; obtain ⟨rfl, rfl⟩ := h; rfl
  vinj a b h := by obtain ⟨a1, a2⟩ := a; obtain ⟨b1, b2⟩ := b; simp at h; obtain ⟨rfl, rfl⟩ := h; rfl

theorem zero23 (w : World) : (zeroValue 23).run Try.prog w = .ok (idMap.ev (0, 0)) w := by kernel_rfl

def mapFn (X : Nat → AV) (k : Nat) : Int → Option (Int × Int) := fun cl => mapR X cl k

theorem mapFn_succ (X : Nat → AV) (k : Nat) (y : Int) : upd (mapFn X k) (X k).cl (some ((X k).n, (X k).c)) y = mapFn X (k + 1) y := by
  unfold upd
  simp only [mapFn, mapR]
  by_cases h : y = (X k).cl
  · rw [if_pos h, if_pos h.symm]
  · rw [if_neg h, if_neg (fun e => h e.symm)]

theorem allP_false {X : Nat → AV} {k n : Nat} (hk : k < n) (h : stepP X k = false) : allP X n = false := by
  induction n with
  | zero => omega
  | succ n ih =>
    unfold allP
    by_cases e : k = n
    · subst e; rw [h, Bool.and_false]
    · rw [ih (by omega), Bool.false_and]

/-- What a round holds. -/
structure TP (X : Nat → AV) (k mb : Nat) (w0 : World) (O : Nat) (x : AV) (O2 : Nat) (o : Option (Int × Int)) (v : World) : Prop where
  t : TR w0 O x v
  d0 : v.cell? ⟨O2, 0, none⟩ = some (.int .i64 (o.getD (0, 0)).1)
  d1 : v.cell? ⟨O2, 1, none⟩ = some (.int .i64 (o.getD (0, 0)).2)
  lt : O2 < v.heap.size
  m : IsF idMap v mb k (mapFn X k)
  mlt : mb < v.heap.size
  mo : mb < O

theorem TP.step {X : Nat → AV} {k mb : Nat} {w0 : World} {O : Nat} {x : AV} {O2 : Nat} {o : Option (Int × Int)} (w w' : World) (h : TP X k mb w0 O x O2 o w) (hb : Below w.heap.size w w') : TP X k mb w0 O x O2 o w' := by
  obtain ⟨t, d0, d1, lt, m, ml, mo⟩ := h
  exact ⟨t.step _ _ hb, by rw [hb.cell (p := ⟨O2, 0, none⟩) lt]; exact d0, by rw [hb.cell (p := ⟨O2, 1, none⟩) lt]; exact d1, Nat.lt_of_lt_of_le lt hb.size, m.below ml hb, Nat.lt_of_lt_of_le ml hb.size, mo⟩

theorem turned9 {X : Nat → AV} {k mb : Nat} {w0 : World} {O : Nat} {x : AV} {O2 : Nat} {o : Option (Int × Int)} {w w' : World} (h : TP X k mb w0 O x O2 o w) (ht : w.mapTurned w' mb) : w'.cell? ⟨O, 9, none⟩ = some (.int .i64 x.fr) := by
  rw [World.cell?_of_block (w := w) (ht.grown.block O h.t.lt (by intro e; cases e; have := h.mo; omega))]
  exact h.t.c9

/-- What the loop holds. -/
def RelP (X : Nat → AV) (n : Nat) (w : World) (mb g : Nat) (v4 v12 : Value) (wr : World) : Prop :=
  ∃ k : Nat, k + g = n ∧ v12 = .int .i64 k ∧ v4 = .int .i64 (frP X k) ∧ allP X k = true ∧ IsF idMap wr mb k (mapFn X k) ∧ Below w.heap.size w wr

/-- What the third test leaves. -/
def Cut3 (C : World → Prop) (S1 : Bool) (v : Value) (wx : World) : Prop :=
  ∃ b : Bool, v = .bool b ∧ C wx ∧ (b = false → S1 = true) ∧ (b = true → S1 = false)

/-! what each limb says -/
section
variable {cl call m c code stamp fr tt fp : Int} {key val : ByteArray} {found : Bool}
theorem p7 (h : decide (fr < fp) = true) : (baseB ⟨cl, call, m, c, key, val, found, code, stamp, fr, tt⟩ && decide (fp ≤ fr)) = false := by
  have := of_decide_eq_true h; rw [decide_eq_false (show ¬ fp ≤ fr by omega), Bool.and_false]
theorem p8 (h : decide (fr < fp) = false) : decide (fp ≤ fr) = true := by
  have := of_decide_eq_false h; exact decide_eq_true (by omega)
theorem chk {g : Bool} (h : g = false) : (if g then (0 : Int) else 2) = 2 := by rw [h]; rfl
theorem chk' {g : Bool} (h : g = true) : (if g then (0 : Int) else 2) = 0 := by rw [h]; rfl
end

set_option maxRecDepth 100000 in
set_option maxHeartbeats 8000000 in
theorem histCheck (X : Nat → AV) (ab ao n cap : Nat) (hn : n ≤ cap) (hc : cap ≤ 9223372036854775807) (h400 : n ≤ 400) (w : World) (hab : ab < w.heap.size) (hA : ActsAt w ⟨ab, ao, none⟩ n X) (hwf : ∀ i, i < n → (Lit.int .i64 (X i).cl).wf = true) :
    Calls Try.prog 39 #[.slice (some ⟨ab, ao, none⟩) n cap] w fun e w' => e = .returned (.int .i64 (if allP X n then 0 else 270)) ∧ Below w.heap.size w w' := by
  have HA := Lib.hid hA
  have HW := Lib.hid hwf
  clear hA hwf
  have HR : Hid (∀ k, k < n → stepP X k = false → (if allP X n then (0 : Int) else 270) = 270) := fun k hk h => by rw [allP_false hk h]; rfl
  have HR1 : Hid (allP X n = true → (if allP X n then (0 : Int) else 270) = 0) := fun h => by rw [h]; rfl
  generalize (if allP X n then (0 : Int) else 270) = R at *
  have hmm := @run_makeMap Try.prog
  have M0 : Hid (IsF idMap (w.alloc (.map #[] 0)) w.heap.size 0 (mapFn X 0)) := IsF.made w
  go_enter Try.func39, Try.ntmps39
  go_wp2
  go_loopg [4, 12] n (RelP X n w w.heap.size)
  case atStart => exact ⟨0, by omega, rfl, rfl, rfl, M0.out, (Below.refl _ _).alloc (Nat.le_refl _) _⟩
  case round =>
    clear M0
    obtain ⟨gk1, hgk⟩ : ∃ g, g = gk := ⟨_, rfl⟩
    rw [← hgk] at hrel
    obtain ⟨k, hk, rfl, rfl, hal, hm, hb⟩ := hrel
    have HGK := Lib.hid hgk
    clear hgk
    have AL := Lib.hid hal
    have ML := Lib.hid hm
    have BL := Lib.hid hb
    clear hal hm hb
    by_cases hl : k < n
    · have hC := (HA.out.act hab hl).below hab BL.out
      have hw : ab < wr.heap.size := hC.lt
      obtain ⟨_, c0, c1, c2, c3, c4, c5, c6, c7, c8, c9, c10⟩ := hC
      have hwk := HW.out k hl
      have ST : Hid (stepP X k = (baseB (X k) && decide (frP X k ≤ (X k).fr) && idB (mapR X (X k).cl k) (X k))) := rfl
      have LK : (Instr.lookup 145 (.map (some w.heap.size)) (.int .i64 (X k).cl) true).run Try.prog (wr.alloc (.cells #[.int .i64 (X k).cl, .int .i64 (X k).call, .int .i64 (X k).n, .int .i64 (X k).c, .string (X k).key, .string (X k).val, .bool (X k).found, .int .i64 (X k).code, .int .i64 (X k).stamp, .int .i64 (X k).fr, .int .i64 (X k).to] 61)) = .ok (.tuple #[.agg #[.int .i64 ((mapR X (X k).cl k).getD (0, 0)).1, .int .i64 ((mapR X (X k).cl k).getD (0, 0)).2], .bool (mapR X (X k).cl k).isSome]) (wr.alloc (.cells #[.int .i64 (X k).cl, .int .i64 (X k).call, .int .i64 (X k).n, .int .i64 (X k).c, .string (X k).key, .string (X k).val, .bool (X k).found, .int .i64 (X k).code, .int .i64 (X k).stamp, .int .i64 (X k).fr, .int .i64 (X k).to] 61)) :=
        IsF.look_ok (M := idMap) (ML.out.below ML.out.lt ((Below.refl _ _).alloc (Nat.le_refl _) _)) Try.underlying145 (zero23 _) (X k).cl hwk
      have FS : Hid (∀ y, upd (mapFn X k) (X k).cl (some ((X k).n, (X k).c)) y = mapFn X (k + 1) y) := mapFn_succ X k
      have FR : Hid (frP X (k + 1) = (X k).fr) := rfl
      generalize hx : X k = x at c0 c1 c2 c3 c4 c5 c6 c7 c8 c9 c10 ST LK FS FR hwk
      clear hx
      obtain ⟨cl, call, m, c, key, val, found, code, stamp, fr, tt⟩ := x
      simp only at c0 c1 c2 c3 c4 c5 c6 c7 c8 c9 c10 LK hwk
      have HWK := Lib.hid hwk
      clear hwk
      generalize mapR X cl k = o at *
      obtain ⟨fp, hfp⟩ : ∃ fp, fp = frP X k := ⟨_, rfl⟩
      rw [← hfp] at ST
      rw [← hfp]
      clear hfp
      obtain ⟨⟨qa, qb⟩, hq⟩ : ∃ q, q = o.getD (0, 0) := ⟨_, rfl⟩
      rw [← hq] at LK
      simp only at LK
      have al := BL.out.alloc BL.out.size (.cells #[.int .i64 cl, .int .i64 call, .int .i64 m, .int .i64 c, .string key, .string val, .bool found, .int .i64 code, .int .i64 stamp, .int .i64 fr, .int .i64 tt] 61)
      have T0 : Hid (TP X k w.heap.size w wr.heap.size ⟨cl, call, m, c, key, val, found, code, stamp, fr, tt⟩ (wr.heap.size + 1) o ((wr.alloc (.cells #[.int .i64 cl, .int .i64 call, .int .i64 m, .int .i64 c, .string key, .string val, .bool found, .int .i64 code, .int .i64 stamp, .int .i64 fr, .int .i64 tt] 61)).alloc (.cells #[.int .i64 qa, .int .i64 qb] 23))) := by
        refine ⟨?_, by rw [← hq]; simp [go_sem], by rw [← hq]; simp [go_sem], by simp, ML.out.below ML.out.lt (((Below.refl _ _).alloc (Nat.le_refl _) _).alloc (by simp) _), by have := ML.out.lt; simp; omega, ML.out.lt⟩
        exact ⟨by simp [go_sem], by simp [go_sem], by simp [go_sem], by simp [go_sem], by simp [go_sem], by simp [go_sem], by simp [go_sem], BL.out.size, by simp; omega, al.alloc (by have := BL.out.size; simp; omega) _⟩
      have HQ := Lib.hid hq
      clear al hq
      go_upto_region 7 with fail
      generalize hW : ((wr.alloc (.cells #[.int .i64 cl, .int .i64 call, .int .i64 m, .int .i64 c, .string key, .string val, .bool found, .int .i64 code, .int .i64 stamp, .int .i64 fr, .int .i64 tt] 61)).alloc (.cells #[.int .i64 qa, .int .i64 qb] 23)) = wa at *
      clear hW LK c0 c1 c2 c3 c4 c5 c6 c7 c8 c9 c10
      generalize hO2 : wr.heap.size + 1 = O2 at *
      have hOO : wr.heap.size < O2 := by omega
      clear hO2
      generalize wr.heap.size = O at *
      obtain ⟨C, hCd⟩ : ∃ C : World → Prop, C = TP X k w.heap.size w O ⟨cl, call, m, c, key, val, found, code, stamp, fr, tt⟩ O2 o := ⟨_, rfl⟩
      have TC : Hid (∀ v, C v → TP X k w.heap.size w O ⟨cl, call, m, c, key, val, found, code, stamp, fr, tt⟩ O2 o v) := by rw [hCd]; exact fun _ h => h
      have KC : Hid (∀ w w', C w → Below w.heap.size w w' → C w') := by rw [hCd]; exact TP.step
      have C0 : Hid (C wa) := by rw [hCd]; exact T0.out
      clear hCd T0
      have l0 := (TC.out _ C0.out).t.c0
      have l1 := (TC.out _ C0.out).t.c1
      have l2 := (TC.out _ C0.out).t.c2
      have l3 := (TC.out _ C0.out).t.c3
      have l7 := (TC.out _ C0.out).t.c7
      have l9 := (TC.out _ C0.out).t.c9
      have l10 := (TC.out _ C0.out).t.c10
      have d0 := (TC.out _ C0.out).d0
      have d1 := (TC.out _ C0.out).d1
      have lO := (TC.out _ C0.out).t.lt
      have lO2 := (TC.out _ C0.out).lt
      rw [← HQ.out] at d0 d1
      simp only at l0 l1 l2 l3 l7 l9 l10 d0 d1
      obtain ⟨gd, hgd⟩ : ∃ gd, gd = good m c := ⟨_, rfl⟩
      have CH : Hid (∀ w, Calls Try.prog 24 #[.agg #[.int .i64 m, .int .i64 c]] w fun e w' => e = .returned (.int .i64 (if gd then 0 else 2)) ∧ Below w.heap.size w w') := by rw [hgd]; exact check_any m c
      have HG := Lib.hid hgd
      clear hgd
      cases h1 : decide (cl < 0) with
      | true =>
        have HR' : Hid (R = 270) := HR.out k hl (by rw [ST.out, f1 h1]; rfl)
        go_wp2_with fail
        go_ret
        exact ⟨by rw [HR'.out]; rfl, (TC.out _ C0.out).t.bel⟩
      | false =>
        cases h2 : decide (16 ≤ cl) with
        | true =>
          have HR' : Hid (R = 270) := HR.out k hl (by rw [ST.out, f2 h2]; rfl)
          go_wp2_with fail
          go_ret
          exact ⟨by rw [HR'.out]; rfl, (TC.out _ C0.out).t.bel⟩
        | false =>
          cases h3 : decide (call < 1) with
          | true =>
            have HR' : Hid (R = 270) := HR.out k hl (by rw [ST.out, f3 h3]; rfl)
            go_wp2_with fail
            go_ret
            exact ⟨by rw [HR'.out]; rfl, (TC.out _ C0.out).t.bel⟩
          | false =>
            cases h4 : decide (6 < call) with
            | true =>
              have HR' : Hid (R = 270) := HR.out k hl (by rw [ST.out, f4 h4]; rfl)
              go_wp2_with fail
              go_ret
              exact ⟨by rw [HR'.out]; rfl, (TC.out _ C0.out).t.bel⟩
            | false =>
              cases h5 : gd with
              | false =>
                have HR' : Hid (R = 270) := HR.out k hl (by rw [ST.out, f5 (HG.out.symm.trans h5)]; rfl)
                go_wp2_with (go_at_call 24; refine (CH.out _).mono ?_; rintro e w1 ⟨rfl, hb1⟩; obtain ⟨hc1, hf1⟩ := bcell hb1; have C1 := KC.out _ _ C0.out hb1)
                go_ret
                exact ⟨by rw [HR'.out]; rfl, (TC.out _ C1).t.bel⟩
              | true =>
                cases h6 : (c != cl) with
                | true =>
                  have HR' : Hid (R = 270) := HR.out k hl (by rw [ST.out, f6 h6]; rfl)
                  go_wp2_with (go_at_call 24; refine (CH.out _).mono ?_; rintro e w1 ⟨rfl, hb1⟩; obtain ⟨hc1, hf1⟩ := bcell hb1; have C1 := KC.out _ _ C0.out hb1)
                  go_ret
                  exact ⟨by rw [HR'.out]; rfl, (TC.out _ C1).t.bel⟩
                | false =>
                  go_upto_region 11 with (go_at_call 24; refine (CH.out _).mono ?_; rintro e w1 ⟨rfl, hb1⟩; obtain ⟨hc1, hf1⟩ := bcell hb1; have C1 := KC.out _ _ C0.out hb1)
                  clear l0 l1 l2 l3 l7 l9 l10 d0 d1 lO lO2 hc1 hf1 hb1
                  have C0' := Lib.hid C1
                  clear C0 C1
                  have C0 := C0'
                  clear C0'
                  have l0 := (TC.out _ C0.out).t.c0
                  have l1 := (TC.out _ C0.out).t.c1
                  have l2 := (TC.out _ C0.out).t.c2
                  have l3 := (TC.out _ C0.out).t.c3
                  have l7 := (TC.out _ C0.out).t.c7
                  have l9 := (TC.out _ C0.out).t.c9
                  have l10 := (TC.out _ C0.out).t.c10
                  have d0 := (TC.out _ C0.out).d0
                  have d1 := (TC.out _ C0.out).d1
                  have lO := (TC.out _ C0.out).t.lt
                  have lO2 := (TC.out _ C0.out).lt
                  rw [← HQ.out] at d0 d1
                  simp only at l0 l1 l2 l3 l7 l9 l10 d0 d1
                  go_cut [55] from 13 to 124 (Cut3 C (baseB ⟨cl, call, m, c, key, val, found, code, stamp, fr, tt⟩ && decide (fp ≤ fr)))
                  case first =>
                    as_aux_lemma =>
                    cases h7 : decide (fr < fp) with
                    | true =>
                      go_wp2_with fail
                      go_meet
                      exact ⟨true, rfl, C0.out, (fun h => by cases h), (fun _ => by exact p7 h7)⟩
                    | false =>
                      cases h9 : decide (tt < -1) with
                      | true =>
                        go_wp2_with fail
                        go_meet
                        exact ⟨true, rfl, C0.out, (fun h => by cases h), (fun _ => by rw [f9 h9]; rfl)⟩
                      | false =>
                        cases h10 : decide (0 ≤ tt) with
                        | true =>
                          cases h11 : decide (tt < fr) with
                          | true =>
                            go_wp2_with fail
                            go_meet
                            exact ⟨true, rfl, C0.out, (fun h => by cases h), (fun _ => by rw [f11 h10 h11]; rfl)⟩
                          | false =>
                            go_wp2_with fail
                            go_meet
                            exact ⟨false, rfl, C0.out, (fun _ => by rw [pb1 h1 h2 h3 h4 (HG.out.symm.trans h5) h6 h9 h10 h11, p8 h7]; rfl), (fun h => by cases h)⟩
                        | false =>
                          go_wp2_with fail
                          go_meet
                          exact ⟨false, rfl, C0.out, (fun _ => by rw [pb0 h1 h2 h3 h4 (HG.out.symm.trans h5) h6 h9 h10, p8 h7]; rfl), (fun h => by cases h)⟩
                  case rest =>
                    obtain ⟨b, rfl, hC, hS1, hS0⟩ := hcut
                    have C0' := Lib.hid hC
                    have HS1 := Lib.hid hS1
                    have HS0 := Lib.hid hS0
                    clear hC hS1 hS0 C0 l0 l1 l2 l3 l7 l9 l10 d0 d1 lO lO2
                    have C0 := C0'
                    clear C0'
                    have l0 := (TC.out _ C0.out).t.c0
                    have l1 := (TC.out _ C0.out).t.c1
                    have l2 := (TC.out _ C0.out).t.c2
                    have l3 := (TC.out _ C0.out).t.c3
                    have l7 := (TC.out _ C0.out).t.c7
                    have l9 := (TC.out _ C0.out).t.c9
                    have l10 := (TC.out _ C0.out).t.c10
                    have d0 := (TC.out _ C0.out).d0
                    have d1 := (TC.out _ C0.out).d1
                    have lO := (TC.out _ C0.out).t.lt
                    have lO2 := (TC.out _ C0.out).lt
                    rw [← HQ.out] at d0 d1
                    simp only at l0 l1 l2 l3 l7 l9 l10 d0 d1
                    have HM : Hid (∀ v, C v → IsF idMap v w.heap.size k (mapFn X k)) := fun v hv => (TC.out v hv).m
                    cases b with
                    | true =>
                      have HR' : Hid (R = 270) := HR.out k hl (by rw [ST.out, HS0.out rfl]; rfl)
                      go_wp2_with fail
                      go_ret
                      exact ⟨by rw [HR'.out]; rfl, (TC.out _ C0.out).t.bel⟩
                    | false =>
                      have HS := Lib.hid (HS1.out rfl)
                      clear HS1 HS0
                      clear h1 h2 h3 h4 h6
                      obtain ⟨cp, hcp⟩ : ∃ cp, cp = ageCmp qa qb m c := ⟨_, rfl⟩
                      have RC : Hid (∀ w, Calls Try.prog 28 #[.agg #[.int .i64 qa, .int .i64 qb], .agg #[.int .i64 m, .int .i64 c]] w fun e w' => e = .returned (.int .i64 cp) ∧ Below w.heap.size w w') := by rw [hcp]; exact cmp_any qa qb m c
                      have HCP := Lib.hid hcp
                      clear hcp
                      have KC2 := KC
                      cases ec : (call == 1) with
                      | true =>
                        have ec' : (call != 1) = false := by rw [bne, ec]; rfl
                        cases e1 : (tt != fr) with
                        | true =>
                          have HR' : Hid (R = 270) := HR.out k hl (by rw [ST.out, HS.out, i1 ec e1]; rfl)
                          go_wp2_with fail
                          go_ret
                          exact ⟨by rw [HR'.out]; rfl, (TC.out _ C0.out).t.bel⟩
                        | false =>
                          cases e2 : (code != 0) with
                          | true =>
                            have HR' : Hid (R = 270) := HR.out k hl (by rw [ST.out, HS.out, i2 ec e2]; rfl)
                            go_wp2_with fail
                            go_ret
                            exact ⟨by rw [HR'.out]; rfl, (TC.out _ C0.out).t.bel⟩
                          | false =>
                            cases o with
                            | none =>
                              as_aux_lemma =>
                              simp only [Option.isSome_none]
                              have HT' : Hid (stepP X k = true) := by rw [ST.out, HS.out, i3 ec e1 e2]; rfl
                              go_wp2_with (at_mapUpdate; refine wpList_storeF idMap _ rfl _ _ _ 145 rfl 23 Try.underlying145 w.heap.size k (mapFn X k) rfl (HM.out _ C0.out) (by unfold maxLen; omega) cl HWK.out (m, c) rfl rfl ?_; intro w2 hm2 ht2; have k9 := turned9 (TC.out _ C0.out) ht2; simp only at k9)
                              go_roundg (gk1 - 1)
                              case measure => have := HGK.out; omega
                              case rel => exact ⟨k + 1, by omega, by go_num, by rw [FR.out], by show (allP X k && stepP X k) = true; rw [AL.out, HT'.out]; rfl, hm2.congr (fun y _ => FS.out y), ((TC.out _ C0.out).t.bel).grown ht2.grown ((TC.out _ C0.out).t.bel).size (fun j hj => by cases hj; exact Nat.le_refl _)⟩
                            | some q =>
                              simp only [Option.isSome_some]
                              cases e3 : decide (0 ≤ cp) with
                              | true =>
                                have HR' : Hid (R = 270) := HR.out k hl (by rw [ST.out, HS.out, i4 ec (show q = (qa, qb) from HQ.out.symm) (HCP.out ▸ e3)]; rfl)
                                go_wp2_with (go_at_call 28; refine (RC.out _).mono ?_; rintro e w1 ⟨rfl, hb1⟩; obtain ⟨hc1, hf1⟩ := bcell hb1; have C1 := KC2.out _ _ C0.out hb1)
                                go_ret
                                exact ⟨by rw [HR'.out]; rfl, (TC.out _ C1).t.bel⟩
                              | false =>
                                as_aux_lemma =>
                                have HT' : Hid (stepP X k = true) := by rw [ST.out, HS.out, i5 ec e1 e2 (show q = (qa, qb) from HQ.out.symm) (HCP.out ▸ e3)]; rfl
                                go_wp2_with (first | (go_at_call 28; refine (RC.out _).mono ?_; rintro e w1 ⟨rfl, hb1⟩; obtain ⟨hc1, hf1⟩ := bcell hb1; have C1 := KC2.out _ _ C0.out hb1) | (at_mapUpdate; refine wpList_storeF idMap _ rfl _ _ _ 145 rfl 23 Try.underlying145 w.heap.size k (mapFn X k) rfl (HM.out _ (by assumption)) (by unfold maxLen; omega) cl HWK.out (m, c) rfl rfl ?_; intro w2 hm2 ht2; have k9 := turned9 (TC.out _ (by assumption)) ht2; simp only at k9))
                                go_roundg (gk1 - 1)
                                case measure => have := HGK.out; omega
                                case rel => exact ⟨k + 1, by omega, by go_num, by rw [FR.out], by show (allP X k && stepP X k) = true; rw [AL.out, HT'.out]; rfl, hm2.congr (fun y _ => FS.out y), ((TC.out _ C1).t.bel).grown ht2.grown ((TC.out _ C1).t.bel).size (fun j hj => by cases hj; exact Nat.le_refl _)⟩
                      | false =>
                        have ec' : (call != 1) = true := by rw [bne, ec]; rfl
                        cases o with
                        | none =>
                          simp only [Option.isSome_none]
                          have HR' : Hid (R = 270) := HR.out k hl (by rw [ST.out, HS.out, i6 ec]; rfl)
                          go_wp2_with fail
                          go_ret
                          exact ⟨by rw [HR'.out]; rfl, (TC.out _ C0.out).t.bel⟩
                        | some q =>
                          simp only [Option.isSome_some]
                          by_cases q1 : qa = m
                          · by_cases q2 : qb = c
                            · have Q1 := Lib.hid q1
                              have Q2 := Lib.hid q2
                              have HT' : Hid (stepP X k = true) := by rw [ST.out, HS.out, i7 ec (show q = (qa, qb) from HQ.out.symm) Q1.out Q2.out]; rfl
                              go_wp2_with (at_mapUpdate; refine wpList_storeF idMap _ rfl _ _ _ 145 rfl 23 Try.underlying145 w.heap.size k (mapFn X k) rfl (HM.out _ C0.out) (by unfold maxLen; omega) cl HWK.out (m, c) rfl rfl ?_; intro w2 hm2 ht2; have k9 := turned9 (TC.out _ C0.out) ht2; simp only at k9)
                              go_roundg (gk1 - 1)
                              case measure => have := HGK.out; omega
                              case rel => exact ⟨k + 1, by omega, by go_num, by rw [FR.out], by show (allP X k && stepP X k) = true; rw [AL.out, HT'.out]; rfl, hm2.congr (fun y _ => FS.out y), ((TC.out _ C0.out).t.bel).grown ht2.grown ((TC.out _ C0.out).t.bel).size (fun j hj => by cases hj; exact Nat.le_refl _)⟩
                            · have Q2 := Lib.hid q2
                              have HR' : Hid (R = 270) := HR.out k hl (by rw [ST.out, HS.out, i8 ec (show q = (qa, qb) from HQ.out.symm) Q2.out]; rfl)
                              go_wp2_with fail
                              go_ret
                              exact ⟨by rw [HR'.out]; rfl, (TC.out _ C0.out).t.bel⟩
                          · have Q1 := Lib.hid q1
                            have HR' : Hid (R = 270) := HR.out k hl (by rw [ST.out, HS.out, i9 ec (show q = (qa, qb) from HQ.out.symm) Q1.out]; rfl)
                            go_wp2_with fail
                            go_ret
                            exact ⟨by rw [HR'.out]; rfl, (TC.out _ C0.out).t.bel⟩
    · obtain rfl : k = n := by omega
      have HR' : Hid (R = 0) := HR1.out AL.out
      go_wp2_with fail
      go_ret
      exact ⟨by rw [HR'.out]; rfl, BL.out⟩
end Go.Proofs.Ytmmaolhmhdjldaa.Hist
