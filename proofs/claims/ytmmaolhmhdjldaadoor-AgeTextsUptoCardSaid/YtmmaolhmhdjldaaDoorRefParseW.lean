/- The document's Parse, walked. -/
import Derived.Test.YtmmaolhmhdjldaaDoorRefTW
namespace Go.Proofs.YtmmaolhmhdjldaaDoor.RefTW
open Go.RowKit Go.Proofs.YtmmaolhmhdjldaaDoor.NT Go.Proofs.YtmmaolhmhdjldaaDoor.AgeW Go.Proofs.YtmmaolhmhdjldaaDoor.RefPW

theorem pw_any (s : ByteArray) (hs : s.size < 9223372036854775808) (w : World) :
    Calls Tryd.prog 26 #[.string s] w fun e w' => e = .returned (.tuple #[.int .i64 (pv s.data.toList), .bool (parse s.data.toList).isSome]) ∧ Below w.heap.size w w' :=
  (PAgeTexts.bursarref02_ParseWhole.calls (s.size + 5) s _ _ w (f_eq s hs _ (Nat.le_refl _))).mono fun _ _ ⟨h1, h2⟩ => ⟨h1, h2.below⟩

theorem refgood_any (n c : Int) (w : World) :
    Calls Tryd.prog 27 #[.agg #[.int .i64 n, .int .i64 c]] w fun e w' => e = .returned (.bool (good n c)) ∧ Below w.heap.size w w' := by
  refine PAgeTexts.bursarref02_Good.calls n c _ w ?_
  unfold PAgeTexts.bursarref02_Good.f good
  by_cases h1 : 1 ≤ n <;> by_cases h2 : n ≤ 1099511627776 <;> by_cases h3 : 0 ≤ c <;> simp [h1, h2, h3]

/-- No point before place k. -/
def NoDot (s : ByteArray) (k : Nat) : Prop := ∀ c ∈ s.data.toList.take k, c ≠ 46

theorem NoDot.succ {s : ByteArray} {k : Nat} (h : NoDot s k) (_hk : k < s.size) (hc : s[k] ≠ 46) : NoDot s (k + 1) := by
  intro c hm
  have hk' : k < s.data.toList.length := by rw [← Lib.size_eq]; exact _hk
  rw [List.take_succ_eq_append_getElem hk'] at hm
  rcases List.mem_append.1 hm with h1 | h1
  · exact h c h1
  · simp only [List.mem_singleton] at h1
    subst h1
    exact hc

theorem get_list {s : ByteArray} {k : Nat} (_hk : k < s.size) (hk' : k < s.data.toList.length) : s.data.toList[k] = s[k] := rfl

theorem cut_dot {s : ByteArray} {k : Nat} (h : NoDot s k) (hk : k < s.size) (hc : s[k] = 46) : Lib.cut s.data.toList [46] = (s.data.toList.take k, s.data.toList.drop (k + 1), true) := by
  have hk' : k < s.data.toList.length := by rw [← Lib.size_eq]; exact hk
  have e : s.data.toList.take k ++ 46 :: s.data.toList.drop (k + 1) = s.data.toList := by
    have h1 := List.take_append_drop k s.data.toList
    rw [List.drop_eq_getElem_cons hk', get_list hk hk', hc] at h1
    exact h1
  have := cut_go (s.data.toList.take k) (s.data.toList.drop (k + 1)) h
  rw [e] at this
  exact this

theorem index_none : ∀ l : List UInt8, (∀ c ∈ l, c ≠ 46) → Lib.index l [46] = -1 := by
  intro l
  induction l with
  | nil => intro _; rfl
  | cons c l ih =>
    intro h
    have h0 : c ≠ 46 := h c (by simp)
    have h1 := ih (fun x hx => h x (by simp [hx]))
    have h2 : ((46 : UInt8) == c) = false := by rw [beq_eq_false_iff_ne]; exact fun e => h0 e.symm
    unfold Lib.index
    rw [h1]
    simp [List.isPrefixOf, h2]

theorem cut_none {s : ByteArray} (h : NoDot s s.size) : Lib.cut s.data.toList [46] = (s.data.toList, [], false) := by
  have e : s.data.toList.take s.size = s.data.toList := List.take_of_length_le (by rw [← Lib.size_eq]; exact Nat.le_refl _)
  unfold NoDot at h
  rw [e] at h
  unfold Lib.cut
  rw [index_none _ h, if_neg (by decide)]

theorem pv_val {l : List UInt8} (h : (parse l).isSome = true) : numVal l = pv l := by
  obtain ⟨v, hv⟩ := Option.isSome_iff_exists.1 h
  rw [parse_val hv]
  unfold pv
  rw [hv]

theorem ans_none {l a b : List UInt8} (h : Lib.cut l [46] = (a, b, false)) : ansN l = 0 ∧ ansC l = 0 ∧ ansE l = 3 := by
  unfold ansN ansC ansE ansB twoB
  rw [h]
  simp

theorem ans_pv {l a b : List UInt8} (h : Lib.cut l [46] = (a, b, true)) (p q g : Bool) (hp : (parse a).isSome = p) (hq : (parse b).isSome = q) (hg : good (pv a) (pv b) = g) :
    ansN l = (if p && q && g then pv a else 0) ∧ ansC l = (if p && q && g then pv b else 0) ∧ ansE l = (if p && q then (if g then 0 else 2) else 3) := by
  unfold ansN ansC ansE ansB twoB fstN sndN
  rw [h]
  simp only [Bool.true_and]
  rw [hp, hq]
  cases p with
  | false => simp
  | true =>
    cases q with
    | false => simp
    | true =>
      rw [pv_val hp, pv_val hq, hg]
      simp

set_option maxRecDepth 100000 in
set_option maxHeartbeats 1600000 in
theorem refparse_any (s : ByteArray) (hs : s.size < 4294967281) (w : World) :
    Calls Tryd.prog 13 #[.string s] w fun e w' => e = .returned (.tuple #[.agg #[.int .i64 (ansN s.data.toList), .int .i64 (ansC s.data.toList)], .int .i64 (ansE s.data.toList)]) ∧ Below w.heap.size w w' := by
  have R0 := Lib.hid (Own2.new w 0 0 23)
  go_enter Tryd.func13, Tryd.ntmps13
  go_wp2
  go_loop [4] (fun v4 => ∃ k : Nat, k ≤ s.size ∧ v4 = .int .i64 k ∧ NoDot s k) (fun v4 => s.size - (intOf v4).toNat)
  case atStart => exact ⟨0, by omega, rfl, fun c hc => by simp at hc⟩
  case round =>
    obtain ⟨k, hk, rfl, hnd⟩ := hrel
    have ND := Lib.hid hnd
    clear hnd
    by_cases hl : k < s.size
    · by_cases hc : s[k] = 46
      · have HC := Lib.hid hc
        have hc' : ((s[k].toNat : Int)) = 46 := by rw [hc]; rfl
        clear hc
        have e1 : (s.extract 0 k).data.toList = s.data.toList.take k := by rw [Lib.extract_data]; simp
        have e2 : (s.extract (k + 1) s.size).data.toList = s.data.toList.drop (k + 1) := by
          rw [Lib.extract_data]
          exact List.take_of_length_le (by rw [List.length_drop, ← Lib.size_eq]; exact Nat.le_refl _)
        have P1 := pw_any (s.extract 0 k) (by rw [Lib.size_eq, e1]; simp; omega)
        have P2 := pw_any (s.extract (k + 1) s.size) (by rw [Lib.size_eq, e2]; simp; omega)
        rw [e1] at P1
        rw [e2] at P2
        have A := ans_pv (cut_dot ND.out hl HC.out) _ _ _ rfl rfl rfl
        have G := refgood_any (pv (s.data.toList.take k)) (pv (s.data.toList.drop (k + 1)))
        generalize (parse (s.data.toList.take k)).isSome = p at P1 A
        generalize (parse (s.data.toList.drop (k + 1))).isSome = q at P2 A
        generalize good (pv (s.data.toList.take k)) (pv (s.data.toList.drop (k + 1))) = g at G A
        generalize pv (s.data.toList.take k) = x at P1 G A
        generalize pv (s.data.toList.drop (k + 1)) = y at P2 G A
        have HA := Lib.hid A
        have Q1 := Lib.hid P1
        have Q2 := Lib.hid P2
        have HG := Lib.hid G
        clear A P1 P2 G e1 e2
        go_wp2_with fail
        refine (Q1.out _).mono ?_
        rintro e w1 ⟨rfl, hb1⟩
        have B1 := Lib.hid (bstep ((Below.refl w.heap.size w).alloc (Nat.le_refl _) _) hb1)
        have R1 := Lib.hid (R0.out.below hb1)
        clear hb1
        go_wp2_with fail
        refine (Q2.out _).mono ?_
        rintro e w2 ⟨rfl, hb2⟩
        have B2 := Lib.hid (bstep B1.out hb2)
        have R2 := Lib.hid (R1.out.below hb2)
        clear hb2 B1 R1
        have d0 := R2.out.two.c0
        have d1 := R2.out.two.c1
        have dl := R2.out.two.lt
        have f0 := R2.out.f0
        have f1 := R2.out.f1
        cases p <;> cases q
        case false.false =>
          go_wp2
          exact bodyPost_ret (v := .tuple #[.agg #[.int .i64 0, .int .i64 0], .int .i64 3]) (by simp [results, Tryd.results13, go_sem, d0, d1]) rfl ⟨by have hA := HA.out; simp at hA; rw [hA.1, hA.2.1, hA.2.2], ((B2.out.setCell (p := ⟨w.heap.size, 0, none⟩) (Nat.le_refl _) _).setCell (p := ⟨w.heap.size, 1, none⟩) (Nat.le_refl _) _)⟩
        case false.true =>
          go_wp2
          exact bodyPost_ret (v := .tuple #[.agg #[.int .i64 0, .int .i64 0], .int .i64 3]) (by simp [results, Tryd.results13, go_sem, d0, d1]) rfl ⟨by have hA := HA.out; simp at hA; rw [hA.1, hA.2.1, hA.2.2], ((B2.out.setCell (p := ⟨w.heap.size, 0, none⟩) (Nat.le_refl _) _).setCell (p := ⟨w.heap.size, 1, none⟩) (Nat.le_refl _) _)⟩
        case true.false =>
          go_wp2
          exact bodyPost_ret (v := .tuple #[.agg #[.int .i64 0, .int .i64 0], .int .i64 3]) (by simp [results, Tryd.results13, go_sem, d0, d1]) rfl ⟨by have hA := HA.out; simp at hA; rw [hA.1, hA.2.1, hA.2.2], ((B2.out.setCell (p := ⟨w.heap.size, 0, none⟩) (Nat.le_refl _) _).setCell (p := ⟨w.heap.size, 1, none⟩) (Nat.le_refl _) _)⟩
        case true.true =>
          have T2 := Lib.hid (Two.new w2 x y 23)
          have al := (Below.refl w2.heap.size w2).alloc (Nat.le_refl _) (.cells #[.int .i64 x, .int .i64 y] 23)
          have B3 := Lib.hid (bstep B2.out al)
          have R3 := Lib.hid (R2.out.below al)
          clear al
          go_wp2_with fail
          refine (HG.out _).mono ?_
          rintro e w4 ⟨rfl, hb4⟩
          have B4 := Lib.hid (bstep B3.out hb4)
          have R4 := Lib.hid (R3.out.below hb4)
          have T4 := Lib.hid (T2.out.below hb4)
          clear hb4 B3 R3 T2 d0 d1 dl f0 f1
          have d0 := R4.out.two.c0
          have d1 := R4.out.two.c1
          have dl := R4.out.two.lt
          have f0 := R4.out.f0
          have f1 := R4.out.f1
          have t0 := T4.out.c0
          have t1 := T4.out.c1
          cases g
          · go_wp2
            exact bodyPost_ret (v := .tuple #[.agg #[.int .i64 0, .int .i64 0], .int .i64 2]) (by simp [results, Tryd.results13, go_sem, d0, d1]) rfl ⟨by have hA := HA.out; simp at hA; rw [hA.1, hA.2.1, hA.2.2], ((B4.out.setCell (p := ⟨w.heap.size, 0, none⟩) (Nat.le_refl _) _).setCell (p := ⟨w.heap.size, 1, none⟩) (Nat.le_refl _) _)⟩
          · go_wp2
            exact bodyPost_ret (v := .tuple #[.agg #[.int .i64 x, .int .i64 y], .int .i64 0]) (by simp [results, Tryd.results13, go_sem, d0, d1]) rfl ⟨by have hA := HA.out; simp at hA; rw [hA.1, hA.2.1, hA.2.2], ((B4.out.setCell (p := ⟨w.heap.size, 0, none⟩) (Nat.le_refl _) _).setCell (p := ⟨w.heap.size, 1, none⟩) (Nat.le_refl _) _)⟩
      · have HC := Lib.hid hc
        have hc' : ¬ ((s[k].toNat : Int)) = 46 := by
          intro e
          apply hc
          apply UInt8.toNat_inj.1
          have : (46 : UInt8).toNat = 46 := rfl
          omega
        have ND2 := Lib.hid (ND.out.succ hl hc)
        clear hc
        go_wp2
        go_round
        case rel => exact ⟨k + 1, by omega, by go_num, ND2.out⟩
        case measure => simp [intOf]; omega
    · have hk2 : k = s.size := by omega
      have HA := Lib.hid (ans_none (cut_none (hk2 ▸ ND.out)))
      subst hk2
      have d0 := R0.out.two.c0
      have d1 := R0.out.two.c1
      go_wp2
      exact bodyPost_ret (v := .tuple #[.agg #[.int .i64 0, .int .i64 0], .int .i64 3]) (by simp [results, Tryd.results13, go_sem]) rfl ⟨by have hA := HA.out; rw [hA.1, hA.2.1, hA.2.2], (Below.refl _ _).alloc (Nat.le_refl _) _⟩
end Go.Proofs.YtmmaolhmhdjldaaDoor.RefTW
