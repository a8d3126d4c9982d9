/- The document's step, walked. -/
import Derived.Test.YtpfebfckolbnmaaDoorScD
import Derived.Test.YtpfebfckolbnmaaDoorJoin
namespace Go.Proofs.YtpfebfckolbnmaaDoor.Sc
open Go.RowKit Go.Lib Go.Proofs.YtpfebfckolbnmaaDoor.Sta Go.Proofs.YtpfebfckolbnmaaDoor.Rd Go.Proofs.YtpfebfckolbnmaaDoor.Cls Go.Proofs.YtpfebfckolbnmaaDoor.Join

/-- Is a field written that the kind does not have? -/
def strayB (s : Stp) : Bool := ((((((!hasB (fieldsR s.kind) 67 && decide (s.client ≠ 0)) || (!hasB (fieldsR s.kind) 75 && decide (s.key ≠ ⟨#[]⟩))) || (!hasB (fieldsR s.kind) 86 && decide (s.val ≠ ⟨#[]⟩))) || (!hasB (fieldsR s.kind) 65 && (decide (s.group ≠ 0) || decide (s.node ≠ 0)))) || (!hasB (fieldsR s.kind) 78 && decide (s.n ≠ 0))) || (!hasB (fieldsR s.kind) 88 && decide (s.cut ≠ 0)))
def insideB (s : Stp) : Bool := within s.client 0 15 && (within s.group 0 7 && (within s.node 0 4 && (within s.n 0 255 && (within s.cut (-1) 16384 && (decide ((s.key.size : Int) ≤ 255) && decide ((s.val.size : Int) ≤ 255))))))
theorem neEmpty (a : ByteArray) (w : World) : (binOp .neq 9 (.string a) (.string ⟨#[]⟩)).run Tryd.prog w = .ok (.bool (decide (a ≠ ⟨#[]⟩))) w := by
  have e : ∀ b : ByteArray, b.toList = [] ↔ b = ⟨#[]⟩ := by
    intro b
    rw [ByteArray.toList_eq]
    obtain ⟨⟨l⟩⟩ := b
    simp
  by_cases h : a = ⟨#[]⟩
  · subst h
    simp [go_sem]
  · have h' : ¬ a.toList = [] := fun x => h ((e a).1 x)
    have h2 : (⟨#[]⟩ : ByteArray).toList = [] := (e _).2 rfl
    go_simp
theorem neZero (a : Int) (w : World) : (binOp .neq 3 (.int .i64 a) (.int .i64 0)).run Tryd.prog w = .ok (.bool (decide (a ≠ 0))) w := by
  by_cases h : a = 0
  · subst h; simp [go_sem]
  · simp [go_sem, h]
theorem egZero (a : Int) (x y : Operand) (w : World) : (eqGuard .neq 3 x y (.int .i64 a) (.int .i64 0)).run Tryd.prog w = .ok () w := by
  simp [go_sem]
theorem egEmpty (a : ByteArray) (x y : Operand) (w : World) : (eqGuard .neq 9 x y (.string a) (.string ⟨#[]⟩)).run Tryd.prog w = .ok () w := by
  simp [go_sem]

set_option maxRecDepth 100000 in
set_option maxHeartbeats 6400000 in
theorem refstep_any (s : Stp) (h1 : 1 ≤ s.kind) (h2 : s.kind ≤ 18) (w : World) : Calls Tryd.prog 14 #[s.v] w fun e w' => e = .returned (.bool (!strayB s && insideB s)) ∧ Below w.heap.size w w' := by
  have B0 : Hid (Below w.heap.size w (w.alloc (.cells #[.int .i64 s.kind, .int .i64 s.client, .int .i64 s.group, .int .i64 s.node, .string s.key, .string s.val, .int .i64 s.n, .int .i64 s.cut] 40))) := Lib.hid ((Below.refl _ _).alloc (Nat.le_refl _) _)
  obtain ⟨B6, hB6⟩ : ∃ B, strayB s = B := ⟨_, rfl⟩
  have HBS := Lib.hid hB6
  unfold strayB at hB6
  have HC : Hid (∀ v, Calls Tryd.prog 23 #[.int .i64 s.kind, .int .u8 67] v fun e w' => e = .returned (.bool (hasB (fieldsR s.kind) 67)) ∧ w' = v) := Lib.hid (fun v => has_any s.kind 67 h1 h2 v)
  generalize hasB (fieldsR s.kind) 67 = bC at HC hB6
  have HK : Hid (∀ v, Calls Tryd.prog 23 #[.int .i64 s.kind, .int .u8 75] v fun e w' => e = .returned (.bool (hasB (fieldsR s.kind) 75)) ∧ w' = v) := Lib.hid (fun v => has_any s.kind 75 h1 h2 v)
  generalize hasB (fieldsR s.kind) 75 = bK at HK hB6
  have HV : Hid (∀ v, Calls Tryd.prog 23 #[.int .i64 s.kind, .int .u8 86] v fun e w' => e = .returned (.bool (hasB (fieldsR s.kind) 86)) ∧ w' = v) := Lib.hid (fun v => has_any s.kind 86 h1 h2 v)
  generalize hasB (fieldsR s.kind) 86 = bV at HV hB6
  have HA : Hid (∀ v, Calls Tryd.prog 23 #[.int .i64 s.kind, .int .u8 65] v fun e w' => e = .returned (.bool (hasB (fieldsR s.kind) 65)) ∧ w' = v) := Lib.hid (fun v => has_any s.kind 65 h1 h2 v)
  generalize hasB (fieldsR s.kind) 65 = bA at HA hB6
  have HN : Hid (∀ v, Calls Tryd.prog 23 #[.int .i64 s.kind, .int .u8 78] v fun e w' => e = .returned (.bool (hasB (fieldsR s.kind) 78)) ∧ w' = v) := Lib.hid (fun v => has_any s.kind 78 h1 h2 v)
  generalize hasB (fieldsR s.kind) 78 = bN at HN hB6
  have HX : Hid (∀ v, Calls Tryd.prog 23 #[.int .i64 s.kind, .int .u8 88] v fun e w' => e = .returned (.bool (hasB (fieldsR s.kind) 88)) ∧ w' = v) := Lib.hid (fun v => has_any s.kind 88 h1 h2 v)
  generalize hasB (fieldsR s.kind) 88 = bX at HX hB6
  have nclient := neZero s.client
  generalize decide (s.client ≠ 0) = zclient at nclient hB6
  have qclient := egZero s.client
  have ngroup := neZero s.group
  generalize decide (s.group ≠ 0) = zgroup at ngroup hB6
  have qgroup := egZero s.group
  have nnode := neZero s.node
  generalize decide (s.node ≠ 0) = znode at nnode hB6
  have qnode := egZero s.node
  have nkey := neEmpty s.key
  generalize decide (s.key ≠ ⟨#[]⟩) = zkey at nkey hB6
  have qkey := egEmpty s.key
  have nval := neEmpty s.val
  generalize decide (s.val ≠ ⟨#[]⟩) = zval at nval hB6
  have qval := egEmpty s.val
  have nn := neZero s.n
  generalize decide (s.n ≠ 0) = zn at nn hB6
  have qn := egZero s.n
  have ncut := neZero s.cut
  generalize decide (s.cut ≠ 0) = zcut at ncut hB6
  have qcut := egZero s.cut
  obtain ⟨B1, hB1⟩ : ∃ B, (!bC && zclient) = B := ⟨_, rfl⟩
  rw [hB1] at hB6
  have HB1 := Lib.hid hB1
  clear hB1
  obtain ⟨B2, hB2⟩ : ∃ B, (B1 || (!bK && zkey)) = B := ⟨_, rfl⟩
  rw [hB2] at hB6
  have HB2 := Lib.hid hB2
  clear hB2
  obtain ⟨B3, hB3⟩ : ∃ B, (B2 || (!bV && zval)) = B := ⟨_, rfl⟩
  rw [hB3] at hB6
  have HB3 := Lib.hid hB3
  clear hB3
  obtain ⟨B4, hB4⟩ : ∃ B, (B3 || (!bA && (zgroup || znode))) = B := ⟨_, rfl⟩
  rw [hB4] at hB6
  have HB4 := Lib.hid hB4
  clear hB4
  obtain ⟨B5, hB5⟩ : ∃ B, (B4 || (!bN && zn)) = B := ⟨_, rfl⟩
  rw [hB5] at hB6
  have HB5 := Lib.hid hB5
  clear hB5
  have HB6 := Lib.hid hB6
  clear h1 h2 hB6
  unfold Stp.v
  obtain ⟨v1, hv1⟩ : ∃ v : Value, v = .int .i64 s.client := ⟨_, rfl⟩
  rw [← hv1] at nclient qclient B0 ⊢
  have V1 := Lib.hid hv1
  clear hv1
  obtain ⟨v2, hv2⟩ : ∃ v : Value, v = .int .i64 s.group := ⟨_, rfl⟩
  rw [← hv2] at ngroup qgroup B0 ⊢
  have V2 := Lib.hid hv2
  clear hv2
  obtain ⟨v3, hv3⟩ : ∃ v : Value, v = .int .i64 s.node := ⟨_, rfl⟩
  rw [← hv3] at nnode qnode B0 ⊢
  have V3 := Lib.hid hv3
  clear hv3
  obtain ⟨v4, hv4⟩ : ∃ v : Value, v = .string s.key := ⟨_, rfl⟩
  rw [← hv4] at nkey qkey B0 ⊢
  have V4 := Lib.hid hv4
  clear hv4
  obtain ⟨v5, hv5⟩ : ∃ v : Value, v = .string s.val := ⟨_, rfl⟩
  rw [← hv5] at nval qval B0 ⊢
  have V5 := Lib.hid hv5
  clear hv5
  obtain ⟨v6, hv6⟩ : ∃ v : Value, v = .int .i64 s.n := ⟨_, rfl⟩
  rw [← hv6] at nn qn B0 ⊢
  have V6 := Lib.hid hv6
  clear hv6
  obtain ⟨v7, hv7⟩ : ∃ v : Value, v = .int .i64 s.cut := ⟨_, rfl⟩
  rw [← hv7] at ncut qcut B0 ⊢
  have V7 := Lib.hid hv7
  clear hv7
  go_enter Tryd.func14, Tryd.ntmps14
  go_upto_region 1 with (fail)
  refine wp_region_lit ?_
  simp only [List.append_eq, List.cons_append, List.nil_append]
  obtain ⟨W, hW⟩ : ∃ W, W = w.alloc (.cells #[.int .i64 s.kind, v1, v2, v3, v4, v5, v6, v7] 40) := ⟨_, rfl⟩
  have c0 : W.cell? ⟨w.heap.size, 0, none⟩ = some (.int .i64 s.kind) := by rw [hW]; simp [go_sem]
  have c1 : W.cell? ⟨w.heap.size, 1, none⟩ = some (v1) := by rw [hW]; simp [go_sem]
  have c2 : W.cell? ⟨w.heap.size, 2, none⟩ = some (v2) := by rw [hW]; simp [go_sem]
  have c3 : W.cell? ⟨w.heap.size, 3, none⟩ = some (v3) := by rw [hW]; simp [go_sem]
  have c4 : W.cell? ⟨w.heap.size, 4, none⟩ = some (v4) := by rw [hW]; simp [go_sem]
  have c5 : W.cell? ⟨w.heap.size, 5, none⟩ = some (v5) := by rw [hW]; simp [go_sem]
  have c6 : W.cell? ⟨w.heap.size, 6, none⟩ = some (v6) := by rw [hW]; simp [go_sem]
  have c7 : W.cell? ⟨w.heap.size, 7, none⟩ = some (v7) := by rw [hW]; simp [go_sem]
  rw [← hW] at B0 ⊢
  clear hW
  refine wpList_cut 10 (fun a' w' => ∃ u3 u4 u5 u6 u7 u8 u9 u10 u11 u12 : Value, (u12 = .bool B1 ∧ W = w') ∧ a' = ⟨#[.agg #[.int .i64 s.kind, v1, v2, v3, v4, v5, v6, v7], .pointer (some ⟨w.heap.size, 0, none⟩), .bool false, u3, u4, u5, u6, u7, u8, u9, u10, u11, u12, undef, undef, undef, undef, undef, undef, undef, undef, undef, undef, undef, undef, undef, undef, undef, undef, undef, undef, undef, undef, undef, undef, undef, undef, undef, undef, undef, undef, undef, undef, undef, undef, undef, undef, undef, undef, undef, undef, undef, undef, undef, undef, undef, undef, undef, undef, undef, undef, undef, undef, undef, undef, undef, undef, undef, undef, undef, undef, undef, undef, undef, undef, undef, undef, undef, undef, undef, undef, undef, undef, undef, undef, undef, undef, undef, undef, undef, undef, undef, undef, undef, undef, undef, undef, undef, undef, undef, undef, undef, undef, undef, undef, undef, undef], []⟩) ?rest0 ?first0
  case first0 =>
    as_aux_lemma =>
    intro _ _ _ _
    simp only [List.take_succ_cons, List.take_zero]
    go_wp2_with fail
    refine (HC.out _).mono ?_
    rintro e w1 ⟨rfl, rfl⟩
    cases bC with
    | true =>
      go_wp2_with fail
      go_meet
      exact ⟨by rw [← HB1.out]; rfl, rfl⟩
    | false =>
      cases zclient with
      | true =>
        go_wp2_with fail
        go_meet
        exact ⟨by rw [← HB1.out]; rfl, rfl⟩
      | false =>
        go_wp2_with fail
        go_meet
        exact ⟨by rw [← HB1.out]; rfl, rfl⟩
  intro _ wc hinv
  obtain ⟨u3, hinv⟩ := hinv
  obtain ⟨u4, hinv⟩ := hinv
  obtain ⟨u5, hinv⟩ := hinv
  obtain ⟨u6, hinv⟩ := hinv
  obtain ⟨u7, hinv⟩ := hinv
  obtain ⟨u8, hinv⟩ := hinv
  obtain ⟨u9, hinv⟩ := hinv
  obtain ⟨u10, hinv⟩ := hinv
  obtain ⟨u11, hinv⟩ := hinv
  obtain ⟨u12, hinv⟩ := hinv
  obtain ⟨⟨rfl, rfl⟩, rfl⟩ := hinv
  simp only [List.drop_succ_cons, List.drop_zero]
  clear nclient
  clear qclient
  clear HC
  refine wpList_cut 11 (fun a' w' => ∃ u3 u4 u5 u6 u7 u8 u9 u10 u11 u12 u13 u14 u15 u16 u17 u18 u19 u20 u21 u22 u23 : Value, (u23 = .bool B2 ∧ W = w') ∧ a' = ⟨#[.agg #[.int .i64 s.kind, v1, v2, v3, v4, v5, v6, v7], .pointer (some ⟨w.heap.size, 0, none⟩), .bool false, u3, u4, u5, u6, u7, u8, u9, u10, u11, u12, u13, u14, u15, u16, u17, u18, u19, u20, u21, u22, u23, undef, undef, undef, undef, undef, undef, undef, undef, undef, undef, undef, undef, undef, undef, undef, undef, undef, undef, undef, undef, undef, undef, undef, undef, undef, undef, undef, undef, undef, undef, undef, undef, undef, undef, undef, undef, undef, undef, undef, undef, undef, undef, undef, undef, undef, undef, undef, undef, undef, undef, undef, undef, undef, undef, undef, undef, undef, undef, undef, undef, undef, undef, undef, undef, undef, undef, undef, undef, undef, undef, undef, undef, undef, undef, undef, undef, undef, undef, undef, undef, undef, undef, undef], []⟩) ?rest1 ?first1
  case first1 =>
    as_aux_lemma =>
    intro _ _ _ _
    simp only [List.take_succ_cons, List.take_zero]
    cases B1 with
    | true =>
      go_wp2_with fail
      go_meet
      exact ⟨by rw [← HB2.out]; rfl, rfl⟩
    | false =>
      go_wp2_with fail
      refine (HK.out _).mono ?_
      rintro e w1 ⟨rfl, rfl⟩
      cases bK with
      | true =>
        go_wp2_with fail
        go_meet
        exact ⟨by rw [← HB2.out]; rfl, rfl⟩
      | false =>
        cases zkey with
        | true =>
          go_wp2_with fail
          go_meet
          exact ⟨by rw [← HB2.out]; rfl, rfl⟩
        | false =>
          go_wp2_with fail
          go_meet
          exact ⟨by rw [← HB2.out]; rfl, rfl⟩
  intro _ wc hinv
  obtain ⟨u3, hinv⟩ := hinv
  obtain ⟨u4, hinv⟩ := hinv
  obtain ⟨u5, hinv⟩ := hinv
  obtain ⟨u6, hinv⟩ := hinv
  obtain ⟨u7, hinv⟩ := hinv
  obtain ⟨u8, hinv⟩ := hinv
  obtain ⟨u9, hinv⟩ := hinv
  obtain ⟨u10, hinv⟩ := hinv
  obtain ⟨u11, hinv⟩ := hinv
  obtain ⟨u12, hinv⟩ := hinv
  obtain ⟨u13, hinv⟩ := hinv
  obtain ⟨u14, hinv⟩ := hinv
  obtain ⟨u15, hinv⟩ := hinv
  obtain ⟨u16, hinv⟩ := hinv
  obtain ⟨u17, hinv⟩ := hinv
  obtain ⟨u18, hinv⟩ := hinv
  obtain ⟨u19, hinv⟩ := hinv
  obtain ⟨u20, hinv⟩ := hinv
  obtain ⟨u21, hinv⟩ := hinv
  obtain ⟨u22, hinv⟩ := hinv
  obtain ⟨u23, hinv⟩ := hinv
  obtain ⟨⟨rfl, rfl⟩, rfl⟩ := hinv
  simp only [List.drop_succ_cons, List.drop_zero]
  clear nkey
  clear qkey
  clear HK
  refine wpList_cut 11 (fun a' w' => ∃ u3 u4 u5 u6 u7 u8 u9 u10 u11 u12 u13 u14 u15 u16 u17 u18 u19 u20 u21 u22 u23 u24 u25 u26 u27 u28 u29 u30 u31 u32 u33 u34 : Value, (u34 = .bool B3 ∧ W = w') ∧ a' = ⟨#[.agg #[.int .i64 s.kind, v1, v2, v3, v4, v5, v6, v7], .pointer (some ⟨w.heap.size, 0, none⟩), .bool false, u3, u4, u5, u6, u7, u8, u9, u10, u11, u12, u13, u14, u15, u16, u17, u18, u19, u20, u21, u22, u23, u24, u25, u26, u27, u28, u29, u30, u31, u32, u33, u34, undef, undef, undef, undef, undef, undef, undef, undef, undef, undef, undef, undef, undef, undef, undef, undef, undef, undef, undef, undef, undef, undef, undef, undef, undef, undef, undef, undef, undef, undef, undef, undef, undef, undef, undef, undef, undef, undef, undef, undef, undef, undef, undef, undef, undef, undef, undef, undef, undef, undef, undef, undef, undef, undef, undef, undef, undef, undef, undef, undef, undef, undef, undef, undef, undef, undef, undef, undef, undef, undef, undef, undef], []⟩) ?rest2 ?first2
  case first2 =>
    as_aux_lemma =>
    intro _ _ _ _
    simp only [List.take_succ_cons, List.take_zero]
    cases B2 with
    | true =>
      go_wp2_with fail
      go_meet
      exact ⟨by rw [← HB3.out]; rfl, rfl⟩
    | false =>
      go_wp2_with fail
      refine (HV.out _).mono ?_
      rintro e w1 ⟨rfl, rfl⟩
      cases bV with
      | true =>
        go_wp2_with fail
        go_meet
        exact ⟨by rw [← HB3.out]; rfl, rfl⟩
      | false =>
        cases zval with
        | true =>
          go_wp2_with fail
          go_meet
          exact ⟨by rw [← HB3.out]; rfl, rfl⟩
        | false =>
          go_wp2_with fail
          go_meet
          exact ⟨by rw [← HB3.out]; rfl, rfl⟩
  intro _ wc hinv
  obtain ⟨u3, hinv⟩ := hinv
  obtain ⟨u4, hinv⟩ := hinv
  obtain ⟨u5, hinv⟩ := hinv
  obtain ⟨u6, hinv⟩ := hinv
  obtain ⟨u7, hinv⟩ := hinv
  obtain ⟨u8, hinv⟩ := hinv
  obtain ⟨u9, hinv⟩ := hinv
  obtain ⟨u10, hinv⟩ := hinv
  obtain ⟨u11, hinv⟩ := hinv
  obtain ⟨u12, hinv⟩ := hinv
  obtain ⟨u13, hinv⟩ := hinv
  obtain ⟨u14, hinv⟩ := hinv
  obtain ⟨u15, hinv⟩ := hinv
  obtain ⟨u16, hinv⟩ := hinv
  obtain ⟨u17, hinv⟩ := hinv
  obtain ⟨u18, hinv⟩ := hinv
  obtain ⟨u19, hinv⟩ := hinv
  obtain ⟨u20, hinv⟩ := hinv
  obtain ⟨u21, hinv⟩ := hinv
  obtain ⟨u22, hinv⟩ := hinv
  obtain ⟨u23, hinv⟩ := hinv
  obtain ⟨u24, hinv⟩ := hinv
  obtain ⟨u25, hinv⟩ := hinv
  obtain ⟨u26, hinv⟩ := hinv
  obtain ⟨u27, hinv⟩ := hinv
  obtain ⟨u28, hinv⟩ := hinv
  obtain ⟨u29, hinv⟩ := hinv
  obtain ⟨u30, hinv⟩ := hinv
  obtain ⟨u31, hinv⟩ := hinv
  obtain ⟨u32, hinv⟩ := hinv
  obtain ⟨u33, hinv⟩ := hinv
  obtain ⟨u34, hinv⟩ := hinv
  obtain ⟨⟨rfl, rfl⟩, rfl⟩ := hinv
  simp only [List.drop_succ_cons, List.drop_zero]
  clear nval
  clear qval
  clear HV
  refine wpList_cut 16 (fun a' w' => ∃ u3 u4 u5 u6 u7 u8 u9 u10 u11 u12 u13 u14 u15 u16 u17 u18 u19 u20 u21 u22 u23 u24 u25 u26 u27 u28 u29 u30 u31 u32 u33 u34 u35 u36 u37 u38 u39 u40 u41 u42 u43 u44 u45 u46 u47 u48 u49 u50 : Value, (u50 = .bool B4 ∧ W = w') ∧ a' = ⟨#[.agg #[.int .i64 s.kind, v1, v2, v3, v4, v5, v6, v7], .pointer (some ⟨w.heap.size, 0, none⟩), .bool false, u3, u4, u5, u6, u7, u8, u9, u10, u11, u12, u13, u14, u15, u16, u17, u18, u19, u20, u21, u22, u23, u24, u25, u26, u27, u28, u29, u30, u31, u32, u33, u34, u35, u36, u37, u38, u39, u40, u41, u42, u43, u44, u45, u46, u47, u48, u49, u50, undef, undef, undef, undef, undef, undef, undef, undef, undef, undef, undef, undef, undef, undef, undef, undef, undef, undef, undef, undef, undef, undef, undef, undef, undef, undef, undef, undef, undef, undef, undef, undef, undef, undef, undef, undef, undef, undef, undef, undef, undef, undef, undef, undef, undef, undef, undef, undef, undef, undef, undef, undef, undef, undef, undef, undef], []⟩) ?rest3 ?first3
  case first3 =>
    as_aux_lemma =>
    intro _ _ _ _
    simp only [List.take_succ_cons, List.take_zero]
    cases B3 with
    | true =>
      go_wp2_with fail
      go_meet
      exact ⟨by rw [← HB4.out]; rfl, rfl⟩
    | false =>
      go_wp2_with fail
      refine (HA.out _).mono ?_
      rintro e w1 ⟨rfl, rfl⟩
      cases bA with
      | true =>
        go_wp2_with fail
        go_meet
        exact ⟨by rw [← HB4.out]; rfl, rfl⟩
      | false =>
        cases zgroup with
        | true =>
          go_wp2_with fail
          go_meet
          exact ⟨by rw [← HB4.out]; rfl, rfl⟩
        | false =>
          cases znode with
          | true =>
            go_wp2_with fail
            go_meet
            exact ⟨by rw [← HB4.out]; rfl, rfl⟩
          | false =>
            go_wp2_with fail
            go_meet
            exact ⟨by rw [← HB4.out]; rfl, rfl⟩
  intro _ wc hinv
  obtain ⟨u3, hinv⟩ := hinv
  obtain ⟨u4, hinv⟩ := hinv
  obtain ⟨u5, hinv⟩ := hinv
  obtain ⟨u6, hinv⟩ := hinv
  obtain ⟨u7, hinv⟩ := hinv
  obtain ⟨u8, hinv⟩ := hinv
  obtain ⟨u9, hinv⟩ := hinv
  obtain ⟨u10, hinv⟩ := hinv
  obtain ⟨u11, hinv⟩ := hinv
  obtain ⟨u12, hinv⟩ := hinv
  obtain ⟨u13, hinv⟩ := hinv
  obtain ⟨u14, hinv⟩ := hinv
  obtain ⟨u15, hinv⟩ := hinv
  obtain ⟨u16, hinv⟩ := hinv
  obtain ⟨u17, hinv⟩ := hinv
  obtain ⟨u18, hinv⟩ := hinv
  obtain ⟨u19, hinv⟩ := hinv
  obtain ⟨u20, hinv⟩ := hinv
  obtain ⟨u21, hinv⟩ := hinv
  obtain ⟨u22, hinv⟩ := hinv
  obtain ⟨u23, hinv⟩ := hinv
  obtain ⟨u24, hinv⟩ := hinv
  obtain ⟨u25, hinv⟩ := hinv
  obtain ⟨u26, hinv⟩ := hinv
  obtain ⟨u27, hinv⟩ := hinv
  obtain ⟨u28, hinv⟩ := hinv
  obtain ⟨u29, hinv⟩ := hinv
  obtain ⟨u30, hinv⟩ := hinv
  obtain ⟨u31, hinv⟩ := hinv
  obtain ⟨u32, hinv⟩ := hinv
  obtain ⟨u33, hinv⟩ := hinv
  obtain ⟨u34, hinv⟩ := hinv
  obtain ⟨u35, hinv⟩ := hinv
  obtain ⟨u36, hinv⟩ := hinv
  obtain ⟨u37, hinv⟩ := hinv
  obtain ⟨u38, hinv⟩ := hinv
  obtain ⟨u39, hinv⟩ := hinv
  obtain ⟨u40, hinv⟩ := hinv
  obtain ⟨u41, hinv⟩ := hinv
  obtain ⟨u42, hinv⟩ := hinv
  obtain ⟨u43, hinv⟩ := hinv
  obtain ⟨u44, hinv⟩ := hinv
  obtain ⟨u45, hinv⟩ := hinv
  obtain ⟨u46, hinv⟩ := hinv
  obtain ⟨u47, hinv⟩ := hinv
  obtain ⟨u48, hinv⟩ := hinv
  obtain ⟨u49, hinv⟩ := hinv
  obtain ⟨u50, hinv⟩ := hinv
  obtain ⟨⟨rfl, rfl⟩, rfl⟩ := hinv
  simp only [List.drop_succ_cons, List.drop_zero]
  clear ngroup nnode
  clear qgroup qnode
  clear HA
  refine wpList_cut 11 (fun a' w' => ∃ u3 u4 u5 u6 u7 u8 u9 u10 u11 u12 u13 u14 u15 u16 u17 u18 u19 u20 u21 u22 u23 u24 u25 u26 u27 u28 u29 u30 u31 u32 u33 u34 u35 u36 u37 u38 u39 u40 u41 u42 u43 u44 u45 u46 u47 u48 u49 u50 u51 u52 u53 u54 u55 u56 u57 u58 u59 u60 u61 : Value, (u61 = .bool B5 ∧ W = w') ∧ a' = ⟨#[.agg #[.int .i64 s.kind, v1, v2, v3, v4, v5, v6, v7], .pointer (some ⟨w.heap.size, 0, none⟩), .bool false, u3, u4, u5, u6, u7, u8, u9, u10, u11, u12, u13, u14, u15, u16, u17, u18, u19, u20, u21, u22, u23, u24, u25, u26, u27, u28, u29, u30, u31, u32, u33, u34, u35, u36, u37, u38, u39, u40, u41, u42, u43, u44, u45, u46, u47, u48, u49, u50, u51, u52, u53, u54, u55, u56, u57, u58, u59, u60, u61, undef, undef, undef, undef, undef, undef, undef, undef, undef, undef, undef, undef, undef, undef, undef, undef, undef, undef, undef, undef, undef, undef, undef, undef, undef, undef, undef, undef, undef, undef, undef, undef, undef, undef, undef, undef, undef, undef, undef, undef, undef, undef, undef, undef, undef], []⟩) ?rest4 ?first4
  case first4 =>
    as_aux_lemma =>
    intro _ _ _ _
    simp only [List.take_succ_cons, List.take_zero]
    cases B4 with
    | true =>
      go_wp2_with fail
      go_meet
      exact ⟨by rw [← HB5.out]; rfl, rfl⟩
    | false =>
      go_wp2_with fail
      refine (HN.out _).mono ?_
      rintro e w1 ⟨rfl, rfl⟩
      cases bN with
      | true =>
        go_wp2_with fail
        go_meet
        exact ⟨by rw [← HB5.out]; rfl, rfl⟩
      | false =>
        cases zn with
        | true =>
          go_wp2_with fail
          go_meet
          exact ⟨by rw [← HB5.out]; rfl, rfl⟩
        | false =>
          go_wp2_with fail
          go_meet
          exact ⟨by rw [← HB5.out]; rfl, rfl⟩
  intro _ wc hinv
  obtain ⟨u3, hinv⟩ := hinv
  obtain ⟨u4, hinv⟩ := hinv
  obtain ⟨u5, hinv⟩ := hinv
  obtain ⟨u6, hinv⟩ := hinv
  obtain ⟨u7, hinv⟩ := hinv
  obtain ⟨u8, hinv⟩ := hinv
  obtain ⟨u9, hinv⟩ := hinv
  obtain ⟨u10, hinv⟩ := hinv
  obtain ⟨u11, hinv⟩ := hinv
  obtain ⟨u12, hinv⟩ := hinv
  obtain ⟨u13, hinv⟩ := hinv
  obtain ⟨u14, hinv⟩ := hinv
  obtain ⟨u15, hinv⟩ := hinv
  obtain ⟨u16, hinv⟩ := hinv
  obtain ⟨u17, hinv⟩ := hinv
  obtain ⟨u18, hinv⟩ := hinv
  obtain ⟨u19, hinv⟩ := hinv
  obtain ⟨u20, hinv⟩ := hinv
  obtain ⟨u21, hinv⟩ := hinv
  obtain ⟨u22, hinv⟩ := hinv
  obtain ⟨u23, hinv⟩ := hinv
  obtain ⟨u24, hinv⟩ := hinv
  obtain ⟨u25, hinv⟩ := hinv
  obtain ⟨u26, hinv⟩ := hinv
  obtain ⟨u27, hinv⟩ := hinv
  obtain ⟨u28, hinv⟩ := hinv
  obtain ⟨u29, hinv⟩ := hinv
  obtain ⟨u30, hinv⟩ := hinv
  obtain ⟨u31, hinv⟩ := hinv
  obtain ⟨u32, hinv⟩ := hinv
  obtain ⟨u33, hinv⟩ := hinv
  obtain ⟨u34, hinv⟩ := hinv
  obtain ⟨u35, hinv⟩ := hinv
  obtain ⟨u36, hinv⟩ := hinv
  obtain ⟨u37, hinv⟩ := hinv
  obtain ⟨u38, hinv⟩ := hinv
  obtain ⟨u39, hinv⟩ := hinv
  obtain ⟨u40, hinv⟩ := hinv
  obtain ⟨u41, hinv⟩ := hinv
  obtain ⟨u42, hinv⟩ := hinv
  obtain ⟨u43, hinv⟩ := hinv
  obtain ⟨u44, hinv⟩ := hinv
  obtain ⟨u45, hinv⟩ := hinv
  obtain ⟨u46, hinv⟩ := hinv
  obtain ⟨u47, hinv⟩ := hinv
  obtain ⟨u48, hinv⟩ := hinv
  obtain ⟨u49, hinv⟩ := hinv
  obtain ⟨u50, hinv⟩ := hinv
  obtain ⟨u51, hinv⟩ := hinv
  obtain ⟨u52, hinv⟩ := hinv
  obtain ⟨u53, hinv⟩ := hinv
  obtain ⟨u54, hinv⟩ := hinv
  obtain ⟨u55, hinv⟩ := hinv
  obtain ⟨u56, hinv⟩ := hinv
  obtain ⟨u57, hinv⟩ := hinv
  obtain ⟨u58, hinv⟩ := hinv
  obtain ⟨u59, hinv⟩ := hinv
  obtain ⟨u60, hinv⟩ := hinv
  obtain ⟨u61, hinv⟩ := hinv
  obtain ⟨⟨rfl, rfl⟩, rfl⟩ := hinv
  simp only [List.drop_succ_cons, List.drop_zero]
  clear nn
  clear qn
  clear HN
  refine wpList_cut 10 (fun a' w' => ∃ u3 u4 u5 u6 u7 u8 u9 u10 u11 u12 u13 u14 u15 u16 u17 u18 u19 u20 u21 u22 u23 u24 u25 u26 u27 u28 u29 u30 u31 u32 u33 u34 u35 u36 u37 u38 u39 u40 u41 u42 u43 u44 u45 u46 u47 u48 u49 u50 u51 u52 u53 u54 u55 u56 u57 u58 u59 u60 u61 u62 u63 u64 u65 u66 u67 u68 u69 u70 u71 : Value, (u71 = .bool B6 ∧ W = w') ∧ a' = ⟨#[.agg #[.int .i64 s.kind, v1, v2, v3, v4, v5, v6, v7], .pointer (some ⟨w.heap.size, 0, none⟩), .bool false, u3, u4, u5, u6, u7, u8, u9, u10, u11, u12, u13, u14, u15, u16, u17, u18, u19, u20, u21, u22, u23, u24, u25, u26, u27, u28, u29, u30, u31, u32, u33, u34, u35, u36, u37, u38, u39, u40, u41, u42, u43, u44, u45, u46, u47, u48, u49, u50, u51, u52, u53, u54, u55, u56, u57, u58, u59, u60, u61, u62, u63, u64, u65, u66, u67, u68, u69, u70, u71, undef, undef, undef, undef, undef, undef, undef, undef, undef, undef, undef, undef, undef, undef, undef, undef, undef, undef, undef, undef, undef, undef, undef, undef, undef, undef, undef, undef, undef, undef, undef, undef, undef, undef, undef], []⟩) ?rest5 ?first5
  case first5 =>
    as_aux_lemma =>
    intro _ _ _ _
    simp only [List.take_succ_cons, List.take_zero]
    cases B5 with
    | true =>
      go_wp2_with fail
      go_meet
      exact ⟨by rw [← HB6.out]; rfl, rfl⟩
    | false =>
      go_wp2_with fail
      refine (HX.out _).mono ?_
      rintro e w1 ⟨rfl, rfl⟩
      cases bX with
      | true =>
        go_wp2_with fail
        go_meet
        exact ⟨by rw [← HB6.out]; rfl, rfl⟩
      | false =>
        cases zcut with
        | true =>
          go_wp2_with fail
          go_meet
          exact ⟨by rw [← HB6.out]; rfl, rfl⟩
        | false =>
          go_wp2_with fail
          go_meet
          exact ⟨by rw [← HB6.out]; rfl, rfl⟩
  intro _ wc hinv
  obtain ⟨u3, hinv⟩ := hinv
  obtain ⟨u4, hinv⟩ := hinv
  obtain ⟨u5, hinv⟩ := hinv
  obtain ⟨u6, hinv⟩ := hinv
  obtain ⟨u7, hinv⟩ := hinv
  obtain ⟨u8, hinv⟩ := hinv
  obtain ⟨u9, hinv⟩ := hinv
  obtain ⟨u10, hinv⟩ := hinv
  obtain ⟨u11, hinv⟩ := hinv
  obtain ⟨u12, hinv⟩ := hinv
  obtain ⟨u13, hinv⟩ := hinv
  obtain ⟨u14, hinv⟩ := hinv
  obtain ⟨u15, hinv⟩ := hinv
  obtain ⟨u16, hinv⟩ := hinv
  obtain ⟨u17, hinv⟩ := hinv
  obtain ⟨u18, hinv⟩ := hinv
  obtain ⟨u19, hinv⟩ := hinv
  obtain ⟨u20, hinv⟩ := hinv
  obtain ⟨u21, hinv⟩ := hinv
  obtain ⟨u22, hinv⟩ := hinv
  obtain ⟨u23, hinv⟩ := hinv
  obtain ⟨u24, hinv⟩ := hinv
  obtain ⟨u25, hinv⟩ := hinv
  obtain ⟨u26, hinv⟩ := hinv
  obtain ⟨u27, hinv⟩ := hinv
  obtain ⟨u28, hinv⟩ := hinv
  obtain ⟨u29, hinv⟩ := hinv
  obtain ⟨u30, hinv⟩ := hinv
  obtain ⟨u31, hinv⟩ := hinv
  obtain ⟨u32, hinv⟩ := hinv
  obtain ⟨u33, hinv⟩ := hinv
  obtain ⟨u34, hinv⟩ := hinv
  obtain ⟨u35, hinv⟩ := hinv
  obtain ⟨u36, hinv⟩ := hinv
  obtain ⟨u37, hinv⟩ := hinv
  obtain ⟨u38, hinv⟩ := hinv
  obtain ⟨u39, hinv⟩ := hinv
  obtain ⟨u40, hinv⟩ := hinv
  obtain ⟨u41, hinv⟩ := hinv
  obtain ⟨u42, hinv⟩ := hinv
  obtain ⟨u43, hinv⟩ := hinv
  obtain ⟨u44, hinv⟩ := hinv
  obtain ⟨u45, hinv⟩ := hinv
  obtain ⟨u46, hinv⟩ := hinv
  obtain ⟨u47, hinv⟩ := hinv
  obtain ⟨u48, hinv⟩ := hinv
  obtain ⟨u49, hinv⟩ := hinv
  obtain ⟨u50, hinv⟩ := hinv
  obtain ⟨u51, hinv⟩ := hinv
  obtain ⟨u52, hinv⟩ := hinv
  obtain ⟨u53, hinv⟩ := hinv
  obtain ⟨u54, hinv⟩ := hinv
  obtain ⟨u55, hinv⟩ := hinv
  obtain ⟨u56, hinv⟩ := hinv
  obtain ⟨u57, hinv⟩ := hinv
  obtain ⟨u58, hinv⟩ := hinv
  obtain ⟨u59, hinv⟩ := hinv
  obtain ⟨u60, hinv⟩ := hinv
  obtain ⟨u61, hinv⟩ := hinv
  obtain ⟨u62, hinv⟩ := hinv
  obtain ⟨u63, hinv⟩ := hinv
  obtain ⟨u64, hinv⟩ := hinv
  obtain ⟨u65, hinv⟩ := hinv
  obtain ⟨u66, hinv⟩ := hinv
  obtain ⟨u67, hinv⟩ := hinv
  obtain ⟨u68, hinv⟩ := hinv
  obtain ⟨u69, hinv⟩ := hinv
  obtain ⟨u70, hinv⟩ := hinv
  obtain ⟨u71, hinv⟩ := hinv
  obtain ⟨⟨rfl, rfl⟩, rfl⟩ := hinv
  simp only [List.drop_succ_cons, List.drop_zero]
  clear ncut
  clear qcut
  clear HX
  clear HB1 HB2 HB3 HB4 HB5 HB6
  obtain rfl := V1.out
  obtain rfl := V2.out
  obtain rfl := V3.out
  obtain rfl := V4.out
  obtain rfl := V5.out
  obtain rfl := V6.out
  obtain rfl := V7.out
  clear V1 V2 V3 V4 V5 V6 V7
  have CW : Hid (∀ (n lo hi : Int) (v : World), Calls Tryd.prog 24 #[.int .i64 n, .int .i64 lo, .int .i64 hi] v fun e w' => e = .returned (.bool (within n lo hi)) ∧ w' = v) := Lib.hid refwithin_any
  cases B6 with
  | true =>
    clear c0 c1 c2 c3 c4 c5 c6 c7
    go_wp2_with fail
    go_ret
    exact ⟨by rw [HBS.out]; rfl, B0.out⟩
  | false =>
    obtain ⟨I, hI⟩ : ∃ I, insideB s = I := ⟨_, rfl⟩
    have HII := Lib.hid hI
    unfold insideB at hI
    obtain ⟨i1, hi1⟩ : ∃ b, within s.client 0 15 = b := ⟨_, rfl⟩
    rw [hi1] at hI
    have HI1 := Lib.hid hi1
    clear hi1
    obtain ⟨i2, hi2⟩ : ∃ b, within s.group 0 7 = b := ⟨_, rfl⟩
    rw [hi2] at hI
    have HI2 := Lib.hid hi2
    clear hi2
    obtain ⟨i3, hi3⟩ : ∃ b, within s.node 0 4 = b := ⟨_, rfl⟩
    rw [hi3] at hI
    have HI3 := Lib.hid hi3
    clear hi3
    obtain ⟨i4, hi4⟩ : ∃ b, within s.n 0 255 = b := ⟨_, rfl⟩
    rw [hi4] at hI
    have HI4 := Lib.hid hi4
    clear hi4
    obtain ⟨i5, hi5⟩ : ∃ b, within s.cut (-1) 16384 = b := ⟨_, rfl⟩
    rw [hi5] at hI
    have HI5 := Lib.hid hi5
    clear hi5
    have HI := Lib.hid hI
    clear hI
    go_wp2_with fail
    refine (CW.out _ _ _ _).mono ?_
    rintro e w1 ⟨rfl, rfl⟩
    rw [HI1.out]
    cases i1 with
    | false =>
      as_aux_lemma =>
      go_wp2_with fail
      go_ret
      exact ⟨by rw [HBS.out, HII.out, ← HI.out]; rfl, B0.out⟩
    | true =>
      go_wp2_with fail
      refine (CW.out _ _ _ _).mono ?_
      rintro e w1 ⟨rfl, rfl⟩
      rw [HI2.out]
      cases i2 with
      | false =>
        as_aux_lemma =>
        go_wp2_with fail
        go_ret
        exact ⟨by rw [HBS.out, HII.out, ← HI.out]; rfl, B0.out⟩
      | true =>
        go_wp2_with fail
        refine (CW.out _ _ _ _).mono ?_
        rintro e w1 ⟨rfl, rfl⟩
        rw [HI3.out]
        cases i3 with
        | false =>
          as_aux_lemma =>
          go_wp2_with fail
          go_ret
          exact ⟨by rw [HBS.out, HII.out, ← HI.out]; rfl, B0.out⟩
        | true =>
          go_wp2_with fail
          refine (CW.out _ _ _ _).mono ?_
          rintro e w1 ⟨rfl, rfl⟩
          rw [HI4.out]
          cases i4 with
          | false =>
            as_aux_lemma =>
            go_wp2_with fail
            go_ret
            exact ⟨by rw [HBS.out, HII.out, ← HI.out]; rfl, B0.out⟩
          | true =>
            go_wp2_with fail
            refine (CW.out _ _ _ _).mono ?_
            rintro e w1 ⟨rfl, rfl⟩
            rw [HI5.out]
            cases i5 with
            | false =>
              as_aux_lemma =>
              go_wp2_with fail
              go_ret
              exact ⟨by rw [HBS.out, HII.out, ← HI.out]; rfl, B0.out⟩
            | true =>
              by_cases hk : (s.key.size : Int) ≤ 255
              · have hkd : decide ((s.key.size : Int) ≤ 255) = true := decide_eq_true hk
                by_cases hv : (s.val.size : Int) ≤ 255
                · have hvd : decide ((s.val.size : Int) ≤ 255) = true := decide_eq_true hv
                  have HV := Lib.hid hvd
                  have HK := Lib.hid hkd
                  go_wp2_with fail
                  go_ret
                  exact ⟨by rw [HBS.out, HII.out, ← HI.out]; first | rfl | (rw [HK.out, HV.out]; rfl), B0.out⟩
                · have hvd : decide ((s.val.size : Int) ≤ 255) = false := decide_eq_false hv
                  have HV := Lib.hid hvd
                  have HK := Lib.hid hkd
                  go_wp2_with fail
                  go_ret
                  exact ⟨by rw [HBS.out, HII.out, ← HI.out]; first | rfl | (rw [HK.out, HV.out]; rfl), B0.out⟩
              · have hkd : decide ((s.key.size : Int) ≤ 255) = false := decide_eq_false hk
                have HK := Lib.hid hkd
                go_wp2_with fail
                go_ret
                exact ⟨by rw [HBS.out, HII.out, ← HI.out]; rw [HK.out]; rfl, B0.out⟩
end Go.Proofs.YtpfebfckolbnmaaDoor.Sc
