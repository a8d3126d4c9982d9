/- The law HistoryChecks, walked. -/
import Derived.Test.YtmmaolhmhdjldaaHistP
import Derived.ArgAppend
import Derived.Laws.OwnMore
namespace Go.Proofs.Ytmmaolhmhdjldaa.Hist
open Go.RowKit Go.Proofs.Ytmmaolhmhdjldaa.Cls Go.Proofs.Ytmmaolhmhdjldaa.MapF Go.Maps

def zeroAct : Value := .agg #[.int .i64 0, .int .i64 0, .int .i64 0, .int .i64 0, .string ByteArray.empty, .string ByteArray.empty, .bool false, .int .i64 0, .int .i64 0, .int .i64 0, .int .i64 0]
theorem info61 : (Try.prog.info? 61).map (fun i => (i.zero, i.size, i.bytes)) = some (some zeroAct, 11, 104) := by kernel_rfl

/-- The cells of n acts. -/
def actCells (X : Nat → AV) : Nat → List Value
  | 0 => []
  | n + 1 => actCells X n ++ (X n).cells

theorem cells_len (x : AV) : x.cells.length = 11 := rfl
theorem actCells_len (X : Nat → AV) : ∀ n, (actCells X n).length = n * 11
  | 0 => rfl
  | n + 1 => by unfold actCells; rw [List.length_append, actCells_len X n, cells_len]; omega

theorem actCells_at (X : Nat → AV) : ∀ n i r, i < n → r < 11 → (actCells X n)[i * 11 + r]? = (X i).cells[r]?
  | 0, _, _, h, _ => by omega
  | n + 1, i, r, h, hr => by
    unfold actCells
    by_cases e : i = n
    · subst e
      rw [List.getElem?_append_right (by rw [actCells_len]; omega), actCells_len, Nat.add_sub_cancel_left]
    · rw [List.getElem?_append_left (by rw [actCells_len]; omega)]
      exact actCells_at X n i r (by omega) hr

theorem actCells_get {X : Nat → AV} {n j : Nat} {u : Value} (h : (actCells X n)[j]? = some u) : ∃ i r, i < n ∧ r < 11 ∧ j = i * 11 + r ∧ (X i).cells[r]? = some u := by
  have hj : j < n * 11 := by rw [← actCells_len X n]; exact (List.getElem?_eq_some_iff.1 h).1
  refine ⟨j / 11, j % 11, by omega, by omega, by omega, ?_⟩
  rw [← actCells_at X n (j / 11) (j % 11) (by omega) (by omega)]
  rw [show j / 11 * 11 + j % 11 = j by omega]
  exact h

theorem cells_one (x : AV) : ∀ u ∈ x.cells, u.oneCell' = true := by
  intro u hu
  simp [AV.cells] at hu
  rcases hu with rfl | rfl | rfl | rfl | rfl | rfl | rfl | rfl | rfl | rfl | rfl <;> rfl

theorem actCells_one (X : Nat → AV) : ∀ n, ∀ u ∈ actCells X n, u.oneCell' = true
  | 0, _, h => by cases h
  | n + 1, u, h => by
    unfold actCells at h
    rcases List.mem_append.1 h with h | h
    · exact actCells_one X n u h
    · exact cells_one _ u h

/-- What the comparing loop holds. -/
def RelW (n : Nat) (w1 w3 : World) (v4 : Value) (wr : World) : Prop := ∃ k : Nat, k ≤ n ∧ v4 = .int .i64 k ∧ Below w3.heap.size w3 wr

theorem hist_many (A : Option Addr) (n cap : Nat) (h : 400 < n) (w : World) :
    Calls Try.prog 9 #[.slice A n cap] w fun e w' => e = .returned (.bool true) ∧ Below w.heap.size w w' := by
  have h1 : decide (400 < n) = true := decide_eq_true h
  go_enter Try.func9, Try.ntmps9
  go_wp2_with fail
  go_ret
  exact ⟨rfl, Below.refl _ _⟩

set_option maxRecDepth 100000 in
theorem hist_some (X : Nat → AV) (ab ao n cap : Nat) (hn : n ≤ cap) (hc : cap ≤ 9223372036854775807) (h400 : n ≤ 400) (hp : 0 < n) (w : World) (hab : ab < w.heap.size) (hA : ActsAt w ⟨ab, ao, none⟩ n X) (hwf : ∀ i, i < n → (Lit.int .i64 (X i).cl).wf = true) :
    Calls Try.prog 9 #[.slice (some ⟨ab, ao, none⟩) n cap] w fun e w' => e = .returned (.bool true) ∧ Below w.heap.size w w' := by
  have h1 : decide ((400 : Int) < (n : Int)) = false := decide_eq_false (by omega)
  have HA := Lib.hid hA
  have HW := Lib.hid hwf
  clear hA hwf
  obtain ⟨i0, hi, hz0, hz1, hz2⟩ := info_parts info61
  have OWN : Hid ((w.alloc (.cells #[] 61)).ownsRow w.heap.size 61 11 (.slice (some ⟨w.heap.size, 0, none⟩) 0 0) 0 []) := World.ownsRow_made w #[] 0 (Nat.le_refl _) (by unfold maxLen; omega) rfl
  have NEWS : Hid (∀ j u, (actCells X n)[j]? = some u → (w.alloc (.cells #[] 61)).cell? ((⟨ab, ao, none⟩ : Addr).add j) = some u) := fun j u h => by
    obtain ⟨i, r, hi, hr, rfl, hu⟩ := actCells_get h
    rw [← HA.out i hi r u hu]
    exact ((Below.refl w.heap.size w).alloc (Nat.le_refl _) _).cell (p := (⟨ab, ao, none⟩ : Addr).add (i * 11 + r)) (by rw [add_mk]; exact hab)
  go_enter Try.func9, Try.ntmps9
  go_wp2_with (at_builtin; refine wpList_append_own _ rfl _ _ 58 rfl w.heap.size 61 i0 zeroAct 11 104 Try.underlying58 hi hz0 hz1 hz2 rfl (by decide) _ 0 [] rfl OWN.out ⟨ab, ao, none⟩ n cap (actCells X n) rfl (actCells_len X n) NEWS.out (actCells_one X n) (by unfold maxLen; omega) (by omega) (by simp) ?_; intro v' w1 hown hgrow hnil)
  obtain ⟨g, cap', cur, rfl, hg, _, hn', hc', _, _⟩ : ∃ g cap' cur, v' = .slice (some ⟨g, 0, none⟩) n cap' ∧ w.heap.size ≤ g ∧ w1.heap[g]? = some (.cells cur 61 (0, 0)) ∧ n ≤ cap' ∧ cap' ≤ maxLen ∧ cur.size = cap' * 11 ∧ cur.toList.take (n * 11) = actCells X n := by
    rw [Nat.zero_add, List.nil_append] at hown
    rcases hown.2 with ⟨_, h0⟩ | h
    · omega
    · exact h
  have HO := Lib.hid hown
  have HG : Hid ((w.alloc (.cells #[] 61)).grownBy w1 (some w.heap.size)) := hgrow
  clear hown hgrow hnil
  have HC1 : Hid (cap' ≤ 9223372036854775807) := hc'
  have B1 : Hid (Below w.heap.size w w1) := ((Below.refl w.heap.size w).alloc (Nat.le_refl _) _).grown HG.out (by simp) (fun j hj => by cases hj; exact Nat.le_refl _)
  have hgl : g < w1.heap.size := (HO.out.lt g rfl).2
  have AO : Hid (ActsAt w1 ⟨g, 0, none⟩ n X) := fun i hi r u hu => by
    have hr : r < 11 := (List.getElem?_eq_some_iff.1 hu).1
    refine HO.out.cells (g := g) rfl (i * 11 + r) u ?_
    rw [List.nil_append, actCells_at X n i r hi hr]
    exact hu
  have AA : Hid (ActsAt w1 ⟨ab, ao, none⟩ n X) := fun i hi r u hu => by
    rw [B1.out.cell (p := (⟨ab, ao, none⟩ : Addr).add (i * 11 + r)) (by rw [add_mk]; exact hab)]
    exact HA.out i hi r u hu
  have CP : Hid (Calls Try.prog 39 #[.slice (some ⟨g, 0, none⟩) n cap'] w1 fun e w' => e = .returned (.int .i64 (if allR X n then 0 else 270)) ∧ Below w1.heap.size w1 w') := by
    have := histCheck X g 0 n cap' hn' HC1.out h400 w1 hgl AO.out HW.out
    rw [all_eq] at this
    exact this
  have CR : Hid (∀ w2, Below w1.heap.size w1 w2 → Calls Try.prog 40 #[.slice (some ⟨ab, ao, none⟩) n cap] w2 fun e w' => e = .returned (.int .i64 (if allR X n then 0 else 270)) ∧ Below w2.heap.size w2 w') := fun w2 hb => by
    have h1 : w.heap.size ≤ w1.heap.size := B1.out.size
    have h2 : w1.heap.size ≤ w2.heap.size := hb.size
    refine refCheck X ab ao n cap hn hc w2 (by omega) ?_
    intro i hi r u hu
    rw [hb.cell (p := (⟨ab, ao, none⟩ : Addr).add (i * 11 + r)) (by rw [add_mk]; show ab < _; omega)]
    exact AA.out i hi r u hu
  generalize (if allR X n then (0 : Int) else 270) = R at CP CR
  refine CP.out.mono ?_
  rintro e w2 ⟨rfl, hb2⟩
  have B2 := Lib.hid hb2
  clear hb2
  go_wp2_with fail
  refine (CR.out _ B2.out).mono ?_
  rintro e w3 ⟨rfl, hb3⟩
  have B3 : Hid (Below w1.heap.size w1 w3) := B2.out.trans (hb3.mono B2.out.size)
  clear hb3
  go_wp2_with fail
  go_loopw [4] (RelW n w1 w3) (fun v4 _ => n - (intOf v4).toNat)
  case atStart => exact ⟨0, by omega, rfl, Below.refl _ _⟩
  case round =>
    obtain ⟨k, hk, rfl, hb⟩ := hrel
    have B4 := Lib.hid hb
    clear hb
    by_cases hl : k < n
    · have s1 : w1.heap.size ≤ w3.heap.size := B3.out.size
      have s0 : w.heap.size ≤ w1.heap.size := B1.out.size
      have BB : Hid (Below w1.heap.size w1 wr) := B3.out.trans (B4.out.mono s1)
      have hC := (AA.out.act (show ab < w1.heap.size by omega) hl).below (show ab < w1.heap.size by omega) BB.out
      have hD := (AO.out.act hgl hl).below hgl BB.out
      obtain ⟨_, c0, c1, c2, c3, c4, c5, c6, c7, c8, c9, c10⟩ := hC
      obtain ⟨_, d0, d1, d2, d3, d4, d5, d6, d7, d8, d9, d10⟩ := hD
      simp only [Nat.zero_add] at d0 d1 d2 d3 d4 d5 d6 d7 d8 d9 d10
      have i1 : 0 ≤ (k : Int) ∧ (k : Int) < (n : Int) := ⟨by omega, by omega⟩
      obtain ⟨i2, i3⟩ := i1
      generalize X k = x at *
      go_wp2_with fail
      go_quiet (fail)
      go_wp2_with fail
      go_roundw
      case rel => exact ⟨k + 1, by omega, by go_num, below_drewN B4.out _⟩
      case measure => simp [intOf]; omega
    · obtain rfl : k = n := by omega
      go_wp2_with fail
      go_ret
      exact ⟨rfl, B1.out.trans ((B3.out.trans (B4.out.mono B3.out.size)).mono B1.out.size)⟩

set_option maxRecDepth 100000 in
theorem histCheck_zero (A : Option Addr) (cap : Nat) (w : World) : Calls Try.prog 39 #[.slice A 0 cap] w fun e w' => e = .returned (.int .i64 0) ∧ Below w.heap.size w w' := by
  have hmm := @run_makeMap Try.prog
  go_enter Try.func39, Try.ntmps39
  go_wp2
  go_loopg [4, 12] 0 (fun _ _ v12 wr => v12 = .int .i64 0 ∧ Below w.heap.size w wr)
  case atStart => exact ⟨rfl, (Below.refl _ _).alloc (Nat.le_refl _) _⟩
  case round =>
    obtain ⟨rfl, hb⟩ := hrel
    go_wp2_with fail
    go_ret
    exact ⟨rfl, hb⟩

set_option maxRecDepth 100000 in
theorem refCheck_zero (A : Option Addr) (cap : Nat) (w : World) : Calls Try.prog 40 #[.slice A 0 cap] w fun e w' => e = .returned (.int .i64 0) ∧ Below w.heap.size w w' := by
  go_enter Try.func40, Try.ntmps40
  go_wp2
  go_loopg [3] 0 (fun _ v3 wr => v3 = .int .i64 0 ∧ Below w.heap.size w wr)
  case atStart => exact ⟨rfl, Below.refl _ _⟩
  case round =>
    obtain ⟨rfl, hb⟩ := hrel
    go_wp2_with fail
    go_ret
    exact ⟨rfl, hb⟩

set_option maxRecDepth 100000 in
theorem hist_zero (A : Option Addr) (cap : Nat) (hA : A = none → cap = 0) (w : World) :
    Calls Try.prog 9 #[.slice A 0 cap] w fun e w' => e = .returned (.bool true) ∧ Below w.heap.size w w' := by
  obtain ⟨i0, hi, hz0, hz1, hz2⟩ := info_parts info61
  have OWN : Hid ((w.alloc (.cells #[] 61)).ownsRow w.heap.size 61 11 (.slice (some ⟨w.heap.size, 0, none⟩) 0 0) 0 []) := World.ownsRow_made w #[] 0 (Nat.le_refl _) (by unfold maxLen; omega) rfl
  cases A with
  | none =>
    obtain rfl := hA rfl
    go_enter Try.func9, Try.ntmps9
    go_wp2_with (first | (at_builtin; refine wpList_append_own_none rfl _ _ 58 rfl w.heap.size 61 i0 11 Try.underlying58 hi _ 0 [] rfl OWN.out rfl ?_) | (go_at_call 39; refine (histCheck_zero _ _ _).mono ?_; rintro e w2 ⟨rfl, hb2⟩) | (go_at_call 40; refine (refCheck_zero _ _ _).mono ?_; rintro e w3 ⟨rfl, hb3⟩))
    have BZ : Below w.heap.size w w3 := (((Below.refl w.heap.size w).alloc (Nat.le_refl _) (.cells #[] 61)).trans (hb2.mono (by simp))).trans (hb3.mono (by have := hb2.size; simp at this; omega))
    go_loopg [4] 0 (fun _ v4 wr => v4 = .int .i64 0 ∧ Below w.heap.size w wr)
    case atStart => exact ⟨rfl, BZ⟩
    case round =>
      obtain ⟨rfl, hb⟩ := hrel
      go_wp2_with fail
      go_ret
      exact ⟨rfl, hb⟩
  | some ad =>
    go_enter Try.func9, Try.ntmps9
    go_wp2_with (at_builtin; refine wpList_append_own _ rfl _ _ 58 rfl w.heap.size 61 i0 zeroAct 11 104 Try.underlying58 hi hz0 hz1 hz2 rfl (by decide) _ 0 [] rfl OWN.out ad 0 cap [] rfl rfl (fun j u h => by simp at h) (fun u h => by simp at h) (by unfold maxLen; omega) (by omega) (by simp) ?_; intro v' w1 hown hgrow hnil)
    have HG : Hid ((w.alloc (.cells #[] 61)).grownBy w1 (some w.heap.size)) := hgrow
    obtain ⟨A', cap', hv'⟩ : ∃ A' cap', v' = .slice A' 0 cap' := by
      rcases hown.2 with ⟨rfl, _⟩ | ⟨g, c', _, rfl, _⟩
      · exact ⟨_, _, rfl⟩
      · exact ⟨_, _, rfl⟩
    have B1 : Hid (Below w.heap.size w w1) := ((Below.refl w.heap.size w).alloc (Nat.le_refl _) _).grown HG.out (by simp) (fun j hj => by cases hj; exact Nat.le_refl _)
    clear hown hgrow hnil
    subst hv'
    refine (histCheck_zero _ _ _).mono ?_
    rintro e w2 ⟨rfl, hb2⟩
    go_wp2_with fail
    refine (refCheck_zero _ _ _).mono ?_
    rintro e w3 ⟨rfl, hb3⟩
    have BZ : Below w.heap.size w w3 := (B1.out.trans (hb2.mono B1.out.size)).trans (hb3.mono (Nat.le_trans B1.out.size hb2.size))
    clear hb2 hb3
    go_wp2_with fail
    go_loopg [4] 0 (fun _ v4 wr => v4 = .int .i64 0 ∧ Below w.heap.size w wr)
    case atStart => exact ⟨rfl, BZ⟩
    case round =>
      obtain ⟨rfl, hb⟩ := hrel
      go_wp2_with fail
      go_ret
      exact ⟨rfl, hb⟩
end Go.Proofs.Ytmmaolhmhdjldaa.Hist
