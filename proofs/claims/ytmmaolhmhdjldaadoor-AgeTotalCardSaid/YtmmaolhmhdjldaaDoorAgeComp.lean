/- slices.Compact at identities, walked. -/
import Derived.Test.YtmmaolhmhdjldaaDoorAgeClone
import Derived.Outline
namespace Go.Proofs.YtmmaolhmhdjldaaDoor.AgeS
open Go.RowKit Go.Proofs.YtmmaolhmhdjldaaDoor.Cls

/-- Those of the first j that are not as the one ahead of them. -/
def dd (D : Nat → Int × Int) : Nat → List (Int × Int)
  | 0 => []
  | j + 1 => if 0 < j ∧ D j = D (j - 1) then dd D j else dd D j ++ [D j]

theorem dd_eq {D : Nat → Int × Int} {j : Nat} (h0 : 0 < j) (h : D j = D (j - 1)) : dd D (j + 1) = dd D j := by
  show (if 0 < j ∧ D j = D (j - 1) then dd D j else dd D j ++ [D j]) = _
  rw [if_pos ⟨h0, h⟩]
theorem dd_ne {D : Nat → Int × Int} {j : Nat} (h : ¬ D j = D (j - 1)) : dd D (j + 1) = dd D j ++ [D j] := by
  show (if 0 < j ∧ D j = D (j - 1) then dd D j else dd D j ++ [D j]) = _
  rw [if_neg (fun e => h e.2)]
theorem dd_le (D : Nat → Int × Int) : ∀ j, (dd D j).length ≤ j
  | 0 => Nat.le_refl _
  | j + 1 => by
    unfold dd
    have := dd_le D j
    split
    · omega
    · rw [List.length_append]; simp; omega

def at_ (l : List (Int × Int)) (i : Nat) : Int × Int := l.getD i (0, 0)
theorem at_left {l : List (Int × Int)} {x : Int × Int} {i : Nat} (h : i < l.length) : at_ (l ++ [x]) i = at_ l i := by
  unfold at_
  rw [List.getD_eq_getElem?_getD, List.getElem?_append_left h, List.getD_eq_getElem?_getD]
theorem at_last (l : List (Int × Int)) (x : Int × Int) : at_ (l ++ [x]) l.length = x := by
  unfold at_
  rw [List.getD_eq_getElem?_getD, List.getElem?_append_right (Nat.le_refl _), Nat.sub_self]; rfl

theorem eqId (x y : Int × Int) (bb : Bool) (h : decide (x = y) = bb) (w : World) : (binOp .eql 23 (.agg #[.int .i64 x.1, .int .i64 x.2]) (.agg #[.int .i64 y.1, .int .i64 y.2])).run Tryd.prog w = .ok (.bool bb) w := by
  rw [eq23, ← h]
  congr 2
  obtain ⟨x1, x2⟩ := x
  obtain ⟨y1, y2⟩ := y
  by_cases h1 : x1 = y1 <;> by_cases h2 : x2 = y2 <;> simp [h1, h2]

theorem neId (x y : Int × Int) (bb : Bool) (h : decide (x = y) = bb) (w : World) : (binOp .neq 23 (.agg #[.int .i64 x.1, .int .i64 x.2]) (.agg #[.int .i64 y.1, .int .i64 y.2])).run Tryd.prog w = .ok (.bool (!bb)) w := by
  have hu := Tryd.underlying23
  rw [← h]
  obtain ⟨x1, x2⟩ := x
  obtain ⟨y1, y2⟩ := y
  go_simp
  by_cases h1 : x1 = y1 <;> by_cases h2 : x2 = y2 <;> simp [h1, h2]

theorem grownBy_set2 (w : World) (q g i j : Nat) (u v : Value) : w.grownBy (((w.drewN q).setCell ⟨g, i, none⟩ u).setCell ⟨g, j, none⟩ v) (some g) :=
  ⟨rfl, rfl, rfl, by simp, fun k _ hk => by
    have hne : k ≠ g := fun e => hk (by rw [e])
    rw [Below.heap_setCell _ _ _ _ hne, Below.heap_setCell _ _ _ _ hne]; rfl⟩

theorem zeroId (w : World) : (zeroValue 23).run Tryd.prog w = .ok (.agg #[.int .i64 0, .int .i64 0]) w := by kernel_rfl

theorem clearIds (w : World) (ty : TypeId) (b o n c : Nat) (hn : 0 < n) (hc : ∀ j, j < n * 2 → (w.cell? ⟨b, o + j, none⟩).isSome = true) (hf : ∀ j, j < n * 2 → w.frozen? ⟨b, o + j, none⟩ = false) :
    (Builtin.clear_ #[37] ty #[.slice (some ⟨b, o, none⟩) n c]).run Tryd.prog w = .ok (.tuple #[]) (w.setCells b o (List.replicate (n * 2) (.int .i64 0))) := by
  have hzc : (Builtin.zeroCells (Value.agg #[.int .i64 0, .int .i64 0]).cells n).toList = List.replicate (n * 2) (.int .i64 0) := by
    apply List.ext_getElem
    · simp [Builtin.zeroCells, Value.cells]
    · intro i h1 h2
      simp [Builtin.zeroCells, Value.cells]
      rcases (show i % 2 = 0 ∨ i % 2 = 1 by omega) with e | e <;> simp [e]
  have hst := run_storeCells_cells (P := Tryd.prog) b o (List.replicate (n * 2) (.int .i64 0)) 0 w (by simpa using hc) (by simpa using hf) (by intro v hv'; rw [List.eq_of_mem_replicate hv']; rfl)
  simp only [Nat.add_zero] at hst
  obtain ⟨m, rfl⟩ : ∃ m, n = m + 1 := ⟨n - 1, by omega⟩
  simp [Builtin.clear_, run_underlying Tryd.underlying37, hzc, hst]

/-- What the outer loop holds. -/
def RelC (D : Nat → Int × Int) (n base g cap : Nat) (w : World) (gh : Nat) (v3 : Value) (wr : World) : Prop :=
  ∃ k : Nat, k + 1 + gh = n ∧ v3 = .int .i64 ((k + 1 : Nat) : Int) ∧ (dd D (k + 1)).length = k + 1 ∧ (∀ i, i < k + 1 → at_ (dd D (k + 1)) i = D i) ∧ OwnIds wr base g n cap D ∧ w.grownBy wr (some g)
/-- What the inner loop holds. -/
def RelD (D : Nat → Int × Int) (n base g cap kk : Nat) (w : World) (gh : Nat) (v3 v5 : Value) (wr : World) : Prop :=
  ∃ (j : Nat) (Y : Nat → Int × Int), kk + 1 + j + gh = n ∧ v5 = .int .i64 ((j + 1 : Nat) : Int) ∧ v3 = .int .i64 ((dd D (kk + 1 + j)).length : Int) ∧ (dd D (kk + 1 + j)).length ≤ kk + j ∧
    (∀ i, i < (dd D (kk + 1 + j)).length → Y i = at_ (dd D (kk + 1 + j)) i) ∧ (∀ i, kk + j ≤ i → Y i = D i) ∧ OwnIds wr base g n cap Y ∧ w.grownBy wr (some g)

theorem compact_short (v : Addr) (n cap : Nat) (h : n < 2) (w : World) : Calls Tryd.prog 32 #[.slice (some v) n cap] w fun e w' => e = .returned (.slice (some v) n cap) ∧ w = w' := by
  have h1 : decide ((n : Int) < 2) = true := decide_eq_true (by omega)
  go_enter Tryd.func32, Tryd.ntmps32
  go_wp2_with fail
  go_ret
  exact ⟨rfl, rfl⟩
theorem compact_nil (w : World) : Calls Tryd.prog 32 #[.slice none 0 0] w fun e w' => e = .returned (.slice none 0 0) ∧ w = w' := by
  go_enter Tryd.func32, Tryd.ntmps32
  go_wp2_with fail
  go_ret
  exact ⟨rfl, rfl⟩

set_option maxRecDepth 100000 in
set_option maxHeartbeats 4000000 in
theorem compact_any (D : Nat → Int × Int) (base g n cap : Nat) (h2 : 2 ≤ n) (hn : n ≤ 4000) (w : World) (hO : OwnIds w base g n cap D) :
    Calls Tryd.prog 32 #[.slice (some ⟨g, 0, none⟩) n cap] w fun e w' => e = .returned (.slice (some ⟨g, 0, none⟩) (dd D n).length cap) ∧ OwnIds w' base g (dd D n).length cap (at_ (dd D n)) ∧ w.grownBy w' (some g) := by
  have h1 : decide ((n : Int) < 2) = false := decide_eq_false (by omega)
  have HO := Lib.hid hO
  have hb := hO.bounds
  obtain ⟨hb1, hb2, hb3, hb4⟩ := hb
  unfold maxLen at hb4
  clear hO
  go_enter Tryd.func32, Tryd.ntmps32
  go_wp2_with fail
  go_loopg [3] (n - 1) (RelC D n base g cap w)
  case atStart =>
    refine ⟨0, by omega, rfl, rfl, fun i hi => ?_, HO.out, ⟨rfl, rfl, rfl, Nat.le_refl _, fun _ _ _ => rfl⟩⟩
    have e : i = 0 := by omega
    subst e
    rfl
  case round =>
    obtain ⟨gk1, hgk⟩ : ∃ x, x = gk := ⟨_, rfl⟩
    rw [← hgk] at hrel
    obtain ⟨k, hk, rfl, hlen, hat, hown, hgr⟩ := hrel
    have HGK := Lib.hid hgk
    have HL := Lib.hid hlen
    have HT := Lib.hid hat
    have HW := Lib.hid hown
    have HG := Lib.hid hgr
    clear hgk hlen hat hown hgr
    by_cases hl : k + 1 < n
    · have c0 := (HW.out.cells (k + 1) hl).1
      have c1 := (HW.out.cells (k + 1) hl).2
      have d0 := (HW.out.cells k (by omega)).1
      have d1 := (HW.out.cells k (by omega)).2
      simp only [Nat.zero_add] at c0 c1 d0 d1
      obtain ⟨bb, hbb⟩ : ∃ bb, decide (D (k + 1) = D k) = bb := ⟨_, rfl⟩
      have he := eqId (D (k + 1)) (D k) bb hbb
      have HB := Lib.hid hbb
      clear hbb
      have i1 : 0 ≤ (k : Int) + 1 := by omega
      have i2 : (k : Int) + 1 < (n : Int) := by omega
      have i3 : 0 ≤ (k : Int) := by omega
      have i4 : (k : Int) < (n : Int) := by omega
      generalize hX : D (k + 1) = x at c0 c1 he
      generalize hY : D k = y at d0 d1 he
      clear hX hY
      obtain ⟨x0, x1⟩ := x
      obtain ⟨y0, y1⟩ := y
      simp only at c0 c1 d0 d1 he
      go_wp2_with fail
      go_quiet (fail)
      cases bb with
      | false =>
        have NE : Hid (dd D (k + 2) = dd D (k + 1) ++ [D (k + 1)]) := dd_ne (fun e => by have := of_decide_eq_false HB.out; exact this e)
        go_wp2_with fail
        go_roundg (gk1 - 1)
        case measure => have := HGK.out; omega
        case rel =>
          refine ⟨k + 1, by omega, by go_num, by rw [NE.out, List.length_append, HL.out]; rfl, fun i hi => ?_, HW.out.drewN _, ?_⟩
          · rw [NE.out]
            by_cases e : i = k + 1
            · subst e
              have := at_last (dd D (k + 1)) (D (k + 1))
              rw [HL.out] at this
              exact this
            · rw [at_left (by rw [HL.out]; omega)]; exact HT.out i (by omega)
          · exact HG.out.trans ⟨rfl, rfl, rfl, Nat.le_refl _, fun _ _ _ => rfl⟩
      | true =>
        have EQ : Hid (dd D (k + 2) = dd D (k + 1)) := dd_eq (by omega) (of_decide_eq_true HB.out)
        clear he HB c0 c1 d0 d1 i1 i2 i3 i4
        go_wp2_with fail
        go_loopg [3, 5] (n - (k + 2)) (RelD D n base g cap (k + 1) w)
        case atStart =>
          refine ⟨0, D, by omega, rfl, ?_, ?_, fun i hi => ?_, fun _ _ => rfl, HW.out.drewN _, HG.out.trans ⟨rfl, rfl, rfl, Nat.le_refl _, fun _ _ _ => rfl⟩⟩
          · rw [show k + 1 + 1 + 0 = k + 2 by omega, EQ.out, HL.out]
          · rw [show k + 1 + 1 + 0 = k + 2 by omega, EQ.out, HL.out]; omega
          · rw [show k + 1 + 1 + 0 = k + 2 by omega, EQ.out] at hi ⊢
            exact (HT.out i (by rw [HL.out] at hi; exact hi)).symm
        case round =>
          clear EQ HW HG
          obtain ⟨gk2, hgk2⟩ : ∃ x, x = gk := ⟨_, rfl⟩
          rw [← hgk2] at hrel
          obtain ⟨j, Y, hj, rfl, rfl, hle, hY1, hY2, hown, hgr⟩ := hrel
          have HGK2 := Lib.hid hgk2
          have H1 := Lib.hid hY1
          have H2 := Lib.hid hY2
          have HW := Lib.hid hown
          have HG := Lib.hid hgr
          clear hgk2 hY1 hY2 hown hgr
          by_cases hl2 : k + 1 + 1 + j < n
          · have c0 := (HW.out.cells (k + 1 + (j + 1)) (by omega)).1
            have c1 := (HW.out.cells (k + 1 + (j + 1)) (by omega)).2
            have d0 := (HW.out.cells (k + 1 + j) (by omega)).1
            have d1 := (HW.out.cells (k + 1 + j) (by omega)).2
            rw [H2.out (k + 1 + (j + 1)) (by omega)] at c0 c1
            rw [H2.out (k + 1 + j) (by omega)] at d0 d1
            simp only [Nat.zero_add, Nat.add_mul (k + 1) (j + 1), Nat.add_mul (k + 1) j] at c0 c1 d0 d1
            obtain ⟨bb, hbb⟩ : ∃ bb, decide (D (k + 1 + (j + 1)) = D (k + 1 + j)) = bb := ⟨_, rfl⟩
            have he := neId (D (k + 1 + (j + 1))) (D (k + 1 + j)) bb hbb
            have HB := Lib.hid hbb
            clear hbb
            have HX : Hid (D (k + 1 + (j + 1)) = D (k + 1 + (j + 1))) := rfl
            generalize hX : D (k + 1 + (j + 1)) = x at c0 c1 he
            generalize hY : D (k + 1 + j) = y at d0 d1 he
            have HXX := Lib.hid hX
            clear hX hY HX
            obtain ⟨x0, x1⟩ := x
            obtain ⟨y0, y1⟩ := y
            simp only at c0 c1 d0 d1 he
            have i1 : 0 ≤ (j : Int) + 1 := by omega
            have i3 : 0 ≤ (j : Int) := by omega
            have hlt : (dd D (k + 1 + 1 + j)).length < n := by omega
            have HLT := Lib.hid hlt
            clear hlt
            obtain ⟨L, hL⟩ : ∃ L, L = (dd D (k + 1 + 1 + j)).length := ⟨_, rfl⟩
            rw [← hL]
            rw [← hL] at hle
            have hLn : L < n := by omega
            have p0 := (HW.out.cells L hLn).1
            have p1 := (HW.out.cells L hLn).2
            have f0 := World.ownsRow.frozenAt HW.out (L * 2)
            have f1 := World.ownsRow.frozenAt HW.out (L * 2 + 1)
            simp only [Nat.zero_add] at p0 p1
            have HLL := Lib.hid hL
            clear hL
            go_wp2_with fail
            go_quiet (fail)
            cases bb with
            | false =>
              simp only [Bool.not_false]
              have NE : Hid (dd D (k + 1 + 1 + (j + 1)) = dd D (k + 1 + 1 + j) ++ [D (k + 1 + 1 + j)]) := dd_ne (j := k + 1 + 1 + j) (fun e => by have h := of_decide_eq_false HB.out; rw [show k + 1 + (j + 1) = k + 1 + 1 + j by omega] at h; rw [show k + 1 + 1 + j - 1 = k + 1 + j by omega] at e; exact h e)
              have hx : D (k + 1 + 1 + j) = (x0, x1) := by rw [show k + 1 + 1 + j = k + 1 + (j + 1) by omega]; exact HXX.out
              have HX := Lib.hid hx
              clear hx
              go_wp2_with fail
              go_roundg (gk2 - 1)
              case measure => have := HGK2.out; omega
              case rel =>
                refine ⟨j + 1, put Y L (x0, x1), by omega, by go_num, ?_, ?_, fun i hi => ?_, fun i hi => ?_, (HW.out.drewN _).store L hLn (x0, x1), HG.out.trans (grownBy_set2 _ _ _ _ _ _ _)⟩
                · rw [NE.out, List.length_append, ← HLL.out]; rfl
                · rw [NE.out, List.length_append, ← HLL.out]; simp; omega
                · rw [NE.out] at hi ⊢
                  rw [HX.out] at hi ⊢
                  by_cases e : i = L
                  · subst e
                    rw [put_same, HLL.out, at_last]
                  · rw [put_other Y _ e, at_left (by rw [List.length_append, ← HLL.out] at hi; rw [← HLL.out]; simp at hi; omega)]
                    refine H1.out i ?_
                    rw [List.length_append, ← HLL.out] at hi; rw [← HLL.out]; simp at hi; omega
                · rw [put_other Y _ (by omega)]
                  exact H2.out i (by omega)
            | true =>
              simp only [Bool.not_true]
              have EQ : Hid (dd D (k + 1 + 1 + (j + 1)) = dd D (k + 1 + 1 + j)) := dd_eq (j := k + 1 + 1 + j) (by omega) (by have h := of_decide_eq_true HB.out; rw [show k + 1 + (j + 1) = k + 1 + 1 + j by omega] at h; rw [show k + 1 + 1 + j - 1 = k + 1 + j by omega]; exact h)
              go_wp2_with fail
              go_roundg (gk2 - 1)
              case measure => have := HGK2.out; omega
              case rel =>
                refine ⟨j + 1, Y, by omega, by go_num, by rw [EQ.out, HLL.out], by rw [EQ.out, ← HLL.out]; omega, fun i hi => ?_, fun i hi => H2.out i (by omega), HW.out.drewN _, HG.out.trans ⟨rfl, rfl, rfl, Nat.le_refl _, fun _ _ _ => rfl⟩⟩
                rw [EQ.out] at hi ⊢
                exact H1.out i hi
          · have hJ : k + 1 + 1 + j = n := by omega
            rw [hJ] at hle H1 ⊢
            have HCL := fun ty => clearIds wr ty g ((dd D n).length * 2) (n - (dd D n).length) (cap - (dd D n).length) (by omega) (fun q hq => by
              have h := World.ownsRow.cellAt HW.out ((dd D n).length * 2 + q) (by omega)
              rw [h]
              rw [List.getElem?_eq_getElem (by rw [idCells_len]; omega)]
              rfl) (fun q hq => World.ownsRow.frozenAt HW.out _)
            obtain ⟨hS1, hS2⟩ := ((HW.out.shrink (k := (dd D n).length) (by omega)).congr (Y := at_ (dd D n)) H1.out).setPast ((dd D n).length * 2) (Nat.le_refl _) (List.replicate ((n - (dd D n).length) * 2) (.int .i64 0))
            have HS1 := Lib.hid hS1
            have HS2 := Lib.hid hS2
            clear hS1 hS2 H1
            have hc0 : ¬ cap = (dd D n).length := by omega
            go_wp2_with (simp only [HCL])
            go_ret
            exact ⟨rfl, HS1.out, HG.out.trans HS2.out⟩
    · obtain rfl : k + 1 = n := by omega
      go_wp2_with fail
      go_ret
      refine ⟨by rw [HL.out]; rfl, ?_, HG.out⟩
      rw [HL.out]
      exact HW.out.congr (fun i hi => (HT.out i hi).symm)
end Go.Proofs.YtmmaolhmhdjldaaDoor.AgeS
