/- AgeLists, walked: an empty list; a long one; the whole. -/
import Derived.Test.YtmmaolhmhdjldaaListsA
import Derived.WideShapes
namespace Go.Proofs.Ytmmaolhmhdjldaa.AgeS
open Go.RowKit Go.Proofs.Ytmmaolhmhdjldaa.Cls Go.Proofs.YtmmaolhmhdjldaaW.PrintWords Go.Proofs.Ytmmaolhmhdjldaa.PAgeLists

theorem lists_many (v : Option Addr) (n cap : Nat) (hn : 2000 < n) (w : World) :
    Calls Try.prog 14 #[.slice v n cap] w fun e w' => e = .returned (.bool true) ∧ Below w.heap.size w w' := by
  have big : decide ((2000 : Int) < (n : Int)) = true := decide_eq_true (by omega)
  go_enter Try.func14, Try.ntmps14
  go_wp2_with fail
  go_ret
  exact ⟨rfl, Below.refl _ _⟩

/-- An empty row's value. -/
theorem own_form0 {w : World} {base : Nat} {e : TypeId} {size : Nat} {v : Value} {xs : List Value} (h : w.ownsRow base e size v 0 xs) : ∃ A c, v = .slice A 0 c := by
  rcases h.2 with ⟨h', _⟩ | ⟨g, c, _, h', _⟩
  · exact ⟨none, 0, h'⟩
  · exact ⟨_, _, h'⟩

theorem ref_zero (A0 : Option Addr) (c0 : Nat) (w : World) :
    Calls Try.prog 58 #[.slice A0 0 c0] w fun e w' => ∃ A c, e = .returned (.slice A 0 c) ∧ Below w.heap.size w w' := by
  refine (ref_calls [] (by simp) A0 c0 (Nat.zero_le _) w (kdC_nil w A0)).mono ?_
  rintro e w' ⟨v, r, rfl, _, hz, ho, hb⟩
  have hz' : r.length = 0 := by simpa using hz
  rw [hz'] at ho
  obtain ⟨A, c, rfl⟩ := own_form0 ho
  exact ⟨A, c, rfl, hb⟩

theorem same_zero (A0 A1 : Option Addr) (c0 c1 : Nat) (w : World) : Calls Try.prog 59 #[.slice A0 0 c0, .slice A1 0 c1] w fun e w' => e = .returned (.bool true) ∧ ∃ q, w' = w.drewN q :=
  same_calls [] (by simp) A0 A1 c0 c1 (Nat.zero_le _) (Nat.zero_le _) w (kdC_nil w A0) (kdC_nil w A1)

/-- append of nothing: nil, or an empty slice. -/
theorem wpList_append_zero {w : World} {ops : Array Oper} {rest : List Oper} {o : Oper} {a : Act} {Q : Exit → Act → World → Prop} (hgd : o.guard = none) (s x : Operand)
    (ho : o.op = .call { callee := .builtin .append, args := #[s, x], argTypes := #[94, 94] }) (base : Nat) (i0 : TypeInfo) (hi : Try.prog.info? 23 = some i0) (hz0 : i0.zero = some (.agg #[.int .i64 0, .int .i64 0])) (hz1 : i0.size = 2) (hz2 : i0.bytes = 16)
    (v : Value) (hs : a.eval s = v) (hown : w.ownsRow base 23 2 v 0 []) (hbase : base ≤ w.heap.size) (A : Option Addr) (cap : Nat) (hA : A = none → cap = 0) (hx : a.eval x = .slice A 0 cap)
    (h : ∀ v' w1, w1.ownsRow base 23 2 v' 0 [] → w.grownBy w1 v.ownBlock → wpList Try.prog ops Q rest (a.put o.dst v') w1) : wpList Try.prog ops Q (o :: rest) a w := by
  cases A with
  | none =>
    obtain rfl := hA rfl
    exact wpList_append_own_none hgd s x 94 ho base 23 i0 2 Try.underlying94 hi v 0 [] hs hown hx (h _ _ hown ⟨rfl, rfl, rfl, Nat.le_refl _, fun _ _ _ => rfl⟩)
  | some ad =>
    refine wpList_append_own _ hgd s x 94 ho base 23 i0 (.agg #[.int .i64 0, .int .i64 0]) 2 16 Try.underlying94 hi hz0 hz1 hz2 rfl (by decide) v 0 [] hs hown ad 0 cap [] hx rfl (fun j u h => by simp at h) (fun u h => by simp at h) (by unfold maxLen; omega) (by omega) hbase ?_
    intro v' w1 h1 h2 _
    exact h v' w1 h1 h2

set_option maxRecDepth 100000 in
theorem lists_zero (A : Option Addr) (cap : Nat) (hA : A = none → cap = 0) (w : World) :
    Calls Try.prog 14 #[.slice A 0 cap] w fun e w' => e = .returned (.bool true) ∧ Below w.heap.size w w' := by
  obtain ⟨i0, hi, hz0, hz1, hz2⟩ := info_parts infoId
  have OWN : Hid ((w.alloc (.cells #[] 23)).ownsRow w.heap.size 23 2 (.slice (some ⟨w.heap.size, 0, none⟩) 0 0) 0 []) := World.ownsRow_made w #[] 0 (Nat.le_refl _) (by unfold maxLen; omega) rfl
  go_enter Try.func14, Try.ntmps14
  go_wp2_with (first
    | (at_builtin; refine wpList_append_zero rfl _ _ rfl w.heap.size i0 hi hz0 hz1 hz2 _ rfl OWN.out (by simp) A cap hA rfl ?_; intro v1 w1 hown hgrow; have HB1 := Lib.hid (((Below.refl w.heap.size w).alloc (Nat.le_refl _) _).grown hgrow (by simp) (fun j hj => by cases hj; exact Nat.le_refl _)); have HO := Lib.hid hown; clear hown hgrow OWN)
    | (have OWN2 := Lib.hid (World.ownsRow.alloc HO.out (.cells #[.int .i64 (-7), .int .i64 0] 23)); at_builtin; refine wpList_append_lies _ rfl _ _ 94 rfl w.heap.size 23 i0 (.agg #[.int .i64 0, .int .i64 0]) 2 16 Try.underlying94 hi hz0 hz1 hz2 rfl (by decide) _ 0 [] rfl OWN2.out ⟨w1.heap.size, 0, none⟩ 1 1 (idC (-7, 0)) rfl rfl (cell_alloc2 w1 _ _) (idC_one _) (by omega) (by unfold maxLen; omega) (by omega) (by have := HB1.out.size; simp; omega) _ rfl ?_; intro g2 cap2 w2 hown hgrow hat hlt; have HB2 := Lib.hid ((HB1.out.alloc HB1.out.size _).grown hgrow (by have := HB1.out.size; simp; omega) (fun j hj => (World.ownsRow.lt HO.out j hj).1)); have HO2 : Hid (OwnIds w2 w.heap.size g2 1 cap2 (put (fun _ => (0, 0)) 0 (-7, 0))) := Lib.hid hown; have hn2 : 0 ≤ cap2 := Nat.zero_le _; clear hown hgrow hat hlt OWN2 HO))
  have hg2 : g2 < w2.heap.size := HO2.out.bounds.2.1
  have hg0 : w.heap.size ≤ g2 := HO2.out.bounds.1
  have H7 : Hid (w2.cell? ⟨g2, 0, none⟩ = some (.int .i64 (-7))) := Lib.hid (by have h := (HO2.out.cells 0 (by omega)).1; rw [put_same] at h; exact h)
  have s2 := HB2.out.size
  refine (oldest_none (some ⟨g2, 0, none⟩) cap2 w2).mono ?_
  rintro e w3 ⟨rfl, hb3⟩
  have HB3 := Lib.hid hb3
  clear hb3 HO2 HB1
  have s3 := HB3.out.size
  go_wp2_with fail
  refine (youngest_none (some ⟨g2, 0, none⟩) cap2 _).mono ?_
  rintro e w4 ⟨rfl, hb4⟩
  have HB4 : Hid (Below (w3.heap.size + 1) (w3.alloc (.cells #[.int .i64 0, .int .i64 0] 23)) w4) := Lib.hid (by simpa using hb4)
  have s4 : w3.heap.size + 1 ≤ w4.heap.size := by have := HB4.out.size; simpa using this
  have HB34 : Hid (Below w3.heap.size w3 w4) := Lib.hid (((Below.refl _ _).alloc (Nat.le_refl _) _).trans (HB4.out.mono (by omega)))
  have CA0 : Hid (w4.cell? ⟨w3.heap.size, 0, none⟩ = some (.int .i64 0)) := Lib.hid (by rw [HB4.out.cell (p := ⟨w3.heap.size, 0, none⟩) (by simp)]; simp [go_sem])
  have CA1 : Hid (w4.cell? ⟨w3.heap.size, 1, none⟩ = some (.int .i64 0)) := Lib.hid (by rw [HB4.out.cell (p := ⟨w3.heap.size, 1, none⟩) (by simp)]; simp [go_sem])
  clear hb4 HB4
  go_wp2_with fail
  refine (age_sort_empty ⟨g2, 0, none⟩ cap2 _).mono ?_
  rintro e w5 ⟨Ax, capx, rfl, hx, hb5⟩
  have HB5 : Hid (Below (w4.heap.size + 1) (w4.alloc (.cells #[.int .i64 0, .int .i64 0] 23)) w5) := Lib.hid (by simpa using hb5)
  have s5 : w4.heap.size + 1 ≤ w5.heap.size := by have := HB5.out.size; simpa using this
  have HB45 : Hid (Below w4.heap.size w4 w5) := Lib.hid (((Below.refl _ _).alloc (Nat.le_refl _) _).trans (HB5.out.mono (by omega)))
  have CB0 : Hid (w5.cell? ⟨w4.heap.size, 0, none⟩ = some (.int .i64 0)) := Lib.hid (by rw [HB5.out.cell (p := ⟨w4.heap.size, 0, none⟩) (by simp)]; simp [go_sem])
  have CB1 : Hid (w5.cell? ⟨w4.heap.size, 1, none⟩ = some (.int .i64 0)) := Lib.hid (by rw [HB5.out.cell (p := ⟨w4.heap.size, 1, none⟩) (by simp)]; simp [go_sem])
  have HX5 : Hid (w5.ownsRow (w4.heap.size + 1) 23 2 (.slice (some Ax) 0 capx) 0 []) := Lib.hid (by simpa using hx)
  clear hb5 hx HB5
  go_wp2_with fail
  refine (age_sort_empty ⟨g2, 0, none⟩ cap2 _).mono ?_
  rintro e w6 ⟨Ay, capy, rfl, _, hb6⟩
  have HB6 := Lib.hid hb6
  clear hb6
  have s6 := HB6.out.size
  go_wp2_with fail
  refine (ref_zero A cap w6).mono ?_
  rintro e w7 ⟨Az, capz, rfl, hb7⟩
  have HB7 := Lib.hid hb7
  clear hb7
  have s7 := HB7.out.size
  have HB57 : Hid (Below w5.heap.size w5 w7) := Lib.hid (HB6.out.trans (HB7.out.mono (by omega)))
  have HB47 : Hid (Below w4.heap.size w4 w7) := Lib.hid (HB45.out.trans (HB57.out.mono (by omega)))
  have HB27 : Hid (Below w2.heap.size w2 w7) := Lib.hid ((HB3.out.trans (HB34.out.mono (by omega))).trans (HB47.out.mono (by omega)))
  have LB7 : Hid (Below w.heap.size w w7) := Lib.hid (HB2.out.trans (HB27.out.mono (by omega)))
  have PA0 : Hid (w7.cell? ⟨w3.heap.size, 0, none⟩ = some (.int .i64 0)) := Lib.hid ((HB47.out.cell (p := ⟨w3.heap.size, 0, none⟩) (show w3.heap.size < w4.heap.size by omega)).trans CA0.out)
  have PA1 : Hid (w7.cell? ⟨w3.heap.size, 1, none⟩ = some (.int .i64 0)) := Lib.hid ((HB47.out.cell (p := ⟨w3.heap.size, 1, none⟩) (show w3.heap.size < w4.heap.size by omega)).trans CA1.out)
  have PB0 : Hid (w7.cell? ⟨w4.heap.size, 0, none⟩ = some (.int .i64 0)) := Lib.hid ((HB57.out.cell (p := ⟨w4.heap.size, 0, none⟩) (show w4.heap.size < w5.heap.size by omega)).trans CB0.out)
  have PB1 : Hid (w7.cell? ⟨w4.heap.size, 1, none⟩ = some (.int .i64 0)) := Lib.hid ((HB57.out.cell (p := ⟨w4.heap.size, 1, none⟩) (show w4.heap.size < w5.heap.size by omega)).trans CB1.out)
  have hq : ∀ q, ((w7.drewN q).cell? ⟨g2, 0, none⟩) = some (.int .i64 (-7)) := fun q => (HB27.out.cell (p := ⟨g2, 0, none⟩) hg2).trans H7.out
  have XO : Hid (w7.ownsRow (w4.heap.size + 1) 23 2 (.slice (some Ax) 0 capx) 0 []) := Lib.hid (pw_own_below HX5.out HB57.out)
  clear HB3 HB34 CA0 CA1 CB0 CB1 HB45 HX5 HB6 HB7 HB57 HB47 HB27 HB2 H7
  go_wp2_with fail
  refine (same_zero _ _ _ _ _).mono ?_
  rintro e w8 ⟨rfl, q1, rfl⟩
  go_wp2_with fail
  refine (same_zero _ _ _ _ _).mono ?_
  rintro e w8 ⟨rfl, q2, rfl⟩
  go_wp2_with fail
  refine (same_zero _ _ _ _ _).mono ?_
  rintro e w8 ⟨rfl, q3, rfl⟩
  go_wp2_with fail
  clear hq
  go_loopg [12] 0 (fun (_ : Nat) (v12 : Value) (wr : World) => v12 = .int .i64 0 ∧ wr.ownsRow (w4.heap.size + 1) 23 2 (.slice (some Ax) 0 capx) 0 [] ∧ w7.grownBy wr (some Ax.block))
  case atStart => exact ⟨rfl, XO.out, ⟨rfl, rfl, rfl, Nat.le_refl _, fun _ _ _ => rfl⟩⟩
  case round =>
    obtain ⟨rfl, hown, hgr⟩ := hrel
    have HG := Lib.hid hgr
    have hs := HG.out.size
    have OX : Hid ((wr.alloc (.cells #[.int .i64 (-8), .int .i64 0] 23)).ownsRow (w4.heap.size + 1) 23 2 (.slice (some Ax) 0 capx) 0 []) := Lib.hid (World.ownsRow.alloc hown _)
    clear hown hgr
    go_wp2_with (at_builtin; refine wpList_append_lies _ rfl _ _ 94 rfl (w4.heap.size + 1) 23 i0 (.agg #[.int .i64 0, .int .i64 0]) 2 16 Try.underlying94 hi hz0 hz1 hz2 rfl (by decide) _ 0 [] rfl OX.out ⟨wr.heap.size, 0, none⟩ 1 1 (idC (-8, 0)) rfl rfl (cell_alloc2 wr _ _) (idC_one _) (by omega) (by unfold maxLen; omega) (by omega) (by simp; omega) _ rfl ?_; intro gx2 capx2 wz hown hgrow hat hlt; have HZ : Hid (w7.grownBy wz (some Ax.block)) := Lib.hid ((HG.out.trans (grown_alloc wr _ _)).trans hgrow); clear HG hown hgrow hat hlt OX)
    have hx0 : w4.heap.size + 1 ≤ Ax.block := (World.ownsRow.lt XO.out Ax.block rfl).1
    have pa0 := cell_farN PA0.out (by omega) (by omega) HZ.out
    have pa1 := cell_farN PA1.out (by omega) (by omega) HZ.out
    have pb0 := cell_farN PB0.out (by omega) (by omega) HZ.out
    have pb1 := cell_farN PB1.out (by omega) (by omega) HZ.out
    have LBZ : Hid (Below w.heap.size w wz) := Lib.hid (LB7.out.grown HZ.out LB7.out.size (fun j hj => by cases hj; omega))
    clear PA0 PA1 PB0 PB1 HZ XO LB7
    refine (same_zero _ _ _ _ _).mono ?_
    rintro e w8 ⟨rfl, q5, rfl⟩
    go_wp2_with fail
    refine (same_zero _ _ _ _ _).mono ?_
    rintro e w8 ⟨rfl, q6, rfl⟩
    have ea := eqId (0, 0) (0, 0) true (by simp)
    simp only at ea
    go_wp2_with fail
    go_ret
    exact ⟨rfl, pw_below_drewN LBZ.out _⟩

section
open Go.ChangeShapes Go.WideShapes Go.Deep
variable {H : Type}
set_option maxRecDepth 100000 in
/-- An argument's list of identities. -/
theorem ids_open (enc : TypeId × Value → H) {v : Value} {d : DataW H} {p : List MemPlace} {base b0 : Nat} {r : Reach} {spare : Nat → Bool} {held : Bool} {w0 : World} (h : DataW.Trod enc Try.prog w0 base spare held 94 v d p) (hv : Value.okWide Try.prog w0 r b0 94 v) :
    v = .slice none 0 0 ∨ ∃ (a : Addr) (len cap : Nat) (X : Nat → Int × Int), v = .slice (some a) len cap ∧ len ≤ cap ∧ cap ≤ maxLen ∧
      ∀ i, i < len → w0.cell? (a.add (i * 2)) = some (.int .i64 (X i).1) ∧ w0.cell? (a.add (i * 2 + 1)) = some (.int .i64 (X i).2) := by
  obtain ⟨A0, l0, c0, rfl⟩ := okWide_slice Try.underlying94 hv
  obtain ⟨fuel, h⟩ := h
  rcases open_slice_pairs Try.underlying94 Try.underlying23 (by kernel_rfl) rfl rfl (by kernel_rfl) (by kernel_rfl) h with ⟨hc, _⟩ | ⟨a, len, cap, m, k, V0, V1, D0, D1, P0, P1, hc, _, hl, hm, hmm, _, hall⟩
  · left
    simpa [Value.cells] using hc
  · right
    have hlm : len ≤ m := by rw [hmm]; split <;> omega
    obtain ⟨X, hX⟩ := choose_lt (α := Int × Int) (n := len) (p := fun i x => w0.cell? (a.add (i * 2)) = some (.int .i64 x.1) ∧ w0.cell? (a.add (i * 2 + 1)) = some (.int .i64 x.2)) (fun i hi => by
      obtain ⟨h1, h2, h3, h4⟩ := hall i (by omega)
      obtain ⟨y0, e0, _, _⟩ := DataW.trod_int Try.underlying3 h3
      obtain ⟨y1, e1, _, _⟩ := DataW.trod_int Try.underlying3 h4
      simp at e0 e1
      rw [e0] at h1
      rw [e1] at h2
      exact ⟨(y0, y1), h1, h2⟩)
    exact ⟨a, len, cap, X, by simpa [Value.cells] using hc, hl, hm, hX⟩

set_option maxRecDepth 100000 in
theorem lists_law (enc : TypeId × Value → H) (v : Value) (d : DataW H) (p : List MemPlace) {b0 base : Nat} {r : Reach} {spare : Nat → Bool} {held : Bool} {w0 : World} (h : DataW.Trod enc Try.prog w0 base spare held 94 v d p) (o : Value.okWide Try.prog w0 r b0 94 v) (_lt : ∀ x ∈ p, x.block < w0.heap.size) :
    Calls Try.prog 14 #[v] w0 fun e w' => e = .returned (.bool true) ∧ Below w0.heap.size w0 w' := by
  rcases ids_open enc h o with rfl | ⟨⟨ab, ao, sp⟩, len, cap, X, rfl, hl, hc, hA⟩
  · exact lists_zero none 0 (fun _ => rfl) w0
  · rcases Nat.eq_zero_or_pos len with rfl | hp
    · exact lists_zero _ cap (fun e => by cases e) w0
    · have h0 := (hA 0 hp).1
      have hb := World.block_lt_of_cell? w0 _ h0
      have hs : sp = none := by
        have e : (⟨ab, ao, sp⟩ : Addr).add (0 * 2) = ⟨ab, ao, sp⟩ := rfl
        rw [e] at h0
        unfold World.cell? at h0
        cases sp with
        | none => rfl
        | some z =>
          split at h0
          · simp at h0
          · cases h0
      subst hs
      by_cases h4 : 2000 < len
      · exact lists_many _ len cap h4 w0
      · refine lists_some (listOf X len) ab ao len cap (listOf_len X len) hc hl (by omega) hp w0 hb (fun i hi => ?_)
        rw [listOf_at X hi]
        have := hA i hi
        rw [Addr.add_lit, Addr.add_lit] at this
        exact ⟨this.1, this.2⟩
end
end Go.Proofs.Ytmmaolhmhdjldaa.AgeS
