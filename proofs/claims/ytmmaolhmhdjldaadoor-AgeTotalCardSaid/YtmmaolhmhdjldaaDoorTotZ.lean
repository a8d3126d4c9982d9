/- AgeTotal, walked: an empty list; a long one; the whole. -/
import Derived.Test.YtmmaolhmhdjldaaDoorTotD
import Derived.Deep.SlicePairs
import Derived.WideShapes
import Derived.OpenShut
import Derived.ChangeSlices
namespace Go.Proofs.YtmmaolhmhdjldaaDoor.AgeS
open Go.RowKit Go.Proofs.YtmmaolhmhdjldaaDoor.Cls Go.Proofs.YtmmaolhmhdjldaaDoor.NT

set_option maxRecDepth 100000 in
theorem total_many (v : Option Addr) (n cap : Nat) (hn : 40 < n) (x : Value) (w : World) (htab : AgeW.Tab w) (hsz : 4 ≤ w.heap.size) :
    Calls Tryd.prog 5 #[.slice v n cap, x] w fun e w' => e = .returned (.bool true) ∧ Below w.heap.size w w' := by
  have WK := Lib.hid (AgeW.works_any w htab hsz)
  clear htab hsz
  have big : decide ((40 : Int) < (n : Int)) = true := decide_eq_true (by omega)
  go_enter Tryd.func5, Tryd.ntmps5
  go_wp2_with fail
  refine WK.out.mono ?_
  rintro e w1 ⟨rfl, hb1⟩
  have HB1 := Lib.hid hb1
  clear hb1 WK
  go_wp2_with fail
  go_ret
  exact ⟨rfl, HB1.out⟩

theorem age_sort_zero (A : Option Addr) (cap : Nat) (hA : A = none → cap = 0) (w : World) :
    Calls Tryd.prog 18 #[.slice A 0 cap] w fun e w' => ∃ A' cap', e = .returned (.slice A' 0 cap') ∧ (A' = none → cap' = 0) ∧ Below w.heap.size w w' := by
  cases A with
  | none =>
    obtain rfl := hA rfl
    refine (age_sort_nil w).mono ?_
    rintro e w' ⟨rfl, rfl⟩
    exact ⟨none, 0, rfl, fun _ => rfl, Below.refl _ _⟩
  | some ad =>
    refine (age_sort_empty ad cap w).mono ?_
    rintro e w' ⟨A', cap', rfl, _, hb⟩
    exact ⟨some A', cap', rfl, (fun h => nomatch h), hb⟩

set_option maxRecDepth 100000 in
set_option maxHeartbeats 1000000 in
theorem total_zero (A : Option Addr) (cap : Nat) (hA : A = none → cap = 0) (x : Value) (w : World) (htab : AgeW.Tab w) (hsz : 4 ≤ w.heap.size) :
    Calls Tryd.prog 5 #[.slice A 0 cap, x] w fun e w' => e = .returned (.bool true) ∧ Below w.heap.size w w' := by
  have WK := Lib.hid (AgeW.works_any w htab hsz)
  have HA := Lib.hid hA
  clear htab hsz hA
  go_enter Tryd.func5, Tryd.ntmps5
  go_wp2_with fail
  refine WK.out.mono ?_
  rintro e w1 ⟨rfl, hb1⟩
  have HB1 := Lib.hid hb1
  clear hb1 WK
  go_wp2_with fail
  go_loopg [5] 0 (RelI 0 w)
  case atStart => exact ⟨0, by omega, rfl, HB1.out⟩
  case round =>
    clear HB1
    obtain ⟨i, hi, rfl, hB⟩ := hrel
    obtain rfl : i = 0 := by omega
    have HB := Lib.hid hB
    clear hB hi
    go_wp2_with fail
    go_loopg [10, 11] 0 (fun (_ : Nat) (v10 v11 : Value) (wr : World) => v10 = .slice none 0 0 ∧ v11 = .int .i64 (-1) ∧ Below w.heap.size w wr)
    case atStart => exact ⟨rfl, by first | rfl | (congr 1), HB.out⟩
    case round =>
      clear HB
      obtain ⟨rfl, rfl, hB⟩ := hrel
      have HB := Lib.hid hB
      clear hB
      go_wp2_with fail
      refine (age_sort_zero A cap HA.out _).mono ?_
      rintro e w5 ⟨A5, cap5, rfl, hA5, hb5⟩
      have HA5 := Lib.hid hA5
      have HB5 : Hid (Below w.heap.size w w5) := Lib.hid (HB.out.trans (hb5.mono HB.out.size))
      clear hA5 hb5 HB
      go_wp2_with fail
      go_loopg [13] 0 (RelI 0 w)
      case atStart => exact ⟨0, by omega, rfl, HB5.out⟩
      case round =>
        clear HB5
        obtain ⟨i, hi, rfl, hB⟩ := hrel
        obtain rfl : i = 0 := by omega
        have HB := Lib.hid hB
        clear hB hi
        go_wp2_with fail
        go_loopg [16] 0 (RelI 0 w)
        case atStart => exact ⟨0, by omega, rfl, HB.out⟩
        case round =>
          clear HB
          obtain ⟨i, hi, rfl, hB⟩ := hrel
          obtain rfl : i = 0 := by omega
          have HB := Lib.hid hB
          clear hB hi
          go_wp2_with fail
          refine (age_sort_zero none 0 (fun _ => rfl) _).mono ?_
          rintro e w6 ⟨A6, cap6, rfl, _, hb6⟩
          have HB6 : Hid (Below w.heap.size w w6) := Lib.hid (HB.out.trans (hb6.mono HB.out.size))
          clear hb6 HB
          go_wp2_with fail
          refine (same_nil A5 A6 cap5 cap6 _).mono ?_
          rintro e w7 ⟨rfl, hb7⟩
          have HB7 : Hid (Below w.heap.size w w7) := Lib.hid (HB6.out.trans (hb7.mono HB6.out.size))
          clear hb7 HB6
          go_wp2_with fail
          refine (age_sort_zero A5 cap5 HA5.out _).mono ?_
          rintro e w8 ⟨A8, cap8, rfl, _, hb8⟩
          have HB8 : Hid (Below w.heap.size w w8) := Lib.hid (HB7.out.trans (hb8.mono HB7.out.size))
          clear hb8 HB7
          go_wp2_with fail
          refine (same_nil A5 A8 cap5 cap8 _).mono ?_
          rintro e w9 ⟨rfl, hb9⟩
          have HB9 : Hid (Below w.heap.size w w9) := Lib.hid (HB8.out.trans (hb9.mono HB8.out.size))
          clear hb9 HB8
          go_wp2_with fail
          refine (oldest_none A cap _).mono ?_
          rintro e w10 ⟨rfl, hb10⟩
          have HB10 : Hid (Below w.heap.size w w10) := Lib.hid (HB9.out.trans (hb10.mono HB9.out.size))
          clear hb10 HB9
          have s10 := HB10.out.size
          go_wp2_with fail
          refine (youngest_none A cap _).mono ?_
          rintro e w11 ⟨rfl, hb11⟩
          have HB11 : Hid (Below w.heap.size w w11) := Lib.hid ((HB10.out.alloc s10 _).trans (hb11.mono (by simp; omega)))
          clear hb11 HB10
          have s11 := HB11.out.size
          go_wp2_with fail
          go_quiet (fail)
          go_wp2_with fail
          go_ret
          exact ⟨rfl, pw_drew (HB11.out.alloc s11 _)⟩

section
open Go.ChangeShapes Go.WideShapes Go.Deep
variable {H : Type}
set_option maxRecDepth 100000 in
/-- An argument's list of identities. -/
theorem ids_open (enc : TypeId × Value → H) {v : Value} {d : DataW H} {p : List MemPlace} {base b0 : Nat} {r : Reach} {spare : Nat → Bool} {held : Bool} {w0 : World} (h : DataW.Trod enc Tryd.prog w0 base spare held 37 v d p) (hv : Value.okWide Tryd.prog w0 r b0 37 v) :
    v = .slice none 0 0 ∨ ∃ (a : Addr) (len cap : Nat) (X : Nat → Int × Int), v = .slice (some a) len cap ∧ len ≤ cap ∧ cap ≤ maxLen ∧
      ∀ i, i < len → w0.cell? (a.add (i * 2)) = some (.int .i64 (X i).1) ∧ w0.cell? (a.add (i * 2 + 1)) = some (.int .i64 (X i).2) := by
  obtain ⟨A0, l0, c0, rfl⟩ := okWide_slice Tryd.underlying37 hv
  obtain ⟨fuel, h⟩ := h
  rcases open_slice_pairs Tryd.underlying37 Tryd.underlying23 (by kernel_rfl) rfl rfl (by kernel_rfl) (by kernel_rfl) h with ⟨hc, _⟩ | ⟨a, len, cap, m, k, V0, V1, D0, D1, P0, P1, hc, _, hl, hm, hmm, _, hall⟩
  · left
    simpa [Value.cells] using hc
  · right
    have hlm : len ≤ m := by rw [hmm]; split <;> omega
    obtain ⟨X, hX⟩ := choose_lt (α := Int × Int) (n := len) (p := fun i x => w0.cell? (a.add (i * 2)) = some (.int .i64 x.1) ∧ w0.cell? (a.add (i * 2 + 1)) = some (.int .i64 x.2)) (fun i hi => by
      obtain ⟨h1, h2, h3, h4⟩ := hall i (by omega)
      obtain ⟨y0, e0, _, _⟩ := DataW.trod_int Tryd.underlying3 h3
      obtain ⟨y1, e1, _, _⟩ := DataW.trod_int Tryd.underlying3 h4
      simp at e0 e1
      rw [e0] at h1
      rw [e1] at h2
      exact ⟨(y0, y1), h1, h2⟩)
    exact ⟨a, len, cap, X, by simpa [Value.cells] using hc, hl, hm, hX⟩

theorem no_sub {w : World} {ab ao : Nat} {sp} {u : Value} (h0 : w.cell? ⟨ab, ao, sp⟩ = some u) : sp = none := by
  unfold World.cell? at h0
  cases sp with
  | none => rfl
  | some z =>
    split at h0
    · simp at h0
    · cases h0

set_option maxRecDepth 100000 in
/-- An argument's list of whole numbers. -/
theorem nums_open (enc : TypeId × Value → H) {v : Value} {d : DataW H} {p : List MemPlace} {base b0 : Nat} {r : Reach} {spare : Nat → Bool} {held : Bool} {w0 : World} (h : DataW.Trod enc Tryd.prog w0 base spare held 38 v d p) (hv : Value.okWide Tryd.prog w0 r b0 38 v) :
    ∃ A m c S, v = .slice A m c ∧ SAt w0 A m S := by
  obtain ⟨A0, l0, c0, rfl⟩ := okWide_slice Tryd.underlying38 hv
  obtain ⟨fuel, h⟩ := h
  rcases Go.ChangeShapes.open_ints Tryd.underlying38 Tryd.underlying3 (by kernel_rfl) h with ⟨hc, _⟩ | ⟨⟨ab, ao, sp⟩, len, cap, zs, hc, _, hl, hm, hzl, _, hall, _⟩
  · have e : Value.slice A0 l0 c0 = .slice none 0 0 := by simpa [Value.cells] using hc
    rw [e]
    exact ⟨none, 0, 0, fun _ => 0, rfl, fun h => by omega⟩
  · have e : Value.slice A0 l0 c0 = .slice (some ⟨ab, ao, sp⟩) len cap := by simpa [Value.cells] using hc
    rw [e]
    have hlz : len ≤ zs.length := by rw [hzl]; split <;> omega
    refine ⟨_, len, cap, fun i => zs.getD i 0, rfl, fun hp => ?_⟩
    have h0 := hall 0 (by omega)
    have hb := World.block_lt_of_cell? w0 _ h0
    obtain rfl : sp = none := no_sub h0
    refine ⟨ab, ao, rfl, hb, fun i hi => ?_⟩
    have := hall i (by omega)
    rw [Addr.add_lit] at this
    exact this

set_option maxRecDepth 100000 in
theorem total_law (enc : TypeId × Value → H) (v : Value) (d : DataW H) (p : List MemPlace) (u : Value) (d1 : DataW H) (p1 : List MemPlace) {b0 base b1 base1 : Nat} {r r1 : Reach} {spare spare1 : Nat → Bool} {held held1 : Bool} {w0 : World}
    (h : DataW.Trod enc Tryd.prog w0 base spare held 37 v d p) (o : Value.okWide Tryd.prog w0 r b0 37 v) (_lt : ∀ x ∈ p, x.block < w0.heap.size)
    (h1 : DataW.Trod enc Tryd.prog w0 base1 spare1 held1 38 u d1 p1) (o1 : Value.okWide Tryd.prog w0 r1 b1 38 u) (_lt1 : ∀ x ∈ p1, x.block < w0.heap.size) (htab : AgeW.Tab w0) :
    Calls Tryd.prog 5 #[v, u] w0 fun e w' => e = .returned (.bool true) ∧ Below w0.heap.size w0 w' := by
  have hsz := htab.size
  obtain ⟨A, m, c, S, rfl, hS⟩ := nums_open enc h1 o1
  rcases ids_open enc h o with rfl | ⟨⟨ab, ao, sp⟩, len, cap, X, rfl, hl, hc, hA⟩
  · exact total_zero none 0 (fun _ => rfl) _ w0 htab hsz
  · rcases Nat.eq_zero_or_pos len with rfl | hp
    · exact total_zero _ cap (fun e => by cases e) _ w0 htab hsz
    · have h0 := (hA 0 hp).1
      have hb := World.block_lt_of_cell? w0 _ h0
      obtain rfl : sp = none := no_sub h0
      by_cases h4 : 40 < len
      · exact total_many _ len cap h4 _ w0 htab hsz
      · refine total_some X S ab ao len cap A m c (by unfold maxLen at hc; omega) hl (by omega) hp w0 hb (fun i hi => ?_) hS htab hsz
        have := hA i hi
        rw [Addr.add_lit, Addr.add_lit] at this
        exact ⟨this.1, this.2⟩
end
end Go.Proofs.YtmmaolhmhdjldaaDoor.AgeS
