/- BagCounts: no acts; many; any argument. -/
import Derived.Test.YtmmaolhmhdjldaaBagO
import Derived.WideShapes
import Derived.ChangeArms
import Derived.Deep.Slices
import Derived.OpenShut
namespace Go.Proofs.Ytmmaolhmhdjldaa.BagS
open Go.RowKit Go.Proofs.Ytmmaolhmhdjldaa.MapF Go.Maps

set_option maxRecDepth 100000 in
theorem counts_many (A : Option Addr) (n cap : Nat) (hn : 200 < n) (w : World) :
    Calls Try.prog 11 #[.slice A n cap] w fun e w' => e = .returned (.bool true) ∧ Below w.heap.size w w' := by
  have big : decide ((200 : Int) < (n : Int)) = true := decide_eq_true (by omega)
  have WK := Lib.hid (works_bag w)
  go_enter Try.func11, Try.ntmps11
  go_wp2_with fail
  refine WK.out.mono ?_
  rintro e w1 ⟨rfl, hb1⟩
  have HB1 := Lib.hid hb1
  clear hb1 WK
  go_wp2_with fail
  go_ret
  exact ⟨rfl, HB1.out⟩

set_option maxRecDepth 100000 in
theorem counts_zero (A : Option Addr) (cap : Nat) (w : World) :
    Calls Try.prog 11 #[.slice A 0 cap] w fun e w' => e = .returned (.bool true) ∧ Below w.heap.size w w' := by
  have WK := Lib.hid (works_bag w)
  go_enter Try.func11, Try.ntmps11
  go_wp2_with fail
  refine WK.out.mono ?_
  rintro e w1 ⟨rfl, hb1⟩
  have HB1 := Lib.hid hb1
  clear hb1 WK
  go_wp2_with fail
  refine (new_bag 256 w1).mono ?_
  rintro e W ⟨rfl, hB, hF, hbn⟩
  have S0 : Hid (St W w w1.heap.size (w1.heap.size + 1) w1.heap.size 0 none 0 []) := Lib.hid ⟨none, 0, _, 0, hB, ⟨rfl, .inl ⟨rfl, rfl⟩⟩, hF, Nat.le_refl _, Nat.le_refl _, HB1.out.trans (hbn.mono HB1.out.size), HB1.out.size⟩
  clear hB hF hbn
  obtain ⟨p, hp⟩ : ∃ p, p = w1.heap.size + 1 := ⟨_, rfl⟩
  obtain ⟨m, hm⟩ : ∃ m, m = w1.heap.size := ⟨_, rfl⟩
  rw [← hp, ← hm] at S0
  rw [← hp]
  clear hp hm HB1 w1
  go_wp2_with fail
  go_loopg [4, 5] 0 (fun (_ : Nat) (v4 v5 : Value) (wr : World) => v4 = .slice none 0 0 ∧ v5 = .int .i64 0 ∧ wr = W)
  case atStart => exact ⟨rfl, rfl, rfl⟩
  case round =>
    obtain ⟨rfl, rfl, rfl⟩ := hrel
    go_wp2_with fail
    refine (show Calls Try.prog 47 #[.pointer (some ⟨p, 0, none⟩)] wr (fun e w' => e = .returned (.int .i64 0) ∧ wr = w') from stLen S0.out).mono ?_
    rintro e w2 ⟨rfl, rfl⟩
    go_wp2_with fail
    go_loopg [10] 0 (fun (_ : Nat) (v10 : Value) (w' : World) => v10 = .int .i64 0 ∧ w' = wr)
    case atStart => exact ⟨rfl, rfl⟩
    case round =>
      obtain ⟨rfl, rfl⟩ := hrel
      go_wp2_with fail
      go_ret
      exact ⟨rfl, S0.out.big.1⟩

section
open Go.ChangeShapes Go.WideShapes Go.Deep
variable {H : Type} {enc : TypeId × Value → H} {w : World} {base : Nat} {spare : Nat → Bool} {held : Bool}
instance : Inhabited Ad := ⟨ad0⟩
theorem cells79 : Try.prog.cellsOf 79 = 30 := by kernel_rfl
theorem take1 {cs : List Value} {o : Nat} {v : Value} (h : (cs.drop o).take 1 = [v]) : cs[o]? = some v := by
  have h1 : ((cs.drop o).take 1)[0]? = some v := by rw [h]; rfl
  rw [List.getElem?_take, if_pos (by omega), List.getElem?_drop] at h1
  exact h1
theorem act30 {fuel : Nat} {cs : List Value} {y : DataW H × List MemPlace} (h : DataW.trod enc Try.prog w base spare held fuel 79 cs = some y) :
    ∃ (kd nn : Int) (a : Ad), cs[0]? = some (.int .i64 kd) ∧ cs[27]? = some (.int .i64 nn) ∧ cs[28]? = some (.int .i64 a.1.1) ∧ cs[29]? = some (.int .i64 a.1.2) := by
  obtain ⟨xs, m, _, _, hlen, hxs, hf⟩ := DataW.trod_struct Try.underlying79 h
  rw [cells79] at hlen
  have hx : ∀ i, i < 4 → ∃ y, xs[i]? = some y := fun i hi => by
    have hl : xs.length = 4 := hxs
    exact ⟨xs[i]'(by omega), List.getElem?_eq_getElem (by omega)⟩
  obtain ⟨y0, e0⟩ := hx 0 (by omega)
  obtain ⟨y2, e2⟩ := hx 2 (by omega)
  obtain ⟨y3, e3⟩ := hx 3 (by omega)
  have h0 := hf 0 _ rfl
  have h2 := hf 2 _ rfl
  have h3 := hf 3 _ rfl
  rw [e0] at h0; rw [e2] at h2; rw [e3] at h3
  change DataW.trod enc Try.prog w base spare held m 3 ((cs.drop 0).take (Try.prog.cellsOf 3)) = some y0 at h0
  change DataW.trod enc Try.prog w base spare held m 3 ((cs.drop 27).take (Try.prog.cellsOf 3)) = some y2 at h2
  change DataW.trod enc Try.prog w base spare held m 67 ((cs.drop 28).take (Try.prog.cellsOf 67)) = some y3 at h3
  rw [adCells3] at h0 h2
  rw [adCells67] at h3
  obtain ⟨a0, z0, _, _⟩ := DataW.trod_int Try.underlying3 h0
  obtain ⟨a2, z2, _, _⟩ := DataW.trod_int Try.underlying3 h2
  obtain ⟨us, m3, _, _, hl3, hu3, hf3⟩ := DataW.trod_struct Try.underlying67 h3
  have hy : ∀ i, i < 2 → ∃ y, us[i]? = some y := fun i hi => by
    have hl : us.length = 2 := hu3
    exact ⟨us[i]'(by omega), List.getElem?_eq_getElem (by omega)⟩
  obtain ⟨u0, f0⟩ := hy 0 (by omega)
  obtain ⟨u1, f1⟩ := hy 1 (by omega)
  have g0 := hf3 0 _ rfl
  have g1 := hf3 1 _ rfl
  rw [f0] at g0; rw [f1] at g1
  change DataW.trod enc Try.prog w base spare held m3 3 ((((cs.drop 28).take 2).drop 0).take (Try.prog.cellsOf 3)) = some u0 at g0
  change DataW.trod enc Try.prog w base spare held m3 3 ((((cs.drop 28).take 2).drop 1).take (Try.prog.cellsOf 3)) = some u1 at g1
  rw [adCells3] at g0 g1
  obtain ⟨b0, t0, _, w0⟩ := DataW.trod_int Try.underlying3 g0
  obtain ⟨b1, t1, _, w1⟩ := DataW.trod_int Try.underlying3 g1
  have q0 := take1 t0
  have q1 := take1 t1
  rw [List.getElem?_take, if_pos (by omega), List.getElem?_drop] at q0 q1
  exact ⟨a0, a2, ⟨(b0, b1), w0, w1⟩, take1 z0, take1 z2, q0, q1⟩

set_option maxRecDepth 100000 in
theorem counts_law (enc : TypeId × Value → H) (v : Value) (d : DataW H) (p : List MemPlace) {b0 base : Nat} {r : Reach} {spare : Nat → Bool} {held : Bool} {w0 : World} (h : DataW.Trod enc Try.prog w0 base spare held 77 v d p) (o : Value.okWide Try.prog w0 r b0 77 v) (_lt : ∀ x ∈ p, x.block < w0.heap.size) :
    Calls Try.prog 11 #[v] w0 fun e w' => e = .returned (.bool true) ∧ Below w0.heap.size w0 w' := by
  obtain ⟨A0, l0, c0, rfl⟩ := okWide_slice Try.underlying77 o
  obtain ⟨fuel, hf⟩ := h
  rcases open_slice Try.underlying77 hf with ⟨h0, _⟩ | ⟨a, len, cap, m, n, D, Pl, hcs, _, hl, hm, hmm, _, hx⟩
  · have e : Value.slice A0 l0 c0 = .slice none 0 0 := by simpa [Value.cells] using h0
    rw [e]
    exact counts_zero none 0 w0
  · have e : Value.slice A0 l0 c0 = .slice (some a) len cap := by simpa [Value.cells] using hcs
    rw [e]
    have hlm : len ≤ m := by rw [hmm]; split <;> omega
    rcases Nat.eq_zero_or_pos len with rfl | hp
    · exact counts_zero _ cap w0
    · by_cases h4 : 200 < len
      · exact counts_many _ len cap h4 w0
      · obtain ⟨X, hX⟩ := choose_lt (α := Int × Int × Ad) (n := len) (p := fun i x => w0.cell? (a.add (i * 30)) = some (.int .i64 x.1) ∧ w0.cell? (a.add (i * 30 + 27)) = some (.int .i64 x.2.1) ∧ w0.cell? (a.add (i * 30 + 28)) = some (.int .i64 x.2.2.1.1) ∧ w0.cell? (a.add (i * 30 + 29)) = some (.int .i64 x.2.2.1.2)) (fun i hi => by
          obtain ⟨cs', h1, h2⟩ := hx i (by omega)
          obtain ⟨kd, nn, ad, k1, k2, k3, k4⟩ := act30 h2
          rw [cells79] at h1
          obtain ⟨_, hlen, hc⟩ := World.cells?_some h1
          have get : ∀ j v, cs'[j]? = some v → w0.cell? (a.add (i * 30 + j)) = some v := fun j v hj => by
            have hj' : j < 30 := by have := (List.getElem?_eq_some_iff.1 hj).1; omega
            have := hc j hj'
            rw [hj, Addr.add_add] at this
            exact this
          exact ⟨(kd, nn, ad), get 0 _ k1, get 27 _ k2, get 28 _ k3, get 29 _ k4⟩)
        obtain ⟨ab, ao, sp⟩ := a
        have h0 := (hX 0 hp).1
        have hb := World.block_lt_of_cell? w0 _ h0
        have hs : sp = none := by
          have e : (⟨ab, ao, sp⟩ : Addr).add (0 * 30) = ⟨ab, ao, sp⟩ := rfl
          rw [e] at h0
          unfold World.cell? at h0
          cases sp with
          | none => rfl
          | some z =>
            split at h0
            · simp at h0
            · cases h0
        subst hs
        refine counts_some X ab ao len cap (by omega) w0 hb (fun i hi => ?_)
        have := hX i hi
        rw [Addr.add_lit, Addr.add_lit, Addr.add_lit, Addr.add_lit] at this
        exact this
end
end Go.Proofs.Ytmmaolhmhdjldaa.BagS
