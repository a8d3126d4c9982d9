/- BagParts: any arguments. -/
import Derived.Test.YtmmaolhmhdjldaaPrtG
import Derived.Deep.SlicePairs
import Derived.WideShapes
import Derived.ChangeArms
import Derived.Deep.Slices
import Derived.OpenShut
namespace Go.Proofs.Ytmmaolhmhdjldaa.BagS
open Go.RowKit Go.Proofs.Ytmmaolhmhdjldaa.MapF Go.Maps Go.ChangeShapes Go.WideShapes Go.Deep
variable {H : Type}

instance : Inhabited Ad := ⟨ad0⟩
set_option maxRecDepth 100000 in
/-- An argument's list of addresses. -/
theorem ads_open (enc : TypeId × Value → H) {v : Value} {d : DataW H} {p : List MemPlace} {base b0 : Nat} {r : Reach} {spare : Nat → Bool} {held : Bool} {w0 : World} (h : DataW.Trod enc Try.prog w0 base spare held 100 v d p) (hv : Value.okWide Try.prog w0 r b0 100 v) :
    ∃ (A : Option Addr) (n c : Nat) (X : Nat → Ad), v = .slice A n c ∧ AdsA w0 A n X := by
  obtain ⟨A0, l0, c0, rfl⟩ := okWide_slice Try.underlying100 hv
  obtain ⟨fuel, h⟩ := h
  rcases open_slice_pairs Try.underlying100 Try.underlying67 (by kernel_rfl) rfl rfl (by kernel_rfl) (by kernel_rfl) h with ⟨hc, _⟩ | ⟨a, len, cap, m, k, V0, V1, D0, D1, P0, P1, hc, _, hl, hm, hmm, _, hall⟩
  · have e : Value.slice A0 l0 c0 = .slice none 0 0 := by simpa [Value.cells] using hc
    exact ⟨none, 0, 0, fun _ => ad0, e, fun i hi => by omega⟩
  · have e : Value.slice A0 l0 c0 = .slice (some a) len cap := by simpa [Value.cells] using hc
    have hlm : len ≤ m := by rw [hmm]; split <;> omega
    obtain ⟨X, hX⟩ := choose_lt (α := Ad) (n := len) (p := fun i x => w0.cell? (a.add (i * 2)) = some (.int .i64 x.1.1) ∧ w0.cell? (a.add (i * 2 + 1)) = some (.int .i64 x.1.2)) (fun i hi => by
      obtain ⟨h1, h2, h3, h4⟩ := hall i (by omega)
      obtain ⟨y0, e0, _, z0⟩ := DataW.trod_int Try.underlying3 h3
      obtain ⟨y1, e1, _, z1⟩ := DataW.trod_int Try.underlying3 h4
      simp at e0 e1
      rw [e0] at h1
      rw [e1] at h2
      exact ⟨⟨(y0, y1), z0, z1⟩, h1, h2⟩)
    refine ⟨some a, len, cap, X, e, fun i hi => ?_⟩
    obtain ⟨ab, ao, sp⟩ := a
    have h0 := (hX 0 (by omega)).1
    have hs : sp = none := by
      have e : (⟨ab, ao, sp⟩ : Addr).add (0 * 2) = ⟨ab, ao, sp⟩ := rfl
      rw [e] at h0
      unfold World.cell? at h0
      cases sp with
      | none => rfl
      | some z =>
        split at h0
        · simp at h0
        · cases h0
    subst hs
    have := hX i hi
    rw [Addr.add_lit, Addr.add_lit] at this
    exact ⟨ab, ao, rfl, World.block_lt_of_cell? w0 _ h0, this.1, this.2⟩

set_option maxRecDepth 100000 in
theorem parts_law (enc : TypeId × Value → H) (v0 : Value) (d0 : DataW H) (p0 : List MemPlace) (v1 : Value) (d1 : DataW H) (p1 : List MemPlace) (v2 : Value) (d2 : DataW H) (p2 : List MemPlace) {b0 base0 b1 base1 b2 base2 : Nat} {r0 r1 r2 : Reach} {spare0 spare1 spare2 : Nat → Bool} {held0 held1 held2 : Bool} {w0 : World}
    (h0 : DataW.Trod enc Try.prog w0 base0 spare0 held0 100 v0 d0 p0) (o0 : Value.okWide Try.prog w0 r0 b0 100 v0) (_lt0 : ∀ x ∈ p0, x.block < w0.heap.size)
    (h1 : DataW.Trod enc Try.prog w0 base1 spare1 held1 100 v1 d1 p1) (o1 : Value.okWide Try.prog w0 r1 b1 100 v1) (_lt1 : ∀ x ∈ p1, x.block < w0.heap.size)
    (h2 : DataW.Trod enc Try.prog w0 base2 spare2 held2 100 v2 d2 p2) (o2 : Value.okWide Try.prog w0 r2 b2 100 v2) (_lt2 : ∀ x ∈ p2, x.block < w0.heap.size) :
    Calls Try.prog 15 #[v0, v1, v2] w0 fun e w' => e = .returned (.bool true) ∧ Below w0.heap.size w0 w' := by
  obtain ⟨A1, n1, c1, X, rfl, hX⟩ := ads_open enc h0 o0
  obtain ⟨A2, n2, c2, Y, rfl, hY⟩ := ads_open enc h1 o1
  obtain ⟨A3, n3, c3, Z, rfl, hZ⟩ := ads_open enc h2 o2
  exact parts_any A1 A2 A3 n1 n2 n3 c1 c2 c3 X Y Z w0 hX hY hZ
end Go.Proofs.Ytmmaolhmhdjldaa.BagS
