/- What the law ClientAges is handed. -/
import Derived.Test.YtpaihfdmjkfegaaCqM
import Derived.WideShapes
import Derived.ChangeArms
import Derived.Deep.Slices
import Derived.Deep.Strs
import Derived.OpenShut
import Derived.SizedLaws
namespace Go.Proofs.Ytpaihfdmjkfegaa.Cl
open Go.RowKit Go.Lib Go.Proofs.Ytpaihfdmjkfegaa.Ck Go.Proofs.Ytpaihfdmjkfegaa.Sta
open Go.ChangeShapes Go.WideShapes Go.Deep
variable {H : Type}
theorem cells3 : Try.prog.cellsOf 3 = 1 := by kernel_rfl
theorem plain_addr {w : World} {a : Addr} {v : Value} (h : w.cell? (a.add 0) = some v) : a = ⟨a.block, a.off, none⟩ ∧ a.block < w.heap.size := by
  obtain ⟨ab, ao, sp⟩ := a
  have e : (⟨ab, ao, sp⟩ : Addr).add 0 = ⟨ab, ao, sp⟩ := rfl
  rw [e] at h
  have hs : sp = none := by
    unfold World.cell? at h
    cases sp with
    | none => rfl
    | some z =>
      split at h
      · simp at h
      · cases h
  subst hs
  exact ⟨rfl, World.block_lt_of_cell? w _ h⟩
theorem ints_of {enc : TypeId × Value → H} {w : World} {base : Nat} {spare : Nat → Bool} {held : Bool} {fuel : Nat} {v : Value} {x : DataW H × List MemPlace} (h : DataW.trod enc Try.prog w base spare held fuel 23 [v] = some x) :
    ∃ (A : Option Addr) (pl : List Int) (c : Nat), v = .slice A pl.length c ∧ IntsIn w w.heap.size A pl ∧ pl.length ≤ c ∧ pl.length ≤ maxLen ∧ (x.1 = .nil ∧ pl.length = 0 ∨ ∃ el sr, x.1 = .slice el sr ∧ el.length = pl.length) := by
  rcases open_slice1 Try.underlying23 cells3 h with ⟨hc, rfl⟩ | ⟨a, len, cap, m, k, V, D, Pl, hc, _, hl, hm, hmm, rfl, hall⟩
  · have e : v = .slice none 0 0 := by simpa using hc
    exact ⟨none, [], 0, e, fun h => absurd h (by simp), Nat.zero_le _, Nat.zero_le _, .inl ⟨rfl, rfl⟩⟩
  · have e : v = .slice (some a) len cap := by simpa using hc
    have hlm : len ≤ m := by rw [hmm]; split <;> omega
    obtain ⟨X, hX⟩ := choose_lt (α := Int) (n := len) (p := fun i x => w.cell? (a.add i) = some (.int .i64 x)) (fun i hi => by
      obtain ⟨h1, h2⟩ := hall i (by omega)
      obtain ⟨y0, e0, _, _⟩ := DataW.trod_int Try.underlying3 h2
      simp at e0
      rw [e0] at h1
      exact ⟨y0, h1⟩)
    refine ⟨some a, (List.range len).map X, cap, by rw [List.length_map, List.length_range]; exact e, fun hp => ?_, by rw [List.length_map, List.length_range]; exact hl, by rw [List.length_map, List.length_range]; omega, .inr ⟨_, _, rfl, by simp⟩⟩
    rw [List.length_map, List.length_range] at hp
    obtain ⟨ea, hb⟩ := plain_addr (hX 0 hp)
    refine ⟨a.block, a.off, by rw [← ea], hb, fun i x hx => ?_⟩
    rw [List.getElem?_map] at hx
    by_cases hi : i < len
    · rw [List.getElem?_range hi] at hx
      cases hx
      have := hX i hi
      rw [ea, Addr.add_lit] at this
      exact this
    · rw [List.getElem?_eq_none (by simpa using hi)] at hx
      cases hx

theorem cells4 : Try.prog.cellsOf 4 = 1 := by kernel_rfl
theorem bools_of {enc : TypeId × Value → H} {w : World} {base : Nat} {spare : Nat → Bool} {held : Bool} {fuel : Nat} {v : Value} {x : DataW H × List MemPlace} (h : DataW.trod enc Try.prog w base spare held fuel 66 [v] = some x) :
    ∃ (A : Option Addr) (pl : List Bool) (c : Nat), v = .slice A pl.length c ∧ BoolsIn w w.heap.size A pl := by
  rcases open_slice1 Try.underlying66 cells4 h with ⟨hc, rfl⟩ | ⟨a, len, cap, m, k, V, D, Pl, hc, _, hl, hm, hmm, rfl, hall⟩
  · have e : v = .slice none 0 0 := by simpa using hc
    exact ⟨none, [], 0, e, fun h => absurd h (by simp)⟩
  · have e : v = .slice (some a) len cap := by simpa using hc
    have hlm : len ≤ m := by rw [hmm]; split <;> omega
    obtain ⟨X, hX⟩ := choose_lt (α := Bool) (n := len) (p := fun i x => w.cell? (a.add i) = some (.bool x)) (fun i hi => by
      obtain ⟨h1, h2⟩ := hall i (by omega)
      obtain ⟨y0, e0, _⟩ := DataW.trod_bool Try.underlying4 h2
      simp at e0
      rw [e0] at h1
      exact ⟨y0, h1⟩)
    refine ⟨some a, (List.range len).map X, cap, by rw [List.length_map, List.length_range]; exact e, fun hp => ?_⟩
    rw [List.length_map, List.length_range] at hp
    obtain ⟨ea, hb⟩ := plain_addr (hX 0 hp)
    refine ⟨a.block, a.off, by rw [← ea], hb, fun i x hx => ?_⟩
    rw [List.getElem?_map] at hx
    by_cases hi : i < len
    · rw [List.getElem?_range hi] at hx
      cases hx
      have := hX i hi
      rw [ea, Addr.add_lit] at this
      exact this
    · rw [List.getElem?_eq_none (by simpa using hi)] at hx
      cases hx
set_option maxRecDepth 100000 in
/-- The law ClientAges: the walk on opened arguments. -/
theorem ages_law (enc : TypeId × Value → H) (v0 : Value) (d0 : DataW H) (p0 : List MemPlace) (v1 : Value) (d1 : DataW H) (p1 : List MemPlace) {w : World} {base : Nat} {spare : Nat → Bool} {held : Bool} (h0 : DataW.Trod enc Try.prog w base spare held 23 v0 d0 p0) {r0 r1 : Reach} {b0 b1 : Nat} (o0 : Value.okWide Try.prog w r0 b0 23 v0) (_lt0 : ∀ x ∈ p0, x.block < w.heap.size) (h1 : DataW.Trod enc Try.prog w base spare held 66 v1 d1 p1) (o1 : Value.okWide Try.prog w r1 b1 66 v1) (_lt1 : ∀ x ∈ p1, x.block < w.heap.size) (W : World) (hW : w = W := by rfl) :
    Calls Try.prog 5 #[v0, v1] W fun e w' => e = .returned (.bool true) ∧ Below W.heap.size W w' := by
  subst hW
  obtain ⟨f0, h0⟩ := h0
  obtain ⟨f1, h1⟩ := h1
  obtain ⟨X0, l0, c0, rfl⟩ := okWide_slice Try.underlying23 o0
  obtain ⟨X1, l1, c1, rfl⟩ := okWide_slice Try.underlying66 o1
  obtain ⟨A1, l, k1, e1, i1, _⟩ := ints_of (v := .slice X0 l0 c0) h0
  obtain ⟨A2, bl, k2, e2, i2⟩ := bools_of (v := .slice X1 l1 c1) h1
  rw [e1, e2]
  exact ages_walk l bl A1 A2 k1 k2 w i1 i2
end Go.Proofs.Ytpaihfdmjkfegaa.Cl
