/- An array of two ints, by value, opened. -/
import Derived.Test.YtmmaolhmhdjldaaProg
import Derived.OpenShut
import Derived.WideShapes
import Derived.ChangeSame
import Derived.Lib.SmallJoins
namespace Go.Proofs.Ytmmaolhmhdjldaa.Far
open Go.ChangeShapes Go.WideShapes
variable {H : Type} {enc : TypeId × Value → H} {P : Program} {w : World} {base : Nat} {spare : Nat → Bool} {held : Bool}

theorem okWide_array {r : Reach} {b0 n : Nat} {t e : TypeId} {v : Value} (ht : P.underlying t = some (.array n e)) (h : Value.okWide P w r b0 t v) : ∃ cs, v = .agg cs ∧ cs.size = P.cellsOf t := by
  simp only [Value.okWide, ht] at h
  obtain ⟨cs, h1, h2, _⟩ := h
  exact ⟨cs, h1, h2⟩

theorem open_arr2 {r : Reach} {b0 : Nat} {t e : TypeId} {v : Value} {d : DataW H} {p : List MemPlace} (ht : P.underlying t = some (.array 2 e)) (he : P.underlying e = some (.int .i64)) (hce : P.cellsOf e = 1) (hC : P.cellsOf t = 2)
    (hv : Value.okWide P w r b0 t v) (h : DataW.Trod enc P w base spare held t v d p) : ∃ a b, v = .agg #[.int .i64 a, .int .i64 b] := by
  obtain ⟨cs, rfl, hsz⟩ := okWide_array ht hv
  obtain ⟨c0, c1, rfl⟩ := Go.Joins.array2 (hsz.trans hC)
  obtain ⟨fuel, hf⟩ := h
  obtain ⟨xs, m, _, _, _, hlen, hi⟩ := DataW.trod_array ht hf
  have h0 := hi 0 (by omega)
  have h1 := hi 1 (by omega)
  rw [hce] at h0 h1
  match xs, hlen with
  | [y0, y1], _ =>
    simp [Value.cells] at h0 h1
    obtain ⟨a, ea, _, _⟩ := DataW.trod_int he h0
    obtain ⟨b, eb, _, _⟩ := DataW.trod_int he h1
    simp at ea eb
    exact ⟨a, b, by rw [ea, eb]⟩
end Go.Proofs.Ytmmaolhmhdjldaa.Far
