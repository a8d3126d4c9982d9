/- What the law ClientPokes is handed. -/
import Derived.Test.YtpaihfdmjkfegaaCpU
import Derived.Test.YtpaihfdmjkfegaaCkJ
namespace Go.Proofs.Ytpaihfdmjkfegaa.Cl
open Go.RowKit Go.Lib Go.Proofs.Ytpaihfdmjkfegaa.Ck
/-- The law ClientPokes: the walk on an opened argument. -/
theorem pokes_law {H : Type} (enc : TypeId × Value → H) (v : Value) (d : DataW H) (p : List MemPlace) (number : Int) (key : ByteArray) (hint : Int) {w : World} {base : Nat} {spare : Nat → Bool} {held : Bool} (h : DataW.Trod enc Try.prog w base spare held 25 v d p) {wide : Prop} (_o : wide) (_lt : ∀ x ∈ p, x.block < w.heap.size) {wf1 wf2 wf3 : Prop} (_w1 : wf1) (_w2 : wf2) (_w3 : wf3) (W : World)
    {ts : List TypeId} {ds : List (DataW H)} (hsz : (DataW.weightsEach Try.prog (25 :: ts) (d :: ds)).all (· ≤ reachBytes) = true) (hW : w = W := by rfl) :
    Calls Try.prog 6 #[v, .int .i64 number, .string key, .int .i64 hint] W fun e w' => e = .returned (.bool true) ∧ Below W.heap.size W w' := by
  subst hW
  have hw : (DataW.weights Try.prog 25 d).all (· ≤ reachBytes) = true := by
    rw [DataW.weightsEach, List.all_append, Bool.and_eq_true] at hsz
    exact hsz.1
  obtain ⟨G, F, C, S, sp, pl, A1, A2, c1, c2, rfl, r1, i2, g2, hs, hp⟩ := cfg_open h hw
  exact pokes_walk number G F C S sp pl A1 A2 c1 c2 key hint w r1 i2 hs hp
end Go.Proofs.Ytpaihfdmjkfegaa.Cl
