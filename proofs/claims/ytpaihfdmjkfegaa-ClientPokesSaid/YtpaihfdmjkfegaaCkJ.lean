/- What the law ClientChecks is handed. -/
import Derived.Test.YtpaihfdmjkfegaaCkI
import Derived.WideShapes
import Derived.ChangeArms
import Derived.Deep.Slices
import Derived.Deep.Strs
import Derived.OpenShut
import Derived.SizedLaws
namespace Go.Proofs.Ytpaihfdmjkfegaa.Ck
open Go.RowKit Go.Lib Go.Proofs.Ytpaihfdmjkfegaa.Sta Go.Proofs.Ytpaihfdmjkfegaa.Rd Go.Proofs.Ytpaihfdmjkfegaa.Far Go.Proofs.Ytpaihfdmjkfegaa.Cls

section
open Go.ChangeShapes Go.WideShapes Go.Deep
variable {H : Type}
theorem plain_addr {w : World} {a : Addr} {v : Value} (h : w.cell? (a.add 0) = some v) : a = ⟨a.block, a.off, none⟩ ∧ a.block < w.heap.size := by
  obtain ⟨ab, ao, sp⟩ := a
  have e : (⟨ab, ao, sp⟩ : Addr).add 0 = ⟨ab, ao, sp⟩ := rfl
  rw [e] at h
  have hs : sp = none := by
    unfold World.cell? at h
    cases sp with
    | none => rfl
    | some z =>
      split at h
      · simp at h
      · cases h
  subst hs
  exact ⟨rfl, World.block_lt_of_cell? w _ h⟩
theorem cells25 : Try.prog.cellsOf 25 = 6 := by kernel_rfl
theorem cells3 : Try.prog.cellsOf 3 = 1 := by kernel_rfl
theorem cells22 : Try.prog.cellsOf 22 = 1 := by kernel_rfl
theorem cells23 : Try.prog.cellsOf 23 = 1 := by kernel_rfl
theorem cells9 : Try.prog.cellsOf 9 = 1 := by kernel_rfl
theorem bytes9 : Try.prog.bytesOf 9 = 16 := by kernel_rfl
theorem bytes3 : Try.prog.bytesOf 3 = 8 := by kernel_rfl
theorem list6 {α : Type} {l : List α} (h : l.length = 6) : ∃ v0 v1 v2 v3 v4 v5, l = [v0, v1, v2, v3, v4, v5] := by
  match l, h with
  | [v0, v1, v2, v3, v4, v5], _ => exact ⟨v0, v1, v2, v3, v4, v5, rfl⟩

theorem strs_of {enc : TypeId × Value → H} {w : World} {base : Nat} {spare : Nat → Bool} {held : Bool} {fuel : Nat} {v : Value} {x : DataW H × List MemPlace} (h : DataW.trod enc Try.prog w base spare held fuel 22 [v] = some x) :
    ∃ (A : Option Addr) (sp : List ByteArray) (c : Nat), v = .slice A sp.length c ∧ RowIn w w.heap.size A (sp.map sV) ∧ sp.length ≤ maxLen ∧ (x.1 = .nil ∧ sp.length = 0 ∨ ∃ el sr, x.1 = .slice el sr ∧ el.length = sp.length) := by
  rcases open_strs Try.underlying22 Try.underlying9 cells9 h with ⟨hc, rfl⟩ | ⟨a, len, cap, m, Sx, hc, _, hl, hm, hmm, rfl, hall⟩
  · have e : v = .slice none 0 0 := by simpa using hc
    exact ⟨none, [], 0, e, fun h => absurd h (by simp), Nat.zero_le _, .inl ⟨rfl, rfl⟩⟩
  · have e : v = .slice (some a) len cap := by simpa using hc
    have hlm : len ≤ m := by rw [hmm]; split <;> omega
    refine ⟨some a, (List.range len).map Sx, cap, by rw [List.length_map, List.length_range]; exact e, fun hp => ?_, by rw [List.length_map, List.length_range]; omega, .inr ⟨_, _, rfl, by simp⟩⟩
    rw [List.length_map, List.length_map, List.length_range] at hp
    obtain ⟨ea, hb⟩ := plain_addr (hall 0 (by omega)).1
    refine ⟨a.block, a.off, by rw [← ea], hb, fun i x hx => ?_⟩
    rw [List.getElem?_map, List.getElem?_map] at hx
    by_cases hi : i < len
    · rw [List.getElem?_range hi] at hx
      cases hx
      have := (hall i (by omega)).1
      rw [ea, Addr.add_lit] at this
      exact this
    · rw [List.getElem?_eq_none (by simpa using hi)] at hx
      cases hx
theorem ints_of {enc : TypeId × Value → H} {w : World} {base : Nat} {spare : Nat → Bool} {held : Bool} {fuel : Nat} {v : Value} {x : DataW H × List MemPlace} (h : DataW.trod enc Try.prog w base spare held fuel 23 [v] = some x) :
    ∃ (A : Option Addr) (pl : List Int) (c : Nat), v = .slice A pl.length c ∧ IntsIn w w.heap.size A pl ∧ pl.length ≤ c ∧ pl.length ≤ maxLen ∧ (x.1 = .nil ∧ pl.length = 0 ∨ ∃ el sr, x.1 = .slice el sr ∧ el.length = pl.length) := by
  rcases open_slice1 Try.underlying23 cells3 h with ⟨hc, rfl⟩ | ⟨a, len, cap, m, k, V, D, Pl, hc, _, hl, hm, hmm, rfl, hall⟩
  · have e : v = .slice none 0 0 := by simpa using hc
    exact ⟨none, [], 0, e, fun h => absurd h (by simp), Nat.zero_le _, Nat.zero_le _, .inl ⟨rfl, rfl⟩⟩
  · have e : v = .slice (some a) len cap := by simpa using hc
    have hlm : len ≤ m := by rw [hmm]; split <;> omega
    obtain ⟨X, hX⟩ := choose_lt (α := Int) (n := len) (p := fun i x => w.cell? (a.add i) = some (.int .i64 x)) (fun i hi => by
      obtain ⟨h1, h2⟩ := hall i (by omega)
      obtain ⟨y0, e0, _, _⟩ := DataW.trod_int Try.underlying3 h2
      simp at e0
      rw [e0] at h1
      exact ⟨y0, h1⟩)
    refine ⟨some a, (List.range len).map X, cap, by rw [List.length_map, List.length_range]; exact e, fun hp => ?_, by rw [List.length_map, List.length_range]; exact hl, by rw [List.length_map, List.length_range]; omega, .inr ⟨_, _, rfl, by simp⟩⟩
    rw [List.length_map, List.length_range] at hp
    obtain ⟨ea, hb⟩ := plain_addr (hX 0 hp)
    refine ⟨a.block, a.off, by rw [← ea], hb, fun i x hx => ?_⟩
    rw [List.getElem?_map] at hx
    by_cases hi : i < len
    · rw [List.getElem?_range hi] at hx
      cases hx
      have := hX i hi
      rw [ea, Addr.add_lit] at this
      exact this
    · rw [List.getElem?_eq_none (by simpa using hi)] at hx
      cases hx

set_option maxRecDepth 100000 in
/-- An argument that says what a cluster is made of. -/
theorem cfg_open {enc : TypeId × Value → H} {w : World} {base : Nat} {spare : Nat → Bool} {held : Bool} {v : Value} {d : DataW H} {p : List MemPlace} (h : DataW.Trod enc Try.prog w base spare held 25 v d p) (hw : (DataW.weights Try.prog 25 d).all (· ≤ reachBytes) = true) :
    ∃ (G F C S : Int) (sp : List ByteArray) (pl : List Int) (A1 A2 : Option Addr) (c1 c2 : Nat), v = cfgV G F C (.slice A1 sp.length c1) (.slice A2 pl.length c2) S ∧ RowIn w w.heap.size A1 (sp.map sV) ∧ IntsIn w w.heap.size A2 pl ∧ pl.length ≤ c2 ∧ (sp.length ≤ maxLen ∧ sp.length * 16 ≤ 140737488355328) ∧ (pl.length ≤ maxLen ∧ pl.length * 8 ≤ 140737488355328) := by
  obtain ⟨fuel, h⟩ := h
  obtain ⟨xs, m, _, hx, hlen, hxs, hf⟩ := DataW.trod_struct Try.underlying25 h
  rw [cells25] at hlen
  obtain ⟨v0, v1, v2, v3, v4, v5, hcs⟩ := list6 hlen
  have hxl : xs.length = 6 := hxs
  obtain ⟨x0, x1, x2, x3, x4, x5, rfl⟩ := list6 hxl
  rw [hcs] at hf
  have ed : d = .agg [x0.1, x1.1, x2.1, x3.1, x4.1, x5.1] := (Prod.mk.inj hx).1
  have h0 : DataW.trod enc Try.prog w base spare held m 3 (([v0, v1, v2, v3, v4, v5].drop 0).take (Try.prog.cellsOf 3)) = some x0 := hf 0 _ rfl
  rw [cells3] at h0
  have h0 : DataW.trod enc Try.prog w base spare held m 3 [v0] = some x0 := h0
  have h1 : DataW.trod enc Try.prog w base spare held m 3 (([v0, v1, v2, v3, v4, v5].drop 1).take (Try.prog.cellsOf 3)) = some x1 := hf 1 _ rfl
  rw [cells3] at h1
  have h1 : DataW.trod enc Try.prog w base spare held m 3 [v1] = some x1 := h1
  have h2 : DataW.trod enc Try.prog w base spare held m 3 (([v0, v1, v2, v3, v4, v5].drop 2).take (Try.prog.cellsOf 3)) = some x2 := hf 2 _ rfl
  rw [cells3] at h2
  have h2 : DataW.trod enc Try.prog w base spare held m 3 [v2] = some x2 := h2
  have h3 : DataW.trod enc Try.prog w base spare held m 22 (([v0, v1, v2, v3, v4, v5].drop 3).take (Try.prog.cellsOf 22)) = some x3 := hf 3 _ rfl
  rw [cells22] at h3
  have h3 : DataW.trod enc Try.prog w base spare held m 22 [v3] = some x3 := h3
  have h4 : DataW.trod enc Try.prog w base spare held m 23 (([v0, v1, v2, v3, v4, v5].drop 4).take (Try.prog.cellsOf 23)) = some x4 := hf 4 _ rfl
  rw [cells23] at h4
  have h4 : DataW.trod enc Try.prog w base spare held m 23 [v4] = some x4 := h4
  have h5 : DataW.trod enc Try.prog w base spare held m 3 (([v0, v1, v2, v3, v4, v5].drop 5).take (Try.prog.cellsOf 3)) = some x5 := hf 5 _ rfl
  rw [cells3] at h5
  have h5 : DataW.trod enc Try.prog w base spare held m 3 [v5] = some x5 := h5
  clear hf hx hlen hxs hxl h
  obtain ⟨G, e0, _⟩ := DataW.trod_int Try.underlying3 h0
  obtain ⟨F, e1, _⟩ := DataW.trod_int Try.underlying3 h1
  obtain ⟨C, e2, _⟩ := DataW.trod_int Try.underlying3 h2
  obtain ⟨S, e5, _⟩ := DataW.trod_int Try.underlying3 h5
  obtain ⟨A1, sp, c1, e3, r1, l1, s1⟩ := strs_of h3
  obtain ⟨A2, pl, c2, e4, i2, g2, l2, s2⟩ := ints_of h4
  simp only [List.cons.injEq, and_true] at e0 e1 e2 e5
  subst e0 e1 e2 e3 e4 e5
  refine ⟨G, F, C, S, sp, pl, A1, A2, c1, c2, ?_, r1, i2, g2, ⟨l1, ?_⟩, ⟨l2, ?_⟩⟩
  · cases v with
    | agg cs =>
      obtain ⟨l⟩ := cs
      have : l = _ := hcs
      subst this
      rfl
    | _ => exact absurd (congrArg List.length hcs) (by simp [Value.cells])
  · rcases s1 with ⟨_, h0⟩ | ⟨el, sr, he, hl⟩
    · omega
    · have hw' : (DataW.weightsEach Try.prog [3, 3, 3, 22, 23, 3] [x0.1, x1.1, x2.1, x3.1, x4.1, x5.1]).all (· ≤ reachBytes) = true := by
        rw [ed] at hw
        simpa [DataW.weights, Try.underlying25] using hw
      have := sized_slice hw' (j := 3) rfl (by rw [← he]; rfl) Try.underlying22
      rw [bytes9] at this
      have := reachBytes_lt
      omega
  · rcases s2 with ⟨_, h0⟩ | ⟨el, sr, he, hl⟩
    · omega
    · have hw' : (DataW.weightsEach Try.prog [3, 3, 3, 22, 23, 3] [x0.1, x1.1, x2.1, x3.1, x4.1, x5.1]).all (· ≤ reachBytes) = true := by
        rw [ed] at hw
        simpa [DataW.weights, Try.underlying25] using hw
      have := sized_slice hw' (j := 4) rfl (by rw [← he]; rfl) Try.underlying23
      rw [bytes3] at this
      have := reachBytes_lt
      omega
/-- The law ClientChecks: the walk on an opened argument. -/
theorem checks_law (enc : TypeId × Value → H) (v : Value) (d : DataW H) (p : List MemPlace) (number : Int) {w : World} {base : Nat} {spare : Nat → Bool} {held : Bool} (h : DataW.Trod enc Try.prog w base spare held 25 v d p) {wide : Prop} (_o : wide) (_lt : ∀ x ∈ p, x.block < w.heap.size) {wf : Prop} (_w : wf) (W : World)
    {ts : List TypeId} {ds : List (DataW H)} (hsz : (DataW.weightsEach Try.prog (25 :: ts) (d :: ds)).all (· ≤ reachBytes) = true) (hW : w = W := by rfl) :
    Calls Try.prog 3 #[v, .int .i64 number] W fun e w' => e = .returned (.bool true) ∧ Below W.heap.size W w' := by
  subst hW
  have hw : (DataW.weights Try.prog 25 d).all (· ≤ reachBytes) = true := by
    rw [DataW.weightsEach, List.all_append, Bool.and_eq_true] at hsz
    exact hsz.1
  obtain ⟨G, F, C, S, sp, pl, A1, A2, c1, c2, rfl, r1, i2, g2, hs, hp⟩ := cfg_open h hw
  exact checks_walk number G F C S sp pl A1 A2 c1 c2 w r1 i2 g2 hs hp
end
end Go.Proofs.Ytpaihfdmjkfegaa.Ck
