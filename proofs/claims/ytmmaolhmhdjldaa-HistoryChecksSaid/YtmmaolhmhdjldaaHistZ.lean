/- The law HistoryChecks, of any argument. -/
import Derived.Test.YtmmaolhmhdjldaaHistW
namespace Go.Proofs.Ytmmaolhmhdjldaa.Hist
open Go.ChangeShapes Go.WideShapes Go.Deep Go.RowKit
variable {H : Type} {enc : TypeId × Value → H} {w : World} {base : Nat} {spare : Nat → Bool} {held : Bool}

theorem act_of_trod2 {fuel : Nat} {cs : List Value} {y : DataW H × List MemPlace} (h : DataW.trod enc Try.prog w base spare held fuel 61 cs = some y) : ∃ x : AV, cs = x.cells ∧ (Lit.int .i64 x.cl).wf = true := by
  obtain ⟨xs, m, _, _, hlen, hxs, hf⟩ := DataW.trod_struct Try.underlying61 h
  rw [cells61] at hlen
  have hx : ∀ i, i < 10 → ∃ y, xs[i]? = some y := fun i hi => by
    have hl : xs.length = 10 := hxs
    exact ⟨xs[i]'(by omega), List.getElem?_eq_getElem (by omega)⟩
  obtain ⟨v0, v1, v2, v3, v4, v5, v6, v7, v8, v9, v10, rfl⟩ := list11 hlen
  obtain ⟨y0, e0⟩ := hx 0 (by omega)
  obtain ⟨y1, e1⟩ := hx 1 (by omega)
  obtain ⟨y2, e2⟩ := hx 2 (by omega)
  obtain ⟨y3, e3⟩ := hx 3 (by omega)
  obtain ⟨y4, e4⟩ := hx 4 (by omega)
  obtain ⟨y5, e5⟩ := hx 5 (by omega)
  obtain ⟨y6, e6⟩ := hx 6 (by omega)
  obtain ⟨y7, e7⟩ := hx 7 (by omega)
  obtain ⟨y8, e8⟩ := hx 8 (by omega)
  obtain ⟨y9, e9⟩ := hx 9 (by omega)
  have h0 := hf 0 _ rfl
  have h1 := hf 1 _ rfl
  have h2 := hf 2 _ rfl
  have h3 := hf 3 _ rfl
  have h4 := hf 4 _ rfl
  have h5 := hf 5 _ rfl
  have h6 := hf 6 _ rfl
  have h7 := hf 7 _ rfl
  have h8 := hf 8 _ rfl
  have h9 := hf 9 _ rfl
  rw [e0] at h0; rw [e1] at h1; rw [e2] at h2; rw [e3] at h3; rw [e4] at h4; rw [e5] at h5; rw [e6] at h6; rw [e7] at h7; rw [e8] at h8; rw [e9] at h9
  simp [cells3, cells9, cells4, cells23, cells25] at h0 h1 h2 h3 h4 h5 h6 h7 h8 h9
  obtain ⟨a0, z0, _, wf0⟩ := DataW.trod_int Try.underlying3 h0
  obtain ⟨a1, z1, _, _⟩ := DataW.trod_int Try.underlying3 h1
  obtain ⟨a4, z4, _, _⟩ := DataW.trod_string Try.underlying9 h3
  obtain ⟨a5, z5, _, _⟩ := DataW.trod_string Try.underlying9 h4
  obtain ⟨a6, z6, _⟩ := DataW.trod_bool Try.underlying4 h5
  obtain ⟨a7, z7, _, _⟩ := DataW.trod_int Try.underlying25 h6
  obtain ⟨a8, z8, _, _⟩ := DataW.trod_int Try.underlying3 h7
  obtain ⟨a9, z9, _, _⟩ := DataW.trod_int Try.underlying3 h8
  obtain ⟨a10, z10, _, _⟩ := DataW.trod_int Try.underlying3 h9
  obtain ⟨u0, u1, k, _, _, g0, g1⟩ := trod_struct2 Try.underlying23 h2
  simp [cells3] at g0 g1
  obtain ⟨a2, z2, _, _⟩ := DataW.trod_int Try.underlying3 g0
  obtain ⟨a3, z3, _, _⟩ := DataW.trod_int Try.underlying3 g1
  simp at z0 z1 z2 z3 z4 z5 z6 z7 z8 z9 z10
  subst z0 z1 z2 z3 z4 z5 z6 z7 z8 z9 z10
  exact ⟨⟨a0, a1, a2, a3, a4, a5, a6, a7, a8, a9, a10⟩, rfl, wf0⟩

set_option maxRecDepth 100000 in
theorem acts_open2 {v : Value} {d : DataW H} {p : List MemPlace} {r : Reach} {b0 : Nat} (hv : Value.okWide Try.prog w r b0 58 v) (h : DataW.Trod enc Try.prog w base spare held 58 v d p) :
    v = .slice none 0 0 ∨ ∃ (a : Addr) (len cap : Nat) (X : Nat → AV), v = .slice (some a) len cap ∧ len ≤ cap ∧ cap ≤ maxLen ∧ ActsAt w a len X ∧ ∀ i, i < len → (Lit.int .i64 (X i).cl).wf = true := by
  obtain ⟨A0, l0, c0, rfl⟩ := okWide_slice Try.underlying58 hv
  obtain ⟨fuel, hf⟩ := h
  rcases open_slice Try.underlying58 hf with ⟨h0, _⟩ | ⟨a, len, cap, m, n, D, Pl, hcs, _, hl, hm, hmm, _, hx⟩
  · left
    simpa [Value.cells] using h0
  · right
    have hlm : len ≤ m := by rw [hmm]; split <;> omega
    obtain ⟨X, hX⟩ := choose_lt (α := AV) (n := len) (p := fun i x => w.cells? base (a.add (i * 11)) 11 = some x.cells ∧ (Lit.int .i64 x.cl).wf = true) (fun i hi => by
      obtain ⟨cs', h1, h2⟩ := hx i (by omega)
      obtain ⟨x, rfl, hw⟩ := act_of_trod2 h2
      rw [cells61] at h1
      exact ⟨x, h1, hw⟩)
    refine ⟨a, len, cap, X, ?_, hl, hm, ?_, fun i hi => (hX i hi).2⟩
    · simpa [Value.cells] using hcs
    · intro i hi j v hj
      obtain ⟨_, hlen, hc⟩ := World.cells?_some (hX i hi).1
      have hj' : j < 11 := by
        have := (List.getElem?_eq_some_iff.1 hj).1
        rw [hlen] at this
        exact this
      have := hc j hj'
      rw [hj] at this
      rw [← this]
      rw [Addr.add_add]


set_option maxRecDepth 100000 in
theorem hist_law (enc : TypeId × Value → H) (v : Value) (d : DataW H) (p : List MemPlace) {b0 base : Nat} {r : Reach} {spare : Nat → Bool} {held : Bool} {w0 : World} (h : DataW.Trod enc Try.prog w0 base spare held 58 v d p) (o : Value.okWide Try.prog w0 r b0 58 v) (_lt : ∀ x ∈ p, x.block < w0.heap.size) :
    Calls Try.prog 9 #[v] w0 fun e w' => e = .returned (.bool true) ∧ Below w0.heap.size w0 w' := by
  rcases acts_open2 o h with rfl | ⟨⟨ab, ao, sp⟩, len, cap, X, rfl, hl, hc, hA, hw⟩
  · exact hist_zero none 0 (fun _ => rfl) w0
  · rcases Nat.eq_zero_or_pos len with rfl | hp
    · exact hist_zero _ cap (fun e => by cases e) w0
    · have h0 := hA 0 hp 0 _ rfl
      have hb := World.block_lt_of_cell? w0 _ h0
      have hs : sp = none := by
        have e : (⟨ab, ao, sp⟩ : Addr).add (0 * 11 + 0) = ⟨ab, ao, sp⟩ := rfl
        rw [e] at h0
        unfold World.cell? at h0
        cases sp with
        | none => rfl
        | some z =>
          split at h0
          · simp at h0
          · cases h0
      subst hs
      by_cases h4 : 400 < len
      · exact hist_many _ len cap h4 w0
      · exact hist_some X ab ao len cap hl hc (by omega) hp w0 hb hA hw
end Go.Proofs.Ytmmaolhmhdjldaa.Hist
