/- What the law ScriptChecks is handed, and what its listed variables hold. -/
import Derived.Test.YtpfebfckolbnmaaDoorScN
import Derived.Test.YtpfebfckolbnmaaDoorOpens
import Derived.Test.YtpfebfckolbnmaaDoorRows
import Derived.LaidSub
import Derived.LaidHandle
namespace Go.Proofs.YtpfebfckolbnmaaDoor.Sc
open Go.RowKit Go.Lib Go.ChangeShapes Go.WideShapes Go.Proofs.YtpfebfckolbnmaaDoor.Opens
open Go.Proofs.YtpfebfckolbnmaaDoor.PScriptChecks Go.Proofs.YtpfebfckolbnmaaDoorW.PrintWords

/-! The argument. -/
def kcfg : Kd (Int × Int × Int × List ByteArray × List Int × Int) := Kd.pair (Kd.int .i64) (Kd.pair (Kd.int .i64) (Kd.pair (Kd.int .i64) (Kd.pair (Kd.slice 9 Kd.string) (Kd.pair (Kd.slice 3 (Kd.int .i64)) (Kd.int .i64)))))
def kscr : Kd ((Int × Int × Int × List ByteArray × List Int × Int) × List S40) := Kd.pair (Kd.iso kcfg id) (Kd.slice 40 k40)
theorem opn3 : Opn Tryd.prog (Kd.int .i64) (intB .i64) 3 := opn_int Tryd.underlying3
theorem opn9 : Opn Tryd.prog Kd.string strB 9 := opn_string Tryd.underlying9
theorem opn22 : Opn Tryd.prog (Kd.slice 9 Kd.string) (slB 16 strB) 22 := opn_slice Tryd.underlying22 (by kernel_rfl) (by kernel_rfl) opn9
theorem opn23 : Opn Tryd.prog (Kd.slice 3 (Kd.int .i64)) (slB 8 (intB .i64)) 23 := opn_slice Tryd.underlying23 (by kernel_rfl) (by kernel_rfl) opn3
def b25 : (Int × Int × Int × List ByteArray × List Int × Int) → Prop := prB (intB .i64) (prB (intB .i64) (prB (intB .i64) (prB (slB 16 strB) (prB (slB 8 (intB .i64)) (intB .i64)))))
theorem opn25 : Opn Tryd.prog (Kd.iso kcfg id) (isB b25 id) 25 :=
  opn_struct Tryd.underlying25 (fields_of (P := Tryd.prog) (ts := [3, 3, 3, 22, 23, 3]) (by kernel_rfl)).1 (fields_of (P := Tryd.prog) (by kernel_rfl)).2 (by kernel_rfl) id id (fun _ => rfl) (opnF_cons opn3 (opnF_cons opn3 (opnF_cons opn3 (opnF_cons opn22 (opnF_cons opn23 (opnF_one opn3))))))
def p40 (x : S40) : Int × Int × Int × Int × ByteArray × ByteArray × Int × Int := (x.f0, x.f1, x.f2, x.f3, x.f4, x.f5, x.f6, x.f7)
def b40 : S40 → Prop := isB (prB (intB .i64) (prB (intB .i64) (prB (intB .i64) (prB (intB .i64) (prB strB (prB strB (prB (intB .i64) (intB .i64)))))))) p40
theorem opn40 : Opn Tryd.prog k40 b40 40 :=
  opn_struct Tryd.underlying40 (fields_of (P := Tryd.prog) (ts := [3, 3, 3, 3, 9, 9, 3, 3]) (by kernel_rfl)).1 (fields_of (P := Tryd.prog) (by kernel_rfl)).2 (by kernel_rfl) p40 (fun a => ⟨a.1, a.2.1, a.2.2.1, a.2.2.2.1, a.2.2.2.2.1, a.2.2.2.2.2.1, a.2.2.2.2.2.2.1, a.2.2.2.2.2.2.2⟩) (fun _ => rfl) (opnF_cons opn3 (opnF_cons opn3 (opnF_cons opn3 (opnF_cons opn3 (opnF_cons opn9 (opnF_cons opn9 (opnF_cons opn3 (opnF_one opn3))))))))
theorem opn26 : Opn Tryd.prog (Kd.slice 40 k40) (slB 80 b40) 26 := opn_slice Tryd.underlying26 (by kernel_rfl) (by kernel_rfl) opn40
theorem opn28 : Opn Tryd.prog (Kd.iso kscr id) (isB (prB (isB b25 id) (slB 80 b40)) id) 28 :=
  opn_struct Tryd.underlying28 (fields_of (P := Tryd.prog) (ts := [25, 26]) (by kernel_rfl)).1 (fields_of (P := Tryd.prog) (by kernel_rfl)).2 (by kernel_rfl) id id (fun _ => rfl) (opnF_cons opn25 (opnF_one opn26))

/-! The listed variables. -/
theorem et : Tryd.prog.globalNamed "errors.errorType" = some 0 := by kernel_rfl
theorem rt : (Tryd.prog.cutTypes.find? (·.1 == "internal/reflectlite.rtype")).map (·.2) = some 99 := by kernel_rfl
theorem oneRow : ((List.range 154).filter fun t => Tryd.prog.rowNamed t [101, 114, 114, 111, 114]) = [33] := by kernel_rfl
theorem typesSize : Tryd.prog.types.size = 154 := by kernel_rfl
theorem handle33 : typeHandle Tryd.prog 33 = .pointer (some ⟨2, 33, none⟩) := by kernel_rfl
set_option maxRecDepth 100000 in
theorem errT_of {W : World} (h : laidMetH Tryd.prog Rows.scriptChecksRow.laid W) : ErrT W := by
  have h' : laidMet Tryd.prog [("bursar/script.forms", Rows.laid_bursar_script_forms)] W ∧ handlesMet Tryd.prog [("errors.errorType", Rows.laid_errors_errorType)] W := h
  obtain ⟨name, u, ty, e1, e2, e3, e4, e5⟩ := h'.2 _ (List.mem_singleton.2 rfl)
  have en : name = [101, 114, 114, 111, 114] := (Option.some.inj e1).symm
  subst en
  obtain rfl := Option.some.inj (rt.symm.trans e2)
  have hm : ty ∈ (List.range 154).filter fun t => Tryd.prog.rowNamed t [101, 114, 114, 111, 114] := List.mem_filter.2 ⟨List.mem_range.2 (by rw [← typesSize]; exact e3), e4⟩
  rw [oneRow] at hm
  obtain rfl := List.mem_singleton.1 hm
  rw [handle33] at e5
  have hc : W.cell? ⟨0, 0, none⟩ = some (.iface 99 (.agg #[.pointer (some ⟨2, 33, none⟩)])) := by simpa using World.var?_cell et e5 0
  exact ⟨World.block_lt_of_cell? W _ hc, hc⟩

theorem gf : Tryd.prog.globalNamed "bursar/script.forms" = some 1 := by kernel_rfl
theorem gft : (Tryd.prog.globals[1]?).map (·.type) = some 120 := by kernel_rfl
theorem cells91 : Tryd.prog.cellsOf 91 = 2 := by kernel_rfl
theorem cells9 : Tryd.prog.cellsOf 9 = 1 := by kernel_rfl
theorem list2 {α : Type} {l : List α} (h : l.length = 2) : ∃ a b, l = [a, b] := by
  match l, h with
  | [a, b], _ => exact ⟨a, b, rfl⟩
theorem pair_of {H : Type} {enc : TypeId × Value → H} {w : World} {base : Nat} {sp : Nat → Bool} {held : Bool} {fuel : Nat} {cs : List Value} {x : DataW H × List MemPlace} {a b : List UInt8}
    (h : DataW.trod enc Tryd.prog w base sp held fuel 91 cs = some x) (hx : x.1 = .agg [.lit (.string a), .lit (.string b)]) : cs = [.string ⟨a.toArray⟩, .string ⟨b.toArray⟩] := by
  obtain ⟨xs, n, _, rfl, hl, hxs, hf⟩ := DataW.trod_struct Tryd.underlying91 h
  have h0 := hf 0 _ rfl
  have h1 := hf 1 _ rfl
  simp only [DataW.agg.injEq] at hx
  rw [cells91] at hl
  obtain ⟨u, v, rfl⟩ := list2 hl
  have hxl : xs.length = 2 := by have := congrArg List.length hx; simpa using this
  obtain ⟨x0, x1, rfl⟩ := list2 hxl
  simp only [List.map_cons, List.map_nil, List.cons.injEq, and_true] at hx
  have h0' : DataW.trod enc Tryd.prog w base sp held n 9 (([u, v].drop 0).take (Tryd.prog.cellsOf 9)) = some x0 := h0
  have h1' : DataW.trod enc Tryd.prog w base sp held n 9 (([u, v].drop 1).take (Tryd.prog.cellsOf 9)) = some x1 := h1
  rw [cells9] at h0' h1'
  obtain ⟨s, e0, r0, _⟩ := DataW.trod_string Tryd.underlying9 h0'
  obtain ⟨t, e1, r1, _⟩ := DataW.trod_string Tryd.underlying9 h1'
  subst r0 r1
  simp at e0 e1 hx
  obtain ⟨hs, ht⟩ := hx
  rw [e0, e1, ← hs, ← ht]
theorem form_bytes : ∀ k, 1 ≤ k → k ≤ 18 → ∃ a, (match (Rows.laid_bursar_script_forms : DataW Unit) with | .agg l => l[k]? | _ => none) = some (.agg [.lit (.string a), .lit (.string (formF k).data.toList)]) := by
  intro k h1 h2
  rcases (show k = 1 ∨ k = 2 ∨ k = 3 ∨ k = 4 ∨ k = 5 ∨ k = 6 ∨ k = 7 ∨ k = 8 ∨ k = 9 ∨ k = 10 ∨ k = 11 ∨ k = 12 ∨ k = 13 ∨ k = 14 ∨ k = 15 ∨ k = 16 ∨ k = 17 ∨ k = 18 by omega) with rfl | rfl | rfl | rfl | rfl | rfl | rfl | rfl | rfl | rfl | rfl | rfl | rfl | rfl | rfl | rfl | rfl | rfl <;> exact ⟨_, rfl⟩
set_option maxRecDepth 100000 in
theorem forms_of {W : World} (h : laidMetH Tryd.prog Rows.scriptChecksRow.laid W) : FormsAt W := by
  have h' : laidMet Tryd.prog [("bursar/script.forms", Rows.laid_bursar_script_forms)] W ∧ handlesMet Tryd.prog [("errors.errorType", Rows.laid_errors_errorType)] W := h
  obtain ⟨ps, ⟨g', t', cs, fuel, p, q, hg', ht', hvar, hd, _, _⟩, _⟩ := h'.1
  obtain rfl := Option.some.inj (gf.symm.trans hg')
  obtain rfl := Option.some.inj (gft.symm.trans ht')
  obtain ⟨xs, m, _, hx, hl, hxs, hf⟩ := DataW.trod_array Tryd.underlying120 hd
  have hx1 : (Rows.laid_bursar_script_forms : DataW Unit) = .agg (xs.map (·.1)) := (Prod.mk.inj hx).1
  rw [cells91] at hf
  have key : ∀ k : Nat, 1 ≤ k → k ≤ 18 → ∃ nm : ByteArray, cs[2 * k]? = some (.string nm) ∧ cs[2 * k + 1]? = some (.string (formF k)) := by
    intro k h1 h2
    obtain ⟨a, ha⟩ := form_bytes k h1 h2
    rw [hx1] at ha
    simp only [List.getElem?_map, Option.map_eq_some_iff] at ha
    obtain ⟨x, hxk, hxa⟩ := ha
    have hk := hf k (by omega)
    rw [hxk] at hk
    have e := pair_of hk hxa
    have e2 : ∀ j, j < 2 → cs[2 * k + j]? = ([Value.string ⟨a.toArray⟩, .string ⟨(formF k).data.toList.toArray⟩] : List Value)[j]? := by
      intro j hj
      rw [← e, List.getElem?_take, if_pos hj, List.getElem?_drop, Array.getElem?_toList, Nat.mul_comm]
    exact ⟨_, e2 0 (by omega), e2 1 (by omega)⟩
  have hc : ∀ i, W.cell? ⟨1, i, none⟩ = cs[i]? := fun i => World.var?_cell gf hvar i
  refine ⟨?_, fun k h1 h2 => ?_⟩
  · obtain ⟨nm, h0, _⟩ := key 1 (by omega) (by omega)
    rw [← hc] at h0
    exact World.block_lt_of_cell? W _ h0
  · obtain ⟨nm, h0, h3⟩ := key k h1 h2
    exact ⟨⟨nm, (hc _).trans h0⟩, (hc _).trans h3⟩

/-- The law, of whatever it is handed. -/
theorem checks_law {H : Type} (enc : TypeId × Value → H) (v : Value) (d : DataW H) (p : List MemPlace) {base : Nat} {spare : Nat → Bool} {held : Bool} {w : World} (h : DataW.Trod enc Tryd.prog w base spare held 28 v d p) {wide : Prop} (_o : wide) (_lt : ∀ x ∈ p, x.block < w.heap.size)
    {ts : List TypeId} {ds : List (DataW H)} (hsz : (DataW.weightsEach Tryd.prog (28 :: ts) (d :: ds)).all (· ≤ reachBytes) = true) (W : World) (hL : laidMetH Tryd.prog Rows.scriptChecksRow.laid W) (hW : w = W := by rfl) :
    Calls Tryd.prog 3 #[v] W fun e w' => e = .returned (.bool true) ∧ Below W.heap.size W w' := by
  subst hW
  obtain ⟨⟨⟨G, F, C, sp, pl, S⟩, l⟩, hK, hB⟩ := opn_arg opn28 h hsz (j := 0) rfl rfl
  obtain ⟨c0, c1, hcs, hK0, A3, c3, rfl, k3, g3⟩ := hK
  obtain ⟨_, _, rfl, q0, _, _, rfl, q1, _, _, rfl, q2, _, _, rfl, ⟨A1, c1, q3, k1, g1⟩, _, _, rfl, ⟨A2, c2, q4, k2, g2⟩, q5⟩ := hK0
  obtain ⟨⟨_, _, _, ⟨_, b1, _⟩, ⟨_, b2, _⟩, _⟩, ⟨_, b3, _⟩⟩ := hB
  simp only [id_eq] at *
  have q0' : _ = [Value.int .i64 G] := q0
  have q1' : _ = [Value.int .i64 F] := q1
  have q2' : _ = [Value.int .i64 C] := q2
  have q5' : _ = [Value.int .i64 S] := q5
  subst q0' q1' q2' q3 q4 q5'
  have e : v = scrV G F C S (.slice A1 sp.length c1) (.slice A2 pl.length c2) (.slice A3 l.length c3) := by
    cases v with
    | agg cs =>
      obtain ⟨l⟩ := cs
      have : l = _ := hcs
      subst this
      rfl
    | _ => exact absurd (congrArg List.length hcs) (by simp [Value.cells])
  subst e
  exact checks_walk G F C S sp pl l A1 A2 A3 c1 c2 c3 w g1 k1 g2 k2 g3 k3 b1 b2 b3 (forms_of hL) (errT_of hL)
end Go.Proofs.YtpfebfckolbnmaaDoor.Sc
