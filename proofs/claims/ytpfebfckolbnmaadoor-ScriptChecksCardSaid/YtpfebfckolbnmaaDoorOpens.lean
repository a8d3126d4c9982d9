/- What a law is handed, opened: each kind of values at its type, part by part. -/
import Derived.Test.YtpfebfckolbnmaaDoorWWords
import Derived.WideShapes
import Derived.ChangeArms
import Derived.Deep.Slices
import Derived.OpenShut
import Derived.SizedLaws
namespace Go.Proofs.YtpfebfckolbnmaaDoor.Opens
open Go.RowKit Go.ChangeShapes Go.WideShapes Go.Deep Go.Proofs.YtpfebfckolbnmaaDoorW.PrintWords

/-- A type's data, opened: they read as a value of the kind, within these bounds. -/
def Opn (P : Program) {α : Type} (d : Kd α) (Bd : α → Prop) (t : TypeId) : Prop :=
  ∀ {H : Type} (enc : TypeId × Value → H) (w : World) (base : Nat) (spare : Nat → Bool) (held : Bool) (fuel : Nat) (cs : List Value) (x : DataW H × List MemPlace),
    DataW.trod enc P w base spare held fuel t cs = some x → (DataW.weights P t x.1).all (· ≤ reachBytes) = true → ∃ a, d.K w a cs ∧ Bd a

/-! What is known of the sizes. -/
def intB (k : IntKind) (a : Int) : Prop := (Lit.int k a).wf = true
def anyB {α : Type} (_ : α) : Prop := True
def strB (s : ByteArray) : Prop := s.size ≤ 140737488351232
def slB {α : Type} (n : Nat) (Bd : α → Prop) (l : List α) : Prop := l.length ≤ maxLen ∧ l.length * n ≤ 140737488351232 ∧ ∀ a ∈ l, Bd a
def prB {α β : Type} (Bd : α → Prop) (Bd' : β → Prop) (p : α × β) : Prop := Bd p.1 ∧ Bd' p.2
def isB {α β : Type} (Bd : α → Prop) (f : β → α) (x : β) : Prop := Bd (f x)

section
variable {P : Program} {α β : Type}
theorem opn_int {k : IntKind} {t : TypeId} (ht : P.underlying t = some (.int k)) : Opn P (Kd.int k) (intB k) t := by
  intro H enc w base spare held fuel cs x h _
  obtain ⟨n, rfl, _, hw⟩ := DataW.trod_int ht h
  exact ⟨n, rfl, hw⟩
theorem opn_bool {t : TypeId} (ht : P.underlying t = some .bool) : Opn P Kd.bool anyB t := by
  intro H enc w base spare held fuel cs x h _
  obtain ⟨n, rfl, _⟩ := DataW.trod_bool ht h
  exact ⟨n, rfl, trivial⟩
theorem opn_string {t : TypeId} (ht : P.underlying t = some .string) : Opn P Kd.string strB t := by
  intro H enc w base spare held fuel cs x h hw
  obtain ⟨s, rfl, rfl, _⟩ := DataW.trod_string ht h
  refine ⟨s, rfl, ?_⟩
  simp [DataW.weights] at hw
  exact hw
theorem all_of_mem {l : List Nat} {n b : Nat} (h : l.all (· ≤ b) = true) (hn : n ∈ l) : n ≤ b := of_decide_eq_true (List.all_eq_true.1 h _ hn)
theorem all_sub {l l' : List Nat} {b : Nat} (h : l.all (· ≤ b) = true) (hs : ∀ n ∈ l', n ∈ l) : l'.all (· ≤ b) = true := List.all_eq_true.2 fun n hn => List.all_eq_true.1 h n (hs n hn)
theorem weights_all {H : Type} {e : TypeId} : ∀ {ds : List (DataW H)} {d : DataW H}, d ∈ ds → ∀ n ∈ d.weights P e, n ∈ DataW.weightsAll P e ds
  | d0 :: ds, d, hd, n, hn => by
    rw [DataW.weightsAll, List.mem_append]
    rcases List.mem_cons.1 hd with rfl | hd
    · exact .inl hn
    · exact .inr (weights_all hd n hn)
theorem choose_list {γ : Type} {n : Nat} {p : Nat → γ → Prop} (h : ∀ i, i < n → ∃ v, p i v) : ∃ L : List γ, L.length = n ∧ ∀ i v, L[i]? = some v → p i v := by
  induction n with
  | zero => exact ⟨[], rfl, fun i v hv => by simp at hv⟩
  | succ n ih =>
    obtain ⟨L, hl, hL⟩ := ih fun i hi => h i (by omega)
    obtain ⟨v, hv⟩ := h n (by omega)
    refine ⟨L ++ [v], by rw [List.length_append, hl]; rfl, fun i u hu => ?_⟩
    by_cases hi : i < n
    · rw [List.getElem?_append_left (by omega)] at hu
      exact hL i u hu
    · rw [List.getElem?_append_right (by omega), hl] at hu
      have h0 : i - n = 0 := by
        have := (List.getElem?_eq_some_iff.1 hu).1
        simp at this
        omega
      rw [h0] at hu
      obtain rfl : i = n := by omega
      cases hu
      exact hv
theorem opn_slice {d : Kd α} {Bd : α → Prop} {t e : TypeId} (ht : P.underlying t = some (.slice e)) (hz : P.cellsOf e = d.sz) {nb : Nat} (hnb : P.bytesOf e = nb) (hd : Opn P d Bd e) : Opn P (Kd.slice e d) (slB nb Bd) t := by
  subst hnb
  intro H enc w base spare held fuel cs x h hw
  rcases open_slice ht h with ⟨rfl, rfl⟩ | ⟨a, len, cap, m, n, D, Pl, rfl, hb, hl, hm, hmm, rfl, hx⟩
  · refine ⟨[], ⟨none, 0, rfl, Nat.le_refl _, rfl, by simp, fun h => by simp at h⟩, Nat.zero_le _, by simp, by simp⟩
  · have hlm : len ≤ m := by rw [hmm]; split <;> omega
    have hw0 : (DataW.weights P t (DataW.slice ((List.range len).map D) ((List.range (m - len)).map fun j => D (len + j)))).all (· ≤ reachBytes) = true := hw
    rw [DataW.weights, ht] at hw0
    simp only at hw0
    obtain ⟨V, hVl, hV⟩ := choose_list (γ := α × List Value) (n := len) (p := fun i v => v.2.length = P.cellsOf e ∧ d.K w v.1 v.2 ∧ Bd v.1 ∧ ∀ j u, v.2[j]? = some u → w.cell? (a.add (i * P.cellsOf e + j)) = some u) (fun i hi => by
      obtain ⟨cs', h1, h2⟩ := hx i (by omega)
      obtain ⟨_, hlen, hcell⟩ := World.cells?_some h1
      have hmem : D i ∈ (List.range len).map D := List.mem_map.2 ⟨i, List.mem_range.2 hi, rfl⟩
      obtain ⟨y, hy, hB⟩ := hd enc w base spare held n cs' _ h2 (all_sub hw0 fun k hk => List.mem_cons_of_mem _ (List.mem_append_left _ (weights_all hmem k hk)))
      refine ⟨(y, cs'), hlen, hy, hB, fun j u hu => ?_⟩
      have hj : j < P.cellsOf e := by rw [← hlen]; exact (List.getElem?_eq_some_iff.1 hu).1
      have h3 := hcell j hj
      rw [hu] at h3
      rw [← h3, Go.Deep.add_add])
    refine ⟨V.map (·.1), ⟨some a, cap, by rw [List.length_map, hVl], by rw [List.length_map, hVl]; exact hl, rfl, by rw [List.length_map, hVl]; unfold maxLen at hm; omega, fun _ => ⟨a, rfl, fun j p hp => ?_⟩⟩, by rw [List.length_map, hVl]; omega, ?_, fun y hy => ?_⟩
    · rw [List.getElem?_map, Option.map_eq_some_iff] at hp
      obtain ⟨v, hv, rfl⟩ := hp
      obtain ⟨v1, v2, v3, v4⟩ := hV j v hv
      exact ⟨v.2, by rw [v1, hz], v2, by rw [← hz]; exact v4⟩
    · have := all_of_mem hw0 List.mem_cons_self
      rw [List.length_map, List.length_range] at this
      rw [List.length_map, hVl]
      have h2 : len * P.bytesOf e ≤ (len + ((List.range (m - len)).map fun j => D (len + j)).length) * P.bytesOf e := Nat.mul_le_mul_right _ (Nat.le_add_right _ _)
      exact Nat.le_trans h2 this
    · obtain ⟨v, hv, rfl⟩ := List.mem_map.1 hy
      obtain ⟨i, hi⟩ := List.mem_iff_getElem?.1 hv
      exact (hV i v hi).2.2.1

/-- Where the j-th of some fields begins. -/
def offs (P : Program) : List TypeId → Nat → Nat
  | [], _ => 0
  | _ :: _, 0 => 0
  | t :: ts, j + 1 => P.cellsOf t + offs P ts j
def total (P : Program) : List TypeId → Nat
  | [] => 0
  | t :: ts => P.cellsOf t + total P ts
/-- Fields in line, opened. -/
def OpnF (P : Program) {α : Type} (d : Kd α) (Bd : α → Prop) (ts : List TypeId) : Prop :=
  ∀ {H : Type} (enc : TypeId × Value → H) (w : World) (base : Nat) (spare : Nat → Bool) (held : Bool) (fuel : Nat) (cs : List Value) (xs : List (DataW H × List MemPlace)),
    cs.length = total P ts → xs.length = ts.length → (∀ (i : Nat) (t : TypeId), ts[i]? = some t → DataW.trod enc P w base spare held fuel t ((cs.drop (offs P ts i)).take (P.cellsOf t)) = xs[i]?) →
    (DataW.weightsEach P ts (xs.map (·.1))).all (· ≤ reachBytes) = true → ∃ a, d.K w a cs ∧ Bd a
theorem opnF_one {d : Kd α} {Bd : α → Prop} {t : TypeId} (hd : Opn P d Bd t) : OpnF P d Bd [t] := by
  intro H enc w base spare held fuel cs xs hl hx h hw
  match xs, hx with
  | [x], _ =>
    have h0 := h 0 t rfl
    have e : (cs.drop (offs P [t] 0)).take (P.cellsOf t) = cs := by
      show (cs.drop 0).take (P.cellsOf t) = cs
      rw [List.drop_zero, List.take_of_length_le (by rw [hl]; exact Nat.le_refl _)]
    rw [e] at h0
    refine hd enc w base spare held fuel cs x h0 (all_sub hw fun n hn => ?_)
    rw [List.map_cons, DataW.weightsEach, List.mem_append]
    exact .inl hn
theorem opnF_cons {d : Kd α} {Bd : α → Prop} {d' : Kd β} {Bd' : β → Prop} {t : TypeId} {ts : List TypeId} (hd : Opn P d Bd t) (hd' : OpnF P d' Bd' ts) : OpnF P (Kd.pair d d') (prB Bd Bd') (t :: ts) := by
  intro H enc w base spare held fuel cs xs hl hx h hw
  match xs, hx with
  | x :: xs, hx =>
    have h0 := h 0 t rfl
    have e : (cs.drop (offs P (t :: ts) 0)).take (P.cellsOf t) = cs.take (P.cellsOf t) := by
      show (cs.drop 0).take (P.cellsOf t) = _
      rw [List.drop_zero]
    rw [e] at h0
    rw [List.map_cons, DataW.weightsEach] at hw
    obtain ⟨a, ha, hB⟩ := hd enc w base spare held fuel _ x h0 (all_sub hw fun n hn => List.mem_append_left _ hn)
    have hlt : cs.length = P.cellsOf t + total P ts := hl
    obtain ⟨b, hb, hB'⟩ := hd' enc w base spare held fuel (cs.drop (P.cellsOf t)) xs (by rw [List.length_drop]; omega) (by simpa using hx) (fun i u hu => by
      have h1 := h (i + 1) u hu
      have e1 : cs.drop (offs P (t :: ts) (i + 1)) = (cs.drop (P.cellsOf t)).drop (offs P ts i) := by rw [List.drop_drop]; rfl
      rw [e1] at h1
      exact h1) (all_sub hw fun n hn => List.mem_append_right _ hn)
    exact ⟨(a, b), ⟨_, _, (List.take_append_drop (P.cellsOf t) cs).symm, ha, hb⟩, hB, hB'⟩
theorem opn_struct {d : Kd α} {Bd : α → Prop} {t : TypeId} {fs : Array Field} {ts : List TypeId} (ht : P.underlying t = some (.struct fs)) (hts : fs.toList.map (·.type) = ts)
    (hof : ∀ (i : Nat) (f : Field), fs[i]? = some f → f.offset = offs P ts i) (htot : P.cellsOf t = total P ts) (f : β → α) (g : α → β) (hfg : ∀ a, f (g a) = a) (hd : OpnF P d Bd ts) : Opn P (Kd.iso d f) (isB Bd f) t := by
  intro H enc w base spare held fuel cs x h hw
  obtain ⟨xs, n, _, rfl, hl, hxs, hf⟩ := DataW.trod_struct ht h
  have hlen : ts.length = fs.size := by rw [← hts, List.length_map, Array.length_toList]
  have hw0 : (DataW.weights P t (DataW.agg (xs.map (·.1)))).all (· ≤ reachBytes) = true := hw
  rw [DataW.weights, ht] at hw0
  simp only [hts] at hw0
  obtain ⟨a, ha, hB⟩ := hd enc w base spare held n cs xs (by rw [hl, htot]) (by rw [hxs, hlen]) (fun i u hu => by
    rw [← hts, List.getElem?_map, Option.map_eq_some_iff] at hu
    obtain ⟨fd, hfd, rfl⟩ := hu
    have hfd' : fs[i]? = some fd := by rw [← Array.getElem?_toList]; exact hfd
    rw [← hof i fd hfd']
    exact hf i fd hfd') hw0
  exact ⟨g a, by show d.K w (f (g a)) cs; rw [hfg]; exact ha, by show Bd (f (g a)); rw [hfg]; exact hB⟩
/-- The numbers of a struct's fields: what opn_struct asks, reckoned. -/
def fieldsOk (P : Program) (fs : Array Field) (ts : List TypeId) : Bool :=
  decide (fs.toList.map (·.type) = ts) && (List.range fs.size).all fun i => match fs[i]? with | some f => decide (f.offset = offs P ts i) | none => true
theorem fields_of {fs : Array Field} {ts : List TypeId} (h : fieldsOk P fs ts = true) : fs.toList.map (·.type) = ts ∧ ∀ (i : Nat) (f : Field), fs[i]? = some f → f.offset = offs P ts i := by
  rw [fieldsOk, Bool.and_eq_true] at h
  refine ⟨of_decide_eq_true h.1, fun i f hf => ?_⟩
  have hi : i < fs.size := (Array.getElem?_eq_some_iff.1 hf).1
  have := List.all_eq_true.1 h.2 i (List.mem_range.2 hi)
  rw [hf] at this
  exact of_decide_eq_true this
/-- An argument of a law, opened. -/
theorem opn_arg {H : Type} {enc : TypeId × Value → H} {d : Kd α} {Bd : α → Prop} {t : TypeId} (hd : Opn P d Bd t) {w : World} {base : Nat} {spare : Nat → Bool} {held : Bool} {v : Value} {x : DataW H} {p : List MemPlace} (h : DataW.Trod enc P w base spare held t v x p)
    {j : Nat} {ts : List TypeId} {ds : List (DataW H)} (hsz : (DataW.weightsEach P ts ds).all (· ≤ reachBytes) = true) (ht : ts[j]? = some t) (hx : ds[j]? = some x) : ∃ a, d.K w a v.cells.toList ∧ Bd a := by
  obtain ⟨fuel, h⟩ := h
  exact hd enc w base spare held fuel _ _ h (all_sub hsz fun n hn => DataW.weights_mem_each ht hx n hn)
end
end Go.Proofs.YtpfebfckolbnmaaDoor.Opens
