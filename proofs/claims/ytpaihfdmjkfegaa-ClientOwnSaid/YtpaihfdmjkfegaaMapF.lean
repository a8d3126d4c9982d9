/- A map of the call's own, said as a function from keys to elements. -/
import Derived.Maps.OwnSet
namespace Go.Proofs.Ytpaihfdmjkfegaa.MapF
open Go.Maps

/-- A type of maps: its keys and elements, as values and as what they read as. -/
structure MapTy (P : Program) (k : TypeId) (κ α : Type) where
  kv : κ → Value
  kl : κ → Lit
  ev : α → Value
  ed : α → DataW Unit
  ok : κ → Prop
  law : Keyed P k
  hkey : ∀ x, ok x → keyOf P k (kv x) = some (kl x)
  kinj : ∀ x y, kl x = kl y → x = y
  einj : ∀ a b, ed a = ed b → a = b
  vinj : ∀ a b, ev a = ev b → a = b

section
variable {P : Program} {k : TypeId} {κ α : Type} (M : MapTy P k κ α)

open Classical in
/-- How an element reads. -/
noncomputable def MapTy.R (v : Value) : Option (DataW Unit × List MemPlace) := if h : ∃ a, v = M.ev a then some (M.ed (Classical.choose h), []) else none

theorem MapTy.R_mk (a : α) : M.R (M.ev a) = some (M.ed a, []) := by
  have h : ∃ b, M.ev a = M.ev b := ⟨a, rfl⟩
  unfold MapTy.R
  rw [dif_pos h, ← M.vinj _ _ (Classical.choose_spec h)]

theorem MapTy.R_inv {v : Value} {z : DataW Unit × List MemPlace} (h : M.R v = some z) : ∃ a, v = M.ev a ∧ z = (M.ed a, []) := by
  unfold MapTy.R at h
  split at h
  · rename_i hh
    cases h
    exact ⟨_, Classical.choose_spec hh, rfl⟩
  · cases h

/-- Block b is a map of at most n entries, and it is f. -/
def IsF (w : World) (b n : Nat) (f : κ → Option α) : Prop :=
  ∃ D, w.ownsMap P k M.R b n D ∧ (∀ x, M.ok x → Maps.has D (M.kl x) = (f x).isSome) ∧ ∀ x, M.ok x → ∀ a, f x = some a → ∀ z, D.atKey (M.kl x) z = M.ed a

variable {M} {w : World} {b n : Nat} {f : κ → Option α}

theorem IsF.made (w : World) : IsF M (w.alloc (.map #[] 0)) w.heap.size 0 (fun _ => none) :=
  ⟨_, World.ownsMap_made w P k M.R, fun _ _ => rfl, fun _ _ _ h => by cases h⟩

theorem IsF.kept {w' : World} {row : Option Nat} (h : IsF M w b n f) (hg : w.grownBy w' row) (hne : some b ≠ row) : IsF M w' b n f := by
  obtain ⟨D, h1, h2, h3⟩ := h
  exact ⟨D, h1.kept hg hne, h2, h3⟩

theorem IsF.mono (h : IsF M w b n f) {n' : Nat} (hn : n ≤ n') : IsF M w b n' f := by
  obtain ⟨D, h1, h2, h3⟩ := h
  exact ⟨D, h1.mono hn, h2, h3⟩

theorem IsF.lt (h : IsF M w b n f) : b < w.heap.size := by
  obtain ⟨D, h1, _⟩ := h
  exact h1.lt

theorem IsF.congr (h : IsF M w b n f) {g : κ → Option α} (e : ∀ x, M.ok x → f x = g x) : IsF M w b n g := by
  obtain ⟨D, h1, h2, h3⟩ := h
  exact ⟨D, h1, fun x hx => by rw [← e x hx]; exact h2 x hx, fun x hx a ha z => h3 x hx a (by rw [e x hx]; exact ha) z⟩

theorem IsF.below {w' : World} {B : Nat} (h : IsF M w b n f) (hB : b < B) (hb : RowKit.Below B w w') : IsF M w' b n f := by
  obtain ⟨D, ⟨es, clock, e1, e2, e3, e4⟩, h2, h3⟩ := h
  exact ⟨D, ⟨es, clock, (hb.block b hB).trans e1, e2, e3, e4⟩, h2, h3⟩

/-- 'v, ok := m[k]'. -/
theorem IsF.look_ok {t e : TypeId} (h : IsF M w b n f) (ht : P.underlying t = some (.map k e)) {z0 : α} (hz : (zeroValue e).run P w = .ok (M.ev z0) w) (x : κ) (hx : M.ok x) :
    (Instr.lookup t (.map (some b)) (M.kv x) true).run P w = .ok (.tuple #[M.ev ((f x).getD z0), .bool (f x).isSome]) w := by
  obtain ⟨D, h1, h2, h3⟩ := h
  obtain ⟨v, ps, hrun, hv⟩ := h1.look_ok M.law ht hz (M.R_mk z0) (M.hkey x hx)
  obtain ⟨a, rfl, ha⟩ := M.R_inv hv
  rw [hrun, h2 x hx]
  cases hf : f x with
  | some a' =>
    rw [h3 x hx a' hf] at ha
    simp only [Prod.mk.injEq] at ha
    rw [M.einj _ _ ha.1]
    rfl
  | none =>
    have hn : Maps.has D (M.kl x) = false := by rw [h2 x hx, hf]; rfl
    rw [Maps.atKey_of_not_has hn] at ha
    simp only [Prod.mk.injEq] at ha
    rw [M.einj _ _ ha.1]
    rfl

/-- 'v := m[k]'. -/
theorem IsF.look {t e : TypeId} (h : IsF M w b n f) (ht : P.underlying t = some (.map k e)) {z0 : α} (hz : (zeroValue e).run P w = .ok (M.ev z0) w) (x : κ) (hx : M.ok x) :
    (Instr.lookup t (.map (some b)) (M.kv x) false).run P w = .ok (M.ev ((f x).getD z0)) w := by
  obtain ⟨D, h1, h2, h3⟩ := h
  obtain ⟨v, ps, hrun, hv⟩ := h1.lookup M.law ht hz (M.R_mk z0) (M.hkey x hx)
  obtain ⟨a, rfl, ha⟩ := M.R_inv hv
  rw [hrun]
  cases hf : f x with
  | some a' =>
    rw [h3 x hx a' hf] at ha
    simp only [Prod.mk.injEq] at ha
    rw [M.einj _ _ ha.1]
    rfl
  | none =>
    have hn : Maps.has D (M.kl x) = false := by rw [h2 x hx, hf]; rfl
    rw [Maps.atKey_of_not_has hn] at ha
    simp only [Prod.mk.injEq] at ha
    rw [M.einj _ _ ha.1]
    rfl

open Classical in
/-- f, but v at x. -/
noncomputable def upd (f : κ → Option α) (x : κ) (v : Option α) : κ → Option α := fun y => if y = x then v else f y

/-- 'm[k] = v'. -/
theorem IsF.store {t e : TypeId} (h : IsF M w b n f) (ht : P.underlying t = some (.map k e)) (hn : n < maxLen) (x : κ) (hx : M.ok x) (a : α) :
    ∃ w', (Instr.mapUpdate t (.map (some b)) (M.kv x) (M.ev a)).run P w = .ok () w' ∧ IsF M w' b (n + 1) (upd f x (some a)) ∧ w.mapTurned w' b := by
  obtain ⟨D, h1, h2, h3⟩ := h
  obtain ⟨w', hrun, r1, r2⟩ := h1.store M.law ht hn (M.hkey x hx) (M.R_mk a)
  have hD := h1.isMap
  have hK := M.law.key (M.hkey x hx)
  refine ⟨w', hrun, ⟨_, r1, fun y hy => ?_, fun y hy c hc z => ?_⟩, r2⟩
  · unfold upd
    split
    · rename_i e; subst e; rw [Maps.has_put_same hD hK]; rfl
    · rename_i e; rw [Maps.has_put_other (fun q => e (M.kinj _ _ q))]; exact h2 y hy
  · unfold upd at hc
    split at hc
    · rename_i e; subst e; cases hc; exact Maps.atKey_put_same hD hK _ _
    · rename_i e; rw [Maps.atKey_put_other (fun q => e (M.kinj _ _ q))]; exact h3 y hy c hc z

/-- 'delete(m, k)'. -/
theorem IsF.drop {t e : TypeId} (h : IsF M w b n f) (ht : P.underlying t = some (.map k e)) (x : κ) (hx : M.ok x) (ty : TypeId) :
    ∃ w', (Builtin.delete_ #[t, k] ty #[.map (some b), M.kv x]).run P w = .ok (.tuple #[]) w' ∧ IsF M w' b n (upd f x none) ∧ w.mapTurned w' b := by
  obtain ⟨D, h1, h2, h3⟩ := h
  obtain ⟨w', hrun, r1, r2⟩ := h1.drop M.law ht (M.hkey x hx) ty
  refine ⟨w', hrun, ⟨_, r1, fun y hy => ?_, fun y hy c hc z => ?_⟩, r2⟩
  · unfold upd
    split
    · rename_i e; subst e; rw [Maps.has_del_same]; rfl
    · rename_i e; rw [Maps.has_del_other (fun q => e (M.kinj _ _ q))]; exact h2 y hy
  · unfold upd at hc
    split at hc
    · cases hc
    · rename_i e; rw [Maps.atKey_del_other (fun q => e (M.kinj _ _ q))]; exact h3 y hy c hc z

end

section
variable {P : Program} {k : TypeId} {κ α : Type} (M : MapTy P k κ α) (w : World) {ops : Array Oper} {rest : List Oper} {o : Oper} {a : Act} {Q : Exit → Act → World → Prop}

/-- 'm[k] = v', at the operation. -/
theorem wpList_storeF (hg : o.guard = none) (m x v : Operand) (t : TypeId) (hop : o.op = Op.mapUpdate t m x v) (e : TypeId) (ht : P.underlying t = some (.map k e)) (b n : Nat) (f : κ → Option α)
    (hm : a.eval m = .map (some b)) (hown : IsF M w b n f) (hn : n < maxLen) (y : κ) (hy : M.ok y) (c : α) (hx : a.eval x = M.kv y) (hv : a.eval v = M.ev c)
    (hK : ∀ w', IsF M w' b (n + 1) (upd f y (some c)) → w.mapTurned w' b → wpList P ops Q rest (a.put o.dst undef) w') :
    wpList P ops Q (o :: rest) a w := by
  refine wpList_plain hg fun K' hK' => ?_
  obtain ⟨w', hrun, r1, r2⟩ := hown.store ht hn y hy c
  unfold Oper.wp
  simp [execOp, hop, hm, hx, hv, hrun, Result.andThen]
  exact hK' _ _ (hK w' r1 r2)

/-- 'v, ok := m[k]', at the operation. -/
theorem wpList_lookF (hg : o.guard = none) (m x : Operand) (t : TypeId) (hop : o.op = Op.lookup t m x true) (e : TypeId) (ht : P.underlying t = some (.map k e)) (b n : Nat) (f : κ → Option α) {z0 : α} (hz : (zeroValue e).run P w = .ok (M.ev z0) w)
    (hm : a.eval m = .map (some b)) (hown : IsF M w b n f) (y : κ) (hy : M.ok y) (hx : a.eval x = M.kv y)
    (hK : wpList P ops Q rest (a.put o.dst (.tuple #[M.ev ((f y).getD z0), .bool (f y).isSome])) w) :
    wpList P ops Q (o :: rest) a w := by
  refine wpList_plain hg fun K' hK' => ?_
  unfold Oper.wp
  simp [execOp, hop, hm, hx, hown.look_ok ht hz y hy, Result.andThen]
  exact hK' _ _ hK
end
end Go.Proofs.Ytpaihfdmjkfegaa.MapF
