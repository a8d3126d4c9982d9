/- The two checks of a step say the same; a row of steps; the first fault of a script, plain. -/
import Derived.Test.YtpfebfckolbnmaaDoorWrongM
import Derived.Test.YtpfebfckolbnmaaDoorScH
namespace Go.Proofs.YtpfebfckolbnmaaDoor.Sc
open Go.RowKit Go.Lib Go.Proofs.YtpfebfckolbnmaaDoor.Sta Go.Proofs.YtpfebfckolbnmaaDoor.Rd Go.Proofs.YtpfebfckolbnmaaDoor.Cls

theorem beqBA (a b : ByteArray) : (a == b) = true ↔ a = b := by
  constructor
  · intro h
    obtain ⟨a⟩ := a
    obtain ⟨b⟩ := b
    have h' : (a == b) = true := h
    rw [eq_of_beq h']
  · rintro rfl
    obtain ⟨a⟩ := a
    show (a == a) = true
    exact beq_self_eq_true a
theorem stray_eq (s : Stp) (h1 : 1 ≤ s.kind) (h2 : s.kind ≤ 18) : eqS s (onlyS s (formF s.kind)) = !strayB s := by
  obtain ⟨k, c, g, nd, ke, va, n, x⟩ := s
  simp only at h1 h2
  rcases kinds h1 h2 with rfl | rfl | rfl | rfl | rfl | rfl | rfl | rfl | rfl | rfl | rfl | rfl | rfl | rfl | rfl | rfl | rfl | rfl
  all_goals
    rw [Bool.eq_iff_iff]
    simp [eqS, onlyS, formF, strayB, hasB, fieldsR, stepL, bare, and_assoc, beqBA]
    try (clear h1 h2; intros; constructor <;> (intro h; simp_all))
theorem ok_eq (s : Stp) (h1 : 1 ≤ s.kind) (h2 : s.kind ≤ 18) : stepOk s = (!strayB s && insideB s) := by
  unfold stepOk insideB
  rw [stray_eq s h1 h2]

/-- A row of steps. -/
def StepsIn (w : World) (B : Nat) (A : Option Addr) (l : List Stp) : Prop :=
  0 < l.length → ∃ b o, A = some ⟨b, o, none⟩ ∧ b < B ∧ ∀ (i : Nat) (s : Stp), l[i]? = some s → w.cell? ⟨b, o + i * 8, none⟩ = some (.int .i64 s.kind) ∧ w.cell? ⟨b, o + i * 8 + 1, none⟩ = some (.int .i64 s.client) ∧ w.cell? ⟨b, o + i * 8 + 2, none⟩ = some (.int .i64 s.group) ∧ w.cell? ⟨b, o + i * 8 + 3, none⟩ = some (.int .i64 s.node) ∧ w.cell? ⟨b, o + i * 8 + 4, none⟩ = some (.string s.key) ∧ w.cell? ⟨b, o + i * 8 + 5, none⟩ = some (.string s.val) ∧ w.cell? ⟨b, o + i * 8 + 6, none⟩ = some (.int .i64 s.n) ∧ w.cell? ⟨b, o + i * 8 + 7, none⟩ = some (.int .i64 s.cut)
theorem StepsIn.below {w w' : World} {B : Nat} {A : Option Addr} {l : List Stp} (h : StepsIn w B A l) (hb : Below B w w') : StepsIn w' B A l := fun hl => by
  obtain ⟨b, o, rfl, hB, hc⟩ := h hl
  refine ⟨b, o, rfl, hB, fun i s hs => ?_⟩
  obtain ⟨a0, a1, a2, a3, a4, a5, a6, a7⟩ := hc i s hs
  exact ⟨(hb.cell (p := ⟨b, _, none⟩) hB).trans a0, (hb.cell (p := ⟨b, _, none⟩) hB).trans a1, (hb.cell (p := ⟨b, _, none⟩) hB).trans a2, (hb.cell (p := ⟨b, _, none⟩) hB).trans a3, (hb.cell (p := ⟨b, _, none⟩) hB).trans a4, (hb.cell (p := ⟨b, _, none⟩) hB).trans a5, (hb.cell (p := ⟨b, _, none⟩) hB).trans a6, (hb.cell (p := ⟨b, _, none⟩) hB).trans a7⟩
theorem StepsIn.more {w : World} {B B' : Nat} {A : Option Addr} {l : List Stp} (h : StepsIn w B A l) (hb : B ≤ B') : StepsIn w B' A l := fun hl => by
  obtain ⟨b, o, rfl, hB, hc⟩ := h hl
  exact ⟨b, o, rfl, by omega, hc⟩

/-- The first wrong step. -/
def badF : Int → List Stp → Int × Int
  | _, [] => (0, 0)
  | i, s :: r => if wrongE s = 0 then badF (i + 1) r else (i, wrongE s)
/-- The first fault: its place, its number. -/
def faultF (e : Int) (l : List Stp) : Int × Int :=
  if e ≠ 0 then (-1, e) else if 4096 < l.length then (-1, 9) else badF 0 l
theorem wrong_pos (s : Stp) : wrongE s = 0 ∨ wrongE s = 5 ∨ wrongE s = 6 := by
  unfold wrongE
  repeat' split
  all_goals simp
theorem bad_on {i : Nat} {l : List Stp} {s : Stp} {r : Int × Int} (hs : l[i]? = some s) (hw : wrongE s = 0) (h : badF i (l.drop i) = r) : badF ((i + 1 : Nat) : Int) (l.drop (i + 1)) = r := by
  have hl : i < l.length := (List.getElem?_eq_some_iff.1 hs).1
  have e : l.drop i = s :: l.drop (i + 1) := by
    rw [List.drop_eq_getElem_cons hl]
    congr 1
    exact (List.getElem?_eq_some_iff.1 hs).2
  rw [e, badF, if_pos hw] at h
  exact h
theorem bad_hit {i : Nat} {l : List Stp} {s : Stp} {r : Int × Int} (hs : l[i]? = some s) (hw : wrongE s ≠ 0) (h : badF i (l.drop i) = r) : r = ((i : Int), wrongE s) := by
  have hl : i < l.length := (List.getElem?_eq_some_iff.1 hs).1
  have e : l.drop i = s :: l.drop (i + 1) := by
    rw [List.drop_eq_getElem_cons hl]
    congr 1
    exact (List.getElem?_eq_some_iff.1 hs).2
  rw [e, badF, if_neg hw] at h
  exact h.symm
theorem bad_end {i : Nat} {l : List Stp} {r : Int × Int} (hi : l.length ≤ i) (h : badF i (l.drop i) = r) : r = (0, 0) := by
  rw [List.drop_eq_nil_of_le hi] at h
  exact h.symm

/-- What script.look answers. -/
def LookP (w : World) (r : Int × Int) (e : Ending) (w' : World) : Prop :=
  Below w.heap.size w w' ∧ ((r = (0, 0) ∧ e = .returned (.pointer none)) ∨ (r.2 ≠ 0 ∧ ∃ H, e = .returned (.pointer (some ⟨H, 0, none⟩)) ∧ H < w'.heap.size ∧ w'.cell? ⟨H, 0, none⟩ = some (.int .i64 r.1) ∧ w'.cell? ⟨H, 1, none⟩ = some (.iface 46 (.int .i64 r.2))))
theorem LookP.no {w w' : World} {r : Int × Int} (hb : Below w.heap.size w w') (h : r = (0, 0)) : LookP w r (.returned (.pointer none)) w' := ⟨hb, .inl ⟨h, rfl⟩⟩
theorem LookP.yes {w w1 : World} {r : Int × Int} (hb : Below w.heap.size w w1) (h : r.2 ≠ 0) : LookP w r (.returned (.pointer (some ⟨w1.heap.size, 0, none⟩))) (w1.alloc (.cells #[.int .i64 r.1, .iface 46 (.int .i64 r.2)] 54)) :=
  ⟨hb.alloc hb.size _, .inr ⟨h, w1.heap.size, rfl, by simp, by simp [go_sem], by simp [go_sem]⟩⟩
end Go.Proofs.YtpfebfckolbnmaaDoor.Sc
