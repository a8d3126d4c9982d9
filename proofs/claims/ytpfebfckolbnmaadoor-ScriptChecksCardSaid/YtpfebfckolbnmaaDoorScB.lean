/- A step of a script; the form of a kind; a step with just its fields. -/
import Derived.Test.YtpfebfckolbnmaaDoorScA
import Derived.Test.YtpfebfckolbnmaaDoorCls
namespace Go.Proofs.YtpfebfckolbnmaaDoor.Sc
open Go.RowKit Go.Lib Go.Proofs.YtpfebfckolbnmaaDoor.Sta Go.Proofs.YtpfebfckolbnmaaDoor.Rd Go.Proofs.YtpfebfckolbnmaaDoor.Cls

/-- A step. -/
structure Stp where
  kind : Int
  client : Int
  group : Int
  node : Int
  key : ByteArray
  val : ByteArray
  n : Int
  cut : Int
def Stp.v (s : Stp) : Value := .agg #[.int .i64 s.kind, .int .i64 s.client, .int .i64 s.group, .int .i64 s.node, .string s.key, .string s.val, .int .i64 s.n, .int .i64 s.cut]
def stpV (k c g nd : Int) (ke va : ByteArray) (n x : Int) : Value := .agg #[.int .i64 k, .int .i64 c, .int .i64 g, .int .i64 nd, .string ke, .string va, .int .i64 n, .int .i64 x]
/-- The letters of a kind's form. -/
def formF (k : Int) : ByteArray :=
  if k = 1 ∨ k = 5 ∨ k = 6 ∨ k = 7 then ⟨#[99]⟩ else if k = 2 ∨ k = 4 then ⟨#[99, 107]⟩ else if k = 3 then ⟨#[99, 107, 118]⟩
  else if k = 8 ∨ k = 9 ∨ k = 10 ∨ k = 11 ∨ k = 16 then ⟨#[97, 116]⟩ else if k = 15 ∨ k = 17 ∨ k = 18 then ⟨#[97]⟩ else if k = 12 then ⟨#[110, 116]⟩
  else if k = 13 ∨ k = 14 then ⟨#[110]⟩ else ⟨#[]⟩
/-- The table of the forms. -/
structure FormsAt (w : World) : Prop where
  lt : 1 < w.heap.size
  f : ∀ k : Nat, 1 ≤ k → k ≤ 18 → (∃ nm : ByteArray, w.cell? ⟨1, 2 * k, none⟩ = some (.string nm)) ∧ w.cell? ⟨1, 2 * k + 1, none⟩ = some (.string (formF k))
theorem FormsAt.below {w w' : World} (h : FormsAt w) (hb : Below w.heap.size w w') : FormsAt w' :=
  ⟨Nat.lt_of_lt_of_le h.lt hb.size, fun k h1 h2 => ⟨(h.f k h1 h2).1.imp fun _ hc => (hb.cell (p := ⟨1, 2 * k, none⟩) h.lt).trans hc, (hb.cell (p := ⟨1, 2 * k + 1, none⟩) h.lt).trans (h.f k h1 h2).2⟩⟩

set_option maxRecDepth 100000 in
set_option maxHeartbeats 1600000 in
/-- script.of, at a kind. -/
theorem of_any (k : Int) (h1 : 1 ≤ k) (h2 : k ≤ 18) (w : World) (hF : FormsAt w) : Calls Tryd.prog 35 #[.int .i64 k] w fun e w' => (∃ nm, e = .returned (.tuple #[.agg #[.string nm, .string (formF k)], .bool true])) ∧ Below w.heap.size w w' := by
  rcases kinds h1 h2 with rfl | rfl | rfl | rfl | rfl | rfl | rfl | rfl | rfl | rfl | rfl | rfl | rfl | rfl | rfl | rfl | rfl | rfl
  · obtain ⟨⟨nm, c0⟩, c1⟩ := hF.f 1 (by omega) (by omega)
    have lt := hF.lt
    have e1 : formF 1 = ⟨#[99]⟩ := by decide
    have e2 : ((1 : Nat) : Int) = 1 := rfl
    rw [e2, e1] at c1
    rw [e1]
    have B0 : Hid (Below w.heap.size w (w.alloc (.cells #[.string nm, .string ⟨#[99]⟩] 91))) := Lib.hid ((Below.refl _ _).alloc (Nat.le_refl _) _)
    clear h1 h2 hF e1 e2
    as_aux_lemma =>
    go_enter Tryd.func35, Tryd.ntmps35
    go_wp2
    exact bodyPost_ret (v := .tuple #[.agg #[.string nm, .string ⟨#[99]⟩], .bool true]) (by simp [results, Tryd.results35, go_sem]) rfl ⟨⟨nm, rfl⟩, B0.out⟩
  · obtain ⟨⟨nm, c0⟩, c1⟩ := hF.f 2 (by omega) (by omega)
    have lt := hF.lt
    have e1 : formF 2 = ⟨#[99, 107]⟩ := by decide
    have e2 : ((2 : Nat) : Int) = 2 := rfl
    rw [e2, e1] at c1
    rw [e1]
    have B0 : Hid (Below w.heap.size w (w.alloc (.cells #[.string nm, .string ⟨#[99, 107]⟩] 91))) := Lib.hid ((Below.refl _ _).alloc (Nat.le_refl _) _)
    clear h1 h2 hF e1 e2
    as_aux_lemma =>
    go_enter Tryd.func35, Tryd.ntmps35
    go_wp2
    exact bodyPost_ret (v := .tuple #[.agg #[.string nm, .string ⟨#[99, 107]⟩], .bool true]) (by simp [results, Tryd.results35, go_sem]) rfl ⟨⟨nm, rfl⟩, B0.out⟩
  · obtain ⟨⟨nm, c0⟩, c1⟩ := hF.f 3 (by omega) (by omega)
    have lt := hF.lt
    have e1 : formF 3 = ⟨#[99, 107, 118]⟩ := by decide
    have e2 : ((3 : Nat) : Int) = 3 := rfl
    rw [e2, e1] at c1
    rw [e1]
    have B0 : Hid (Below w.heap.size w (w.alloc (.cells #[.string nm, .string ⟨#[99, 107, 118]⟩] 91))) := Lib.hid ((Below.refl _ _).alloc (Nat.le_refl _) _)
    clear h1 h2 hF e1 e2
    as_aux_lemma =>
    go_enter Tryd.func35, Tryd.ntmps35
    go_wp2
    exact bodyPost_ret (v := .tuple #[.agg #[.string nm, .string ⟨#[99, 107, 118]⟩], .bool true]) (by simp [results, Tryd.results35, go_sem]) rfl ⟨⟨nm, rfl⟩, B0.out⟩
  · obtain ⟨⟨nm, c0⟩, c1⟩ := hF.f 4 (by omega) (by omega)
    have lt := hF.lt
    have e1 : formF 4 = ⟨#[99, 107]⟩ := by decide
    have e2 : ((4 : Nat) : Int) = 4 := rfl
    rw [e2, e1] at c1
    rw [e1]
    have B0 : Hid (Below w.heap.size w (w.alloc (.cells #[.string nm, .string ⟨#[99, 107]⟩] 91))) := Lib.hid ((Below.refl _ _).alloc (Nat.le_refl _) _)
    clear h1 h2 hF e1 e2
    as_aux_lemma =>
    go_enter Tryd.func35, Tryd.ntmps35
    go_wp2
    exact bodyPost_ret (v := .tuple #[.agg #[.string nm, .string ⟨#[99, 107]⟩], .bool true]) (by simp [results, Tryd.results35, go_sem]) rfl ⟨⟨nm, rfl⟩, B0.out⟩
  · obtain ⟨⟨nm, c0⟩, c1⟩ := hF.f 5 (by omega) (by omega)
    have lt := hF.lt
    have e1 : formF 5 = ⟨#[99]⟩ := by decide
    have e2 : ((5 : Nat) : Int) = 5 := rfl
    rw [e2, e1] at c1
    rw [e1]
    have B0 : Hid (Below w.heap.size w (w.alloc (.cells #[.string nm, .string ⟨#[99]⟩] 91))) := Lib.hid ((Below.refl _ _).alloc (Nat.le_refl _) _)
    clear h1 h2 hF e1 e2
    as_aux_lemma =>
    go_enter Tryd.func35, Tryd.ntmps35
    go_wp2
    exact bodyPost_ret (v := .tuple #[.agg #[.string nm, .string ⟨#[99]⟩], .bool true]) (by simp [results, Tryd.results35, go_sem]) rfl ⟨⟨nm, rfl⟩, B0.out⟩
  · obtain ⟨⟨nm, c0⟩, c1⟩ := hF.f 6 (by omega) (by omega)
    have lt := hF.lt
    have e1 : formF 6 = ⟨#[99]⟩ := by decide
    have e2 : ((6 : Nat) : Int) = 6 := rfl
    rw [e2, e1] at c1
    rw [e1]
    have B0 : Hid (Below w.heap.size w (w.alloc (.cells #[.string nm, .string ⟨#[99]⟩] 91))) := Lib.hid ((Below.refl _ _).alloc (Nat.le_refl _) _)
    clear h1 h2 hF e1 e2
    as_aux_lemma =>
    go_enter Tryd.func35, Tryd.ntmps35
    go_wp2
    exact bodyPost_ret (v := .tuple #[.agg #[.string nm, .string ⟨#[99]⟩], .bool true]) (by simp [results, Tryd.results35, go_sem]) rfl ⟨⟨nm, rfl⟩, B0.out⟩
  · obtain ⟨⟨nm, c0⟩, c1⟩ := hF.f 7 (by omega) (by omega)
    have lt := hF.lt
    have e1 : formF 7 = ⟨#[99]⟩ := by decide
    have e2 : ((7 : Nat) : Int) = 7 := rfl
    rw [e2, e1] at c1
    rw [e1]
    have B0 : Hid (Below w.heap.size w (w.alloc (.cells #[.string nm, .string ⟨#[99]⟩] 91))) := Lib.hid ((Below.refl _ _).alloc (Nat.le_refl _) _)
    clear h1 h2 hF e1 e2
    as_aux_lemma =>
    go_enter Tryd.func35, Tryd.ntmps35
    go_wp2
    exact bodyPost_ret (v := .tuple #[.agg #[.string nm, .string ⟨#[99]⟩], .bool true]) (by simp [results, Tryd.results35, go_sem]) rfl ⟨⟨nm, rfl⟩, B0.out⟩
  · obtain ⟨⟨nm, c0⟩, c1⟩ := hF.f 8 (by omega) (by omega)
    have lt := hF.lt
    have e1 : formF 8 = ⟨#[97, 116]⟩ := by decide
    have e2 : ((8 : Nat) : Int) = 8 := rfl
    rw [e2, e1] at c1
    rw [e1]
    have B0 : Hid (Below w.heap.size w (w.alloc (.cells #[.string nm, .string ⟨#[97, 116]⟩] 91))) := Lib.hid ((Below.refl _ _).alloc (Nat.le_refl _) _)
    clear h1 h2 hF e1 e2
    as_aux_lemma =>
    go_enter Tryd.func35, Tryd.ntmps35
    go_wp2
    exact bodyPost_ret (v := .tuple #[.agg #[.string nm, .string ⟨#[97, 116]⟩], .bool true]) (by simp [results, Tryd.results35, go_sem]) rfl ⟨⟨nm, rfl⟩, B0.out⟩
  · obtain ⟨⟨nm, c0⟩, c1⟩ := hF.f 9 (by omega) (by omega)
    have lt := hF.lt
    have e1 : formF 9 = ⟨#[97, 116]⟩ := by decide
    have e2 : ((9 : Nat) : Int) = 9 := rfl
    rw [e2, e1] at c1
    rw [e1]
    have B0 : Hid (Below w.heap.size w (w.alloc (.cells #[.string nm, .string ⟨#[97, 116]⟩] 91))) := Lib.hid ((Below.refl _ _).alloc (Nat.le_refl _) _)
    clear h1 h2 hF e1 e2
    as_aux_lemma =>
    go_enter Tryd.func35, Tryd.ntmps35
    go_wp2
    exact bodyPost_ret (v := .tuple #[.agg #[.string nm, .string ⟨#[97, 116]⟩], .bool true]) (by simp [results, Tryd.results35, go_sem]) rfl ⟨⟨nm, rfl⟩, B0.out⟩
  · obtain ⟨⟨nm, c0⟩, c1⟩ := hF.f 10 (by omega) (by omega)
    have lt := hF.lt
    have e1 : formF 10 = ⟨#[97, 116]⟩ := by decide
    have e2 : ((10 : Nat) : Int) = 10 := rfl
    rw [e2, e1] at c1
    rw [e1]
    have B0 : Hid (Below w.heap.size w (w.alloc (.cells #[.string nm, .string ⟨#[97, 116]⟩] 91))) := Lib.hid ((Below.refl _ _).alloc (Nat.le_refl _) _)
    clear h1 h2 hF e1 e2
    as_aux_lemma =>
    go_enter Tryd.func35, Tryd.ntmps35
    go_wp2
    exact bodyPost_ret (v := .tuple #[.agg #[.string nm, .string ⟨#[97, 116]⟩], .bool true]) (by simp [results, Tryd.results35, go_sem]) rfl ⟨⟨nm, rfl⟩, B0.out⟩
  · obtain ⟨⟨nm, c0⟩, c1⟩ := hF.f 11 (by omega) (by omega)
    have lt := hF.lt
    have e1 : formF 11 = ⟨#[97, 116]⟩ := by decide
    have e2 : ((11 : Nat) : Int) = 11 := rfl
    rw [e2, e1] at c1
    rw [e1]
    have B0 : Hid (Below w.heap.size w (w.alloc (.cells #[.string nm, .string ⟨#[97, 116]⟩] 91))) := Lib.hid ((Below.refl _ _).alloc (Nat.le_refl _) _)
    clear h1 h2 hF e1 e2
    as_aux_lemma =>
    go_enter Tryd.func35, Tryd.ntmps35
    go_wp2
    exact bodyPost_ret (v := .tuple #[.agg #[.string nm, .string ⟨#[97, 116]⟩], .bool true]) (by simp [results, Tryd.results35, go_sem]) rfl ⟨⟨nm, rfl⟩, B0.out⟩
  · obtain ⟨⟨nm, c0⟩, c1⟩ := hF.f 12 (by omega) (by omega)
    have lt := hF.lt
    have e1 : formF 12 = ⟨#[110, 116]⟩ := by decide
    have e2 : ((12 : Nat) : Int) = 12 := rfl
    rw [e2, e1] at c1
    rw [e1]
    have B0 : Hid (Below w.heap.size w (w.alloc (.cells #[.string nm, .string ⟨#[110, 116]⟩] 91))) := Lib.hid ((Below.refl _ _).alloc (Nat.le_refl _) _)
    clear h1 h2 hF e1 e2
    as_aux_lemma =>
    go_enter Tryd.func35, Tryd.ntmps35
    go_wp2
    exact bodyPost_ret (v := .tuple #[.agg #[.string nm, .string ⟨#[110, 116]⟩], .bool true]) (by simp [results, Tryd.results35, go_sem]) rfl ⟨⟨nm, rfl⟩, B0.out⟩
  · obtain ⟨⟨nm, c0⟩, c1⟩ := hF.f 13 (by omega) (by omega)
    have lt := hF.lt
    have e1 : formF 13 = ⟨#[110]⟩ := by decide
    have e2 : ((13 : Nat) : Int) = 13 := rfl
    rw [e2, e1] at c1
    rw [e1]
    have B0 : Hid (Below w.heap.size w (w.alloc (.cells #[.string nm, .string ⟨#[110]⟩] 91))) := Lib.hid ((Below.refl _ _).alloc (Nat.le_refl _) _)
    clear h1 h2 hF e1 e2
    as_aux_lemma =>
    go_enter Tryd.func35, Tryd.ntmps35
    go_wp2
    exact bodyPost_ret (v := .tuple #[.agg #[.string nm, .string ⟨#[110]⟩], .bool true]) (by simp [results, Tryd.results35, go_sem]) rfl ⟨⟨nm, rfl⟩, B0.out⟩
  · obtain ⟨⟨nm, c0⟩, c1⟩ := hF.f 14 (by omega) (by omega)
    have lt := hF.lt
    have e1 : formF 14 = ⟨#[110]⟩ := by decide
    have e2 : ((14 : Nat) : Int) = 14 := rfl
    rw [e2, e1] at c1
    rw [e1]
    have B0 : Hid (Below w.heap.size w (w.alloc (.cells #[.string nm, .string ⟨#[110]⟩] 91))) := Lib.hid ((Below.refl _ _).alloc (Nat.le_refl _) _)
    clear h1 h2 hF e1 e2
    as_aux_lemma =>
    go_enter Tryd.func35, Tryd.ntmps35
    go_wp2
    exact bodyPost_ret (v := .tuple #[.agg #[.string nm, .string ⟨#[110]⟩], .bool true]) (by simp [results, Tryd.results35, go_sem]) rfl ⟨⟨nm, rfl⟩, B0.out⟩
  · obtain ⟨⟨nm, c0⟩, c1⟩ := hF.f 15 (by omega) (by omega)
    have lt := hF.lt
    have e1 : formF 15 = ⟨#[97]⟩ := by decide
    have e2 : ((15 : Nat) : Int) = 15 := rfl
    rw [e2, e1] at c1
    rw [e1]
    have B0 : Hid (Below w.heap.size w (w.alloc (.cells #[.string nm, .string ⟨#[97]⟩] 91))) := Lib.hid ((Below.refl _ _).alloc (Nat.le_refl _) _)
    clear h1 h2 hF e1 e2
    as_aux_lemma =>
    go_enter Tryd.func35, Tryd.ntmps35
    go_wp2
    exact bodyPost_ret (v := .tuple #[.agg #[.string nm, .string ⟨#[97]⟩], .bool true]) (by simp [results, Tryd.results35, go_sem]) rfl ⟨⟨nm, rfl⟩, B0.out⟩
  · obtain ⟨⟨nm, c0⟩, c1⟩ := hF.f 16 (by omega) (by omega)
    have lt := hF.lt
    have e1 : formF 16 = ⟨#[97, 116]⟩ := by decide
    have e2 : ((16 : Nat) : Int) = 16 := rfl
    rw [e2, e1] at c1
    rw [e1]
    have B0 : Hid (Below w.heap.size w (w.alloc (.cells #[.string nm, .string ⟨#[97, 116]⟩] 91))) := Lib.hid ((Below.refl _ _).alloc (Nat.le_refl _) _)
    clear h1 h2 hF e1 e2
    as_aux_lemma =>
    go_enter Tryd.func35, Tryd.ntmps35
    go_wp2
    exact bodyPost_ret (v := .tuple #[.agg #[.string nm, .string ⟨#[97, 116]⟩], .bool true]) (by simp [results, Tryd.results35, go_sem]) rfl ⟨⟨nm, rfl⟩, B0.out⟩
  · obtain ⟨⟨nm, c0⟩, c1⟩ := hF.f 17 (by omega) (by omega)
    have lt := hF.lt
    have e1 : formF 17 = ⟨#[97]⟩ := by decide
    have e2 : ((17 : Nat) : Int) = 17 := rfl
    rw [e2, e1] at c1
    rw [e1]
    have B0 : Hid (Below w.heap.size w (w.alloc (.cells #[.string nm, .string ⟨#[97]⟩] 91))) := Lib.hid ((Below.refl _ _).alloc (Nat.le_refl _) _)
    clear h1 h2 hF e1 e2
    as_aux_lemma =>
    go_enter Tryd.func35, Tryd.ntmps35
    go_wp2
    exact bodyPost_ret (v := .tuple #[.agg #[.string nm, .string ⟨#[97]⟩], .bool true]) (by simp [results, Tryd.results35, go_sem]) rfl ⟨⟨nm, rfl⟩, B0.out⟩
  · obtain ⟨⟨nm, c0⟩, c1⟩ := hF.f 18 (by omega) (by omega)
    have lt := hF.lt
    have e1 : formF 18 = ⟨#[97]⟩ := by decide
    have e2 : ((18 : Nat) : Int) = 18 := rfl
    rw [e2, e1] at c1
    rw [e1]
    have B0 : Hid (Below w.heap.size w (w.alloc (.cells #[.string nm, .string ⟨#[97]⟩] 91))) := Lib.hid ((Below.refl _ _).alloc (Nat.le_refl _) _)
    clear h1 h2 hF e1 e2
    as_aux_lemma =>
    go_enter Tryd.func35, Tryd.ntmps35
    go_wp2
    exact bodyPost_ret (v := .tuple #[.agg #[.string nm, .string ⟨#[97]⟩], .bool true]) (by simp [results, Tryd.results35, go_sem]) rfl ⟨⟨nm, rfl⟩, B0.out⟩
/-- script.of, at no kind. -/
theorem of_no (k : Int) (h : k < 1 ∨ 18 < k) (w : World) : Calls Tryd.prog 35 #[.int .i64 k] w fun e w' => e = .returned (.tuple #[.agg #[.string ⟨#[]⟩, .string ⟨#[]⟩], .bool false]) ∧ Below w.heap.size w w' := by
  have B0 : Hid (Below w.heap.size w (w.alloc (.cells #[.string ⟨#[]⟩, .string ⟨#[]⟩] 91))) := Lib.hid ((Below.refl _ _).alloc (Nat.le_refl _) _)
  rcases h with h | h
  · go_enter Tryd.func35, Tryd.ntmps35
    go_wp2
    exact bodyPost_ret (v := .tuple #[.agg #[.string ⟨#[]⟩, .string ⟨#[]⟩], .bool false]) (by simp [results, Tryd.results35, go_sem]) rfl ⟨rfl, B0.out⟩
  · have h' : ¬ k < 1 := by omega
    go_enter Tryd.func35, Tryd.ntmps35
    go_wp2
    exact bodyPost_ret (v := .tuple #[.agg #[.string ⟨#[]⟩, .string ⟨#[]⟩], .bool false]) (by simp [results, Tryd.results35, go_sem]) rfl ⟨rfl, B0.out⟩
end Go.Proofs.YtpfebfckolbnmaaDoor.Sc
