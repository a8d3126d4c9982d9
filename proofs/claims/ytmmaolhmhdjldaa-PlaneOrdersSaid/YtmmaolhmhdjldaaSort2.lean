/- The sort of two places by the far of each: slices.SortStableFunc at two elements, walked. -/
import Derived.Test.YtmmaolhmhdjldaaWorks4
import Derived.Test.YtmmaolhmhdjldaaDigits
import Derived.Deep.RegionHeld3
namespace Go.Proofs.Ytmmaolhmhdjldaa.Far
open Go.RowKit Go.Proofs.Ytmmaolhmhdjldaa.FI Go.Proofs.Ytmmaolhmhdjldaa.PM

def cmp3 (a b : Int) : Int := if a < b then -1 else if a > b then 1 else 0
theorem cmp_any (a b : Int) (w : World) : Calls Try.prog 79 #[.int .i64 a, .int .i64 b] w fun e w' => e = .returned (.int .i64 (cmp3 a b)) ∧ w = w' := by
  by_cases h1 : a < b
  · have e : cmp3 a b = -1 := by unfold cmp3; rw [if_pos h1]
    rw [e]
    clear e
    go_enter Try.func79, Try.ntmps79
    go_wp2
    go_ret
    exact ⟨rfl, rfl⟩
  · by_cases h2 : a > b
    · have e : cmp3 a b = 1 := by unfold cmp3; rw [if_neg h1, if_pos h2]
      rw [e]
      clear e
      go_enter Try.func79, Try.ntmps79
      go_wp2
      go_ret
      exact ⟨rfl, rfl⟩
    · have e : cmp3 a b = 0 := by unfold cmp3; rw [if_neg h1, if_neg h2]
      rw [e]
      clear e
      go_enter Try.func79, Try.ntmps79
      go_wp2
      go_ret
      exact ⟨rfl, rfl⟩


/-- What the sort reads and may write. -/
structure Srt (O V f : Nat) (x y d0 d1 : Int) (w : World) : Prop where
  lO : O < w.heap.size
  lV : V < w.heap.size
  lf : f < w.heap.size
  c0 : w.cell? ⟨O, 0, none⟩ = some (.int .i64 x)
  c1 : w.cell? ⟨O, 1, none⟩ = some (.int .i64 y)
  f0 : w.frozen? ⟨O, 0, none⟩ = false
  f1 : w.frozen? ⟨O, 1, none⟩ = false
  v : w.cell? ⟨V, 0, none⟩ = some (.slice (some ⟨f, 0, none⟩) 2 2)
  g0 : w.cell? ⟨f, 0, none⟩ = some (.int .i64 d0)
  g1 : w.cell? ⟨f, 1, none⟩ = some (.int .i64 d1)

theorem Srt.below {O V f : Nat} {x y d0 d1 : Int} {w w' : World} (h : Srt O V f x y d0 d1 w) (hb : Below w.heap.size w w') : Srt O V f x y d0 d1 w' :=
  ⟨Nat.lt_of_lt_of_le h.lO hb.size, Nat.lt_of_lt_of_le h.lV hb.size, Nat.lt_of_lt_of_le h.lf hb.size,
    by rw [hb.cell (p := ⟨O, 0, none⟩) h.lO]; exact h.c0, by rw [hb.cell (p := ⟨O, 1, none⟩) h.lO]; exact h.c1,
    by rw [hb.frozen (p := ⟨O, 0, none⟩) h.lO]; exact h.f0, by rw [hb.frozen (p := ⟨O, 1, none⟩) h.lO]; exact h.f1,
    by rw [hb.cell (p := ⟨V, 0, none⟩) h.lV]; exact h.v, by rw [hb.cell (p := ⟨f, 0, none⟩) h.lf]; exact h.g0, by rw [hb.cell (p := ⟨f, 1, none⟩) h.lf]; exact h.g1⟩

/-- The same, with what the walk reads in the open. -/
def SrtR (w0 : World) (O V f : Nat) (x y d0 d1 : Int) (w : World) : Prop :=
  w.cell? ⟨O, 0, none⟩ = some (.int .i64 x) ∧ w.cell? ⟨O, 1, none⟩ = some (.int .i64 y) ∧ w.cell? ⟨V, 0, none⟩ = some (.slice (some ⟨f, 0, none⟩) 2 2) ∧ w.cell? ⟨f, 0, none⟩ = some (.int .i64 d0) ∧ w.cell? ⟨f, 1, none⟩ = some (.int .i64 d1) ∧
  (Srt O V f x y d0 d1 w ∧ Below w0.heap.size w0 w)
theorem SrtR.mk {w0 : World} {O V f : Nat} {x y d0 d1 : Int} {w : World} (h : Srt O V f x y d0 d1 w) (hb : Below w0.heap.size w0 w) : SrtR w0 O V f x y d0 d1 w := ⟨h.c0, h.c1, h.v, h.g0, h.g1, h, hb⟩
theorem SrtR.step {w0 : World} {O V f : Nat} {x y d0 d1 : Int} {w w' : World} (hb : Below w.heap.size w w') (h : SrtR w0 O V f x y d0 d1 w) : SrtR w0 O V f x y d0 d1 w' :=
  SrtR.mk (h.2.2.2.2.2.1.below hb) (h.2.2.2.2.2.2.trans (hb.mono h.2.2.2.2.2.2.size))
theorem SrtR.out {w0 : World} {O V f : Nat} {x y d0 d1 : Int} {w : World} (h : SrtR w0 O V f x y d0 d1 w) : Srt O V f x y d0 d1 w ∧ Below w0.heap.size w0 w := h.2.2.2.2.2

theorem less_10 (O V f : Nat) (x y d0 d1 : Int) (w : World) (h : Srt O V f x y d0 d1 w) :
    Calls Try.prog 86 #[.int .i64 1, .int .i64 0, .pointer (some ⟨V, 0, none⟩)] w fun e w' => e = .returned (.int .i64 (cmp3 d1 d0)) ∧ Below w.heap.size w w' := by
  have C := Lib.hid (cmp_any d1 d0)
  have H := Lib.hid h
  clear h
  generalize cmp3 d1 d0 = z at C ⊢
  go_enter Try.func86, Try.ntmps86
  go_wp2_with fail
  go_region_held3 (fun v => v.cell? ⟨O, 0, none⟩ = some (.int .i64 x) ∧ v.cell? ⟨O, 1, none⟩ = some (.int .i64 y) ∧ v.cell? ⟨V, 0, none⟩ = some (.slice (some ⟨f, 0, none⟩) 2 2) ∧ v.cell? ⟨f, 0, none⟩ = some (.int .i64 d0) ∧ v.cell? ⟨f, 1, none⟩ = some (.int .i64 d1) ∧
      (Srt O V f x y d0 d1 v ∧ Below w.heap.size w v))
    (first | assumption | (apply SrtR.step (w0 := w) (O := O) (V := V) (f := f) (x := x) (y := y) (d0 := d0) (d1 := d1) <;> assumption) | exact SrtR.mk (H.out.below (Below.refl _ _).drew) (Below.refl _ _).drew)
    ((go_at_call_of 79 (Value.int IntKind.i64 d1); refine (C.out _).mono ?_; rintro e w' ⟨rfl, rfl⟩))
  all_goals
    go_wp2
    go_ret
    exact ⟨rfl, (SrtR.out (w0 := w) (O := O) (V := V) (f := f) (x := x) (y := y) (d0 := d0) (d1 := d1) (by assumption)).2⟩

set_option linter.unusedSimpArgs false in
theorem Srt.swap {O V f : Nat} {x y d0 d1 a b : Int} {w : World} (hV : O ≠ V) (hf : O ≠ f) (h : Srt O V f x y d0 d1 w) :
    Srt O V f b a d0 d1 (((w.setCell ⟨O, 1, none⟩ (.int .i64 a)).setCell ⟨O, 0, none⟩ (.int .i64 b)).drew) := by
  obtain ⟨lO, lV, lf, c0, c1, f0, f1, v, g0, g1⟩ := h
  refine ⟨by simpa using lO, by simpa using lV, by simpa using lf, ?_, ?_, ?_, ?_, ?_, ?_, ?_⟩
  all_goals simp [go_sem, *, hV.symm, hf.symm]

def RelO (B : Nat) (w0 : World) (O V f : Nat) (x y d0 d1 : Int) (v8 : Value) (w : World) : Prop :=
  (v8 = .int .i64 1 ∧ Srt O V f 0 1 d0 d1 w ∧ Below B w0 w) ∨ (v8 = .int .i64 2 ∧ Srt O V f x y d0 d1 w ∧ Below B w0 w)
def RelI (B : Nat) (w0 : World) (O V f : Nat) (x y d0 d1 : Int) (v9 : Value) (w : World) : Prop :=
  (v9 = .int .i64 1 ∧ Srt O V f 0 1 d0 d1 w ∧ Below B w0 w) ∨ (v9 = .int .i64 0 ∧ Srt O V f x y d0 d1 w ∧ Below B w0 w)

def SrtI (B : Nat) (w0 : World) (O V f : Nat) (x y d0 d1 : Int) (w : World) : Prop :=
  w.cell? ⟨O, 0, none⟩ = some (.int .i64 x) ∧ w.cell? ⟨O, 1, none⟩ = some (.int .i64 y) ∧ (B ≤ O ∧ Srt O V f x y d0 d1 w ∧ Below B w0 w)
theorem SrtI.mk {B : Nat} {w0 : World} {O V f : Nat} {x y d0 d1 : Int} {w : World} (hB : B ≤ O) (h : Srt O V f x y d0 d1 w) (hb : Below B w0 w) : SrtI B w0 O V f x y d0 d1 w := ⟨h.c0, h.c1, hB, h, hb⟩
theorem SrtI.out {B : Nat} {w0 : World} {O V f : Nat} {x y d0 d1 : Int} {w : World} (h : SrtI B w0 O V f x y d0 d1 w) : Srt O V f x y d0 d1 w ∧ Below B w0 w := h.2.2.2
theorem SrtI.step {B : Nat} {w0 : World} {O V f : Nat} {x y d0 d1 : Int} {w w' : World} (hb : Below w.heap.size w w') (h : SrtI B w0 O V f x y d0 d1 w) : SrtI B w0 O V f x y d0 d1 w' :=
  SrtI.mk h.2.2.1 (h.out.1.below hb) (h.out.2.trans (hb.mono (Nat.le_trans h.2.2.1 (Nat.le_of_lt h.out.1.lO))))

set_option maxHeartbeats 1600000 in
theorem isort_yes (B O V f : Nat) (d0 d1 : Int) (w : World) (hB : B ≤ O) (hV : O ≠ V) (hf : O ≠ f) (hd : d1 < d0) (h : Srt O V f 0 1 d0 d1 w) :
    Calls Try.prog 162 #[.slice (some ⟨O, 0, none⟩) 2 2, .int .i64 0, .int .i64 2, .func (.func 86) #[] #[.pointer (some ⟨V, 0, none⟩)]] w fun e w' => e = .returned (.tuple #[]) ∧ Srt O V f 1 0 d0 d1 w' ∧ Below B w w' := by
  have hz : cmp3 d1 d0 = -1 := by unfold cmp3; rw [if_pos hd]
  have L0 := fun w h => less_10 O V f 0 1 d0 d1 w h
  rw [hz] at L0
  have L := Lib.hid L0
  have H := Lib.hid h
  have HD := Lib.hid hd
  clear h hd hz L0
  go_enter Try.func162, Try.ntmps162
  go_wp2
  go_loopw [8] (RelO B w O V f 1 0 d0 d1) (fun v8 _ => (2 - intOf v8).toNat)
  case atStart => exact Or.inl ⟨rfl, H.out, Below.refl _ _⟩
  case round =>
    rcases hrel with ⟨rfl, hS, hb⟩ | ⟨rfl, hS, hb⟩
    · have S1 := Lib.hid hS
      have B1 := Lib.hid hb
      clear hS hb
      go_wp2
      obtain ⟨wo, rfl⟩ : ∃ wo : World, wo = wr := ⟨_, rfl⟩
      go_loopw [9] (RelI B w O V f 1 0 d0 d1) (fun v9 _ => (intOf v9).toNat)
      case atStart => exact Or.inl ⟨rfl, S1.out, B1.out⟩
      case round =>
        rcases hrel with ⟨rfl, hS, hb⟩ | ⟨rfl, hS, hb⟩
        · have S2 := Lib.hid hS
          have B2 := Lib.hid hb
          have c0 := hS.c0
          have c1 := hS.c1
          clear hS hb
          have z0 : IntKind.i64.wrap 0 = 0 := by decide
          go_wp2_with fail
          go_region_held3 (fun v => v.cell? ⟨O, 0, none⟩ = some (.int .i64 0) ∧ v.cell? ⟨O, 1, none⟩ = some (.int .i64 1) ∧ (B ≤ O ∧ Srt O V f 0 1 d0 d1 v ∧ Below B w v))
            (first | assumption | (apply SrtI.step (B := B) (w0 := w) (O := O) (V := V) (f := f) (x := 0) (y := 1) (d0 := d0) (d1 := d1) <;> assumption) | exact SrtI.mk hB (S2.out.below (Below.refl _ _).drew) (B2.out.drew))
            ((go_at_call_of 86 (Value.int IntKind.i64 1); refine (L.out _ ?_).mono ?_; (refine (SrtI.out (B := B) (w0 := w) (O := O) (V := V) (f := f) (x := 0) (y := 1) (d0 := d0) (d1 := d1) ?_).1; assumption); rintro e w' ⟨rfl, hb⟩))
          all_goals
            have hX := SrtI.out (B := B) (w0 := w) (O := O) (V := V) (f := f) (x := 0) (y := 1) (d0 := d0) (d1 := d1) (by assumption)
            have S3 := Lib.hid hX.1
            have B3 := Lib.hid hX.2
            have c0 := hX.1.c0
            have c1 := hX.1.c1
            have f0 := hX.1.f0
            have f1 := hX.1.f1
            have lO := hX.1.lO
            clear hX
            go_wp2_with fail
            go_region
            all_goals
              go_wp2
              go_roundw
              case rel => exact Or.inr ⟨rfl, Srt.swap hV hf S3.out, Below.drew ((B3.out.setCell (p := ⟨O, 1, none⟩) hB _).setCell (p := ⟨O, 0, none⟩) hB _)⟩
              case measure => simp [intOf]
        · have S2 := Lib.hid hS
          have B2 := Lib.hid hb
          clear hS hb
          go_wp2
          go_region
          all_goals
            go_wp2
            go_roundw
            case rel => exact Or.inr ⟨rfl, S2.out.below (Below.refl _ _).drew, B2.out.drew⟩
            case measure => simp [intOf]
    · have S2 := Lib.hid hS
      have B2 := Lib.hid hb
      clear hS hb
      go_wp2
      go_end0
      exact ⟨rfl, S2.out, B2.out⟩
set_option maxHeartbeats 1600000 in
theorem isort_no (B O V f : Nat) (d0 d1 : Int) (w : World) (hB : B ≤ O) (hd : ¬ d1 < d0) (h : Srt O V f 0 1 d0 d1 w) :
    Calls Try.prog 162 #[.slice (some ⟨O, 0, none⟩) 2 2, .int .i64 0, .int .i64 2, .func (.func 86) #[] #[.pointer (some ⟨V, 0, none⟩)]] w fun e w' => e = .returned (.tuple #[]) ∧ Srt O V f 0 1 d0 d1 w' ∧ Below B w w' := by
  have hz : 0 ≤ cmp3 d1 d0 := by unfold cmp3; rw [if_neg hd]; split <;> omega
  have L0 := fun w h => less_10 O V f 0 1 d0 d1 w h
  generalize cmp3 d1 d0 = z at L0 hz
  have L := Lib.hid L0
  have H := Lib.hid h
  have HD := Lib.hid hd
  clear h hd L0
  go_enter Try.func162, Try.ntmps162
  go_wp2
  go_loopw [8] (RelO B w O V f 0 1 d0 d1) (fun v8 _ => (2 - intOf v8).toNat)
  case atStart => exact Or.inl ⟨rfl, H.out, Below.refl _ _⟩
  case round =>
    rcases hrel with ⟨rfl, hS, hb⟩ | ⟨rfl, hS, hb⟩
    · have S1 := Lib.hid hS
      have B1 := Lib.hid hb
      clear hS hb
      go_wp2
      obtain ⟨wo, rfl⟩ : ∃ wo : World, wo = wr := ⟨_, rfl⟩
      go_loopw [9] (RelI B w O V f 0 1 d0 d1) (fun v9 _ => (intOf v9).toNat)
      case atStart => exact Or.inl ⟨rfl, S1.out, B1.out⟩
      case round =>
        rcases hrel with ⟨rfl, hS, hb⟩ | ⟨rfl, hS, hb⟩
        · have S2 := Lib.hid hS
          have B2 := Lib.hid hb
          have c0 := hS.c0
          have c1 := hS.c1
          clear hS hb
          have z0 : IntKind.i64.wrap 0 = 0 := by decide
          go_wp2_with fail
          go_region_held3 (fun v => v.cell? ⟨O, 0, none⟩ = some (.int .i64 0) ∧ v.cell? ⟨O, 1, none⟩ = some (.int .i64 1) ∧ (B ≤ O ∧ Srt O V f 0 1 d0 d1 v ∧ Below B w v))
            (first | assumption | (apply SrtI.step (B := B) (w0 := w) (O := O) (V := V) (f := f) (x := 0) (y := 1) (d0 := d0) (d1 := d1) <;> assumption) | exact SrtI.mk hB (S2.out.below (Below.refl _ _).drew) (B2.out.drew))
            ((go_at_call_of 86 (Value.int IntKind.i64 1); refine (L.out _ ?_).mono ?_; (refine (SrtI.out (B := B) (w0 := w) (O := O) (V := V) (f := f) (x := 0) (y := 1) (d0 := d0) (d1 := d1) ?_).1; assumption); rintro e w' ⟨rfl, hb⟩))
          all_goals
            have hX := SrtI.out (B := B) (w0 := w) (O := O) (V := V) (f := f) (x := 0) (y := 1) (d0 := d0) (d1 := d1) (by assumption)
            have S3 := Lib.hid hX.1
            have B3 := Lib.hid hX.2
            clear hX
            go_wp2
            go_roundw
            case rel => exact Or.inr ⟨rfl, S3.out, B3.out⟩
            case measure => simp [intOf]
        · have S2 := Lib.hid hS
          have B2 := Lib.hid hb
          clear hS hb
          go_wp2
          go_region
          all_goals
            go_wp2
            go_roundw
            case rel => exact Or.inr ⟨rfl, S2.out.below (Below.refl _ _).drew, B2.out.drew⟩
            case measure => simp [intOf]
    · have S2 := Lib.hid hS
      have B2 := Lib.hid hb
      clear hS hb
      go_wp2
      go_end0
      exact ⟨rfl, S2.out, B2.out⟩

theorem isort_any (B O V f : Nat) (d0 d1 : Int) (w : World) (hB : B ≤ O) (hV : O ≠ V) (hf : O ≠ f) (h : Srt O V f 0 1 d0 d1 w) :
    Calls Try.prog 162 #[.slice (some ⟨O, 0, none⟩) 2 2, .int .i64 0, .int .i64 2, .func (.func 86) #[] #[.pointer (some ⟨V, 0, none⟩)]] w fun e w' => e = .returned (.tuple #[]) ∧ Srt O V f (if d1 < d0 then 1 else 0) (if d1 < d0 then 0 else 1) d0 d1 w' ∧ Below B w w' := by
  by_cases hd : d1 < d0
  · rw [if_pos hd, if_pos hd]
    exact isort_yes B O V f d0 d1 w hB hV hf hd h
  · rw [if_neg hd, if_neg hd]
    exact isort_no B O V f d0 d1 w hB hd h

theorem stable_any (B O V f : Nat) (d0 d1 : Int) (w : World) (hB : B ≤ O) (hV : O ≠ V) (hf : O ≠ f) (h : Srt O V f 0 1 d0 d1 w) :
    Calls Try.prog 140 #[.slice (some ⟨O, 0, none⟩) 2 2, .int .i64 2, .func (.func 86) #[] #[.pointer (some ⟨V, 0, none⟩)]] w fun e w' => e = .returned (.tuple #[]) ∧ Srt O V f (if d1 < d0 then 1 else 0) (if d1 < d0 then 0 else 1) d0 d1 w' ∧ Below B w w' := by
  have K0 := isort_any B O V f d0 d1 w hB hV hf h
  generalize (if d1 < d0 then (1 : Int) else 0) = x at K0 ⊢
  generalize (if d1 < d0 then (0 : Int) else 1) = y at K0 ⊢
  have K := Lib.hid K0
  clear K0 h
  go_enter Try.func140, Try.ntmps140
  go_wp2
  go_loop [7, 8] (fun v7 v8 => v7 = .int .i64 0 ∧ v8 = .int .i64 20) (fun _ _ => 0)
  case atStart => exact ⟨rfl, rfl⟩
  case round =>
    obtain ⟨rfl, rfl⟩ := hrel
    go_wp2_with fail
    refine K.out.mono ?_
    rintro e w1 ⟨rfl, hS, hb⟩
    have S1 := Lib.hid hS
    have B1 := Lib.hid hb
    clear hS hb
    go_wp2
    go_loop [6, 7, 8, 9] (fun v6 v7 v8 v9 => v6 = .int .i64 20) (fun _ _ _ _ => 0)
    case atStart => rfl
    case round =>
      obtain rfl := hrel
      go_wp2
      go_end0
      exact ⟨rfl, S1.out, B1.out⟩

theorem sort2_any (B O V f : Nat) (d0 d1 : Int) (w : World) (hB : B ≤ O) (hV : O ≠ V) (hf : O ≠ f) (h : Srt O V f 0 1 d0 d1 w) :
    Calls Try.prog 85 #[.slice (some ⟨O, 0, none⟩) 2 2, .func (.func 86) #[] #[.pointer (some ⟨V, 0, none⟩)]] w fun e w' => e = .returned (.tuple #[]) ∧ Srt O V f (if d1 < d0 then 1 else 0) (if d1 < d0 then 0 else 1) d0 d1 w' ∧ Below B w w' := by
  have K0 := stable_any B O V f d0 d1 w hB hV hf h
  generalize (if d1 < d0 then (1 : Int) else 0) = x at K0 ⊢
  generalize (if d1 < d0 then (0 : Int) else 1) = y at K0 ⊢
  have K := Lib.hid K0
  clear K0 h
  go_enter Try.func85, Try.ntmps85
  go_wp2_with fail
  refine K.out.mono ?_
  rintro e w1 ⟨rfl, hS, hb⟩
  have S1 := Lib.hid hS
  have B1 := Lib.hid hb
  clear hS hb
  go_wp2
  go_end0
  exact ⟨rfl, S1.out, B1.out⟩
end Go.Proofs.Ytmmaolhmhdjldaa.Far
