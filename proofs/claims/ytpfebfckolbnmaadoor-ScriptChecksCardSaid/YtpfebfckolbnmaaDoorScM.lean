/- The law ScriptChecks: plain laws of the printed functions; what a script's parts read as. -/
import Derived.Test.YtpfebfckolbnmaaDoorScL
import Derived.Test.YtpfebfckolbnmaaDoorPScriptChecksx2
import Derived.Test.YtpfebfckolbnmaaDoorPScriptChecksx7
namespace Go.Proofs.YtpfebfckolbnmaaDoor.Sc
open Go.RowKit Go.Lib Go.Proofs.YtpfebfckolbnmaaDoor.Sta Go.Proofs.YtpfebfckolbnmaaDoor.Rd Go.Proofs.YtpfebfckolbnmaaDoor.Cls Go.Proofs.YtpfebfckolbnmaaDoor.Far Go.Proofs.YtpfebfckolbnmaaDoor.Er
open Go.Proofs.YtpfebfckolbnmaaDoor.PScriptChecks Go.Proofs.YtpfebfckolbnmaaDoorW.PrintWords
open Go.Proofs.YtpfebfckolbnmaaDoor.Ck (RowIn sV)

theorem wrap_next {i n : Nat} (h : i < n) (hn : n ≤ 9223372036854775807) : wrap64 ((i : Int) + 1) = ((i + 1 : Nat) : Int) := by
  unfold wrap64
  omega

theorem light_some (G F C S : Int) (sp : List ByteArray) (pl : List Int) (l : List S40) (hl : l.length ≤ 9223372036854775807) :
    ∀ (d i k : Nat) (n : Int), i + d = l.length → d < k → ∃ r, bursarlaw26_light.l0 k n i G F C sp pl S l = some r := by
  intro d
  induction d with
  | zero =>
    intro i k n hi hk
    obtain ⟨k, rfl⟩ : ∃ m, k = m + 1 := ⟨k - 1, by omega⟩
    simp only [bursarlaw26_light.l0]
    rw [if_neg (by omega)]
    split
    · split
      · exact ⟨_, rfl⟩
      · exact ⟨_, rfl⟩
    · exact ⟨_, rfl⟩
  | succ d ih =>
    intro i k n hi hk
    obtain ⟨k, rfl⟩ : ∃ m, k = m + 1 := ⟨k - 1, by omega⟩
    simp only [bursarlaw26_light.l0]
    rw [if_pos (by omega), if_pos (by omega : (0 : Int) ≤ (i : Int)), wrap_next (n := l.length) (by omega) hl]
    split
    · exact ih (i + 1) k _ (by omega) (by omega)
    · exact ⟨_, rfl⟩
theorem light_any (G F C S : Int) (sp : List ByteArray) (pl : List Int) (l : List S40) (hl : l.length ≤ 9223372036854775807) : ∃ k r, bursarlaw26_light.f k G F C sp pl S l = some r := by
  obtain ⟨r, hr⟩ := light_some G F C S sp pl l hl l.length 0 (l.length + 1) 0 (by omega) (by omega)
  exact ⟨_, r, hr⟩

theorem ints_same (l : List Int) (hl : l.length ≤ 9223372036854775807) : ∀ (d i k : Nat), i + d = l.length → d < k → bursarref08_SameInts.l0 k l l i = some true := by
  intro d
  induction d with
  | zero =>
    intro i k hi hk
    obtain ⟨k, rfl⟩ : ∃ m, k = m + 1 := ⟨k - 1, by omega⟩
    simp only [bursarref08_SameInts.l0]
    rw [if_neg (by omega)]
  | succ d ih =>
    intro i k hi hk
    obtain ⟨k, rfl⟩ : ∃ m, k = m + 1 := ⟨k - 1, by omega⟩
    simp only [bursarref08_SameInts.l0]
    rw [if_pos (by omega), if_pos (by omega : (0 : Int) ≤ (i : Int)), if_pos (by omega), if_pos trivial, wrap_next (n := l.length) (by omega) hl]
    exact ih (i + 1) k (by omega) (by omega)
theorem intsf_same (l : List Int) (hl : l.length ≤ 9223372036854775807) (k : Nat) (hk : l.length < k) : bursarref08_SameInts.f k l l = some true := by
  unfold bursarref08_SameInts.f
  rw [if_pos rfl]
  exact ints_same l hl l.length 0 k (by omega) hk
theorem cfg_same0 (G F C S : Int) (sp : List ByteArray) (pl : List Int) (hs : sp.length ≤ 9223372036854775807) (hp : pl.length ≤ 9223372036854775807) :
    ∀ (d i k : Nat), i + d = sp.length → d + pl.length + 1 < k → bursarref26_SameConfig.l0 k i G F C sp pl S G F C sp pl S = some true := by
  intro d
  induction d with
  | zero =>
    intro i k hi hk
    obtain ⟨k, rfl⟩ : ∃ m, k = m + 1 := ⟨k - 1, by omega⟩
    simp only [bursarref26_SameConfig.l0]
    rw [if_neg (by omega), intsf_same pl hp k (by omega)]
    rfl
  | succ d ih =>
    intro i k hi hk
    obtain ⟨k, rfl⟩ : ∃ m, k = m + 1 := ⟨k - 1, by omega⟩
    simp only [bursarref26_SameConfig.l0]
    rw [if_pos (by omega), if_pos (by omega : (0 : Int) ≤ (i : Int)), if_pos (by omega), if_pos trivial, wrap_next (n := sp.length) (by omega) hs]
    exact ih (i + 1) k (by omega) (by omega)
theorem cfg_same (G F C S : Int) (sp : List ByteArray) (pl : List Int) (hs : sp.length ≤ 9223372036854775807) (hp : pl.length ≤ 9223372036854775807) (k : Nat) (hk : sp.length + pl.length + 2 < k) : bursarref26_SameConfig.f k G F C sp pl S G F C sp pl S = some true := by
  unfold bursarref26_SameConfig.f
  rw [if_pos rfl, if_pos rfl, if_pos rfl, if_pos rfl]
  obtain ⟨k, rfl⟩ : ∃ m, k = m + 1 := ⟨k - 1, by omega⟩
  simp only [bursarref26_SameConfig.j0]
  rw [if_neg (by simp)]
  exact cfg_same0 G F C S sp pl hs hp sp.length 0 k (by omega) (by omega)
theorem same0 (G F C S : Int) (sp : List ByteArray) (pl : List Int) (l : List S40) (hl : l.length ≤ 9223372036854775807) :
    ∀ (d i k : Nat), i + d = l.length → d < k → bursarref26_Same.l0 k i G F C sp pl S l G F C sp pl S l = some true := by
  intro d
  induction d with
  | zero =>
    intro i k hi hk
    obtain ⟨k, rfl⟩ : ∃ m, k = m + 1 := ⟨k - 1, by omega⟩
    simp only [bursarref26_Same.l0]
    rw [if_neg (by omega)]
  | succ d ih =>
    intro i k hi hk
    obtain ⟨k, rfl⟩ : ∃ m, k = m + 1 := ⟨k - 1, by omega⟩
    simp only [bursarref26_Same.l0]
    rw [if_pos (by omega), if_pos (by omega : (0 : Int) ≤ (i : Int)), if_pos (by omega), if_neg (by simp), wrap_next (n := l.length) (by omega) hl]
    exact ih (i + 1) k (by omega) (by omega)
theorem same_any (G F C S : Int) (sp : List ByteArray) (pl : List Int) (l : List S40) (hs : sp.length ≤ 9223372036854775807) (hp : pl.length ≤ 9223372036854775807) (hl : l.length ≤ 9223372036854775807) : ∃ k, bursarref26_Same.f k G F C sp pl S l G F C sp pl S l = some true := by
  refine ⟨sp.length + pl.length + l.length + 4, ?_⟩
  unfold bursarref26_Same.f
  rw [cfg_same G F C S sp pl hs hp _ (by omega)]
  simp only [Option.bind_some, if_true]
  simp only [bursarref26_Same.j0]
  rw [if_neg (by simp)]
  exact same0 G F C S sp pl l hl l.length 0 _ (by omega) (by omega)

theorem copy_any (G F C S : Int) (sp : List ByteArray) (pl : List Int) (l : List S40) (hs : sp.length < 8796093022208) (hp : pl.length < 17592186044416) (hl : l.length < 1759218604441) :
    bursarref26_Copy.f G F C sp pl S l = some (G, F, C, sp, pl, S, l) := by
  unfold bursarref26_Copy.f bursarref26_CopyConfig.f
  simp [hs, hp, hl]

/-! What rows read as. -/
theorem plain_at {w : World} {a : Addr} {v : Value} (h : w.cell? (a.add 0) = some v) : a = ⟨a.block, a.off, none⟩ ∧ a.block < w.heap.size := by
  obtain ⟨ab, ao, sp⟩ := a
  have e : (⟨ab, ao, sp⟩ : Addr).add 0 = ⟨ab, ao, sp⟩ := rfl
  rw [e] at h
  have hs : sp = none := by
    unfold World.cell? at h
    cases sp with
    | none => rfl
    | some z =>
      split at h
      · simp at h
      · cases h
  subst hs
  exact ⟨rfl, World.block_lt_of_cell? w _ h⟩
theorem row_of {w : World} {A : Option Addr} {l : List ByteArray} (h : Kd.C Kd.string w A l.length l) : RowIn w w.heap.size A (l.map sV) := fun hl => by
  rw [List.length_map] at hl
  obtain ⟨ad, e, hc⟩ := h.2.2 hl
  obtain ⟨c, hs, hr, hcell⟩ := hc 0 _ (List.getElem?_eq_getElem hl)
  have hr' : c = [.string _] := hr
  subst hr'
  obtain ⟨ea, hb⟩ := plain_at (hcell 0 _ rfl)
  refine ⟨ad.block, ad.off, by rw [e, ← ea], hb, fun i x hx => ?_⟩
  rw [List.getElem?_map, Option.map_eq_some_iff] at hx
  obtain ⟨y, hy, rfl⟩ := hx
  obtain ⟨c, hs, hr, hcell⟩ := hc i y hy
  have hr' : c = [.string y] := hr
  subst hr'
  have h1 := hcell 0 _ rfl
  rw [ea, Addr.add_lit, Nat.add_zero] at h1
  have h2 : i * Kd.string.sz = i := Nat.mul_one i
  rw [h2] at h1
  exact h1
theorem ints_of {w : World} {A : Option Addr} {l : List Int} (h : Kd.C (Kd.int .i64) w A l.length l) : IntsIn w w.heap.size A l := fun hl => by
  obtain ⟨ad, e, hc⟩ := h.2.2 hl
  obtain ⟨c, hs, hr, hcell⟩ := hc 0 _ (List.getElem?_eq_getElem hl)
  have hr' : c = [.int .i64 _] := hr
  subst hr'
  obtain ⟨ea, hb⟩ := plain_at (hcell 0 _ rfl)
  refine ⟨ad.block, ad.off, by rw [e, ← ea], hb, fun i y hy => ?_⟩
  obtain ⟨c, hs, hr, hcell⟩ := hc i y hy
  have hr' : c = [.int .i64 y] := hr
  subst hr'
  have h1 := hcell 0 _ rfl
  rw [ea, Addr.add_lit, Nat.add_zero] at h1
  have h2 : i * (Kd.int .i64).sz = i := Nat.mul_one i
  rw [h2] at h1
  exact h1
/-- A step, as the printed texts have it. -/
def toS (x : S40) : Stp := ⟨x.f0, x.f1, x.f2, x.f3, x.f4, x.f5, x.f6, x.f7⟩
theorem steps_of {w : World} {A : Option Addr} {l : List S40} (h : Kd.C k40 w A l.length l) : StepsIn w w.heap.size A (l.map toS) := fun hl => by
  rw [List.length_map] at hl
  obtain ⟨ad, e, hc⟩ := h.2.2 hl
  obtain ⟨c, hs, hr, hcell⟩ := hc 0 _ (List.getElem?_eq_getElem hl)
  have hr' := k40_open hr
  subst hr'
  have h0 := hcell 0 _ rfl
  rw [Nat.zero_mul] at h0
  obtain ⟨ea, hb⟩ := plain_at h0
  refine ⟨ad.block, ad.off, by rw [e, ← ea], hb, fun i x hx => ?_⟩
  rw [List.getElem?_map, Option.map_eq_some_iff] at hx
  obtain ⟨y, hy, rfl⟩ := hx
  obtain ⟨c, hs, hr, hcell⟩ := hc i y hy
  have hr' := k40_open hr
  subst hr'
  have hz : k40.sz = 8 := rfl
  have hk : ∀ (j : Nat) (u : Value), ([.int .i64 y.f0, .int .i64 y.f1, .int .i64 y.f2, .int .i64 y.f3, .string y.f4, .string y.f5, .int .i64 y.f6, .int .i64 y.f7] : List Value)[j]? = some u → w.cell? ⟨ad.block, ad.off + i * 8 + j, none⟩ = some u := fun j u hu => by
    have h1 := hcell j u hu
    rw [ea, Addr.add_lit, hz, ← Nat.add_assoc] at h1
    exact h1
  exact ⟨hk 0 _ rfl, hk 1 _ rfl, hk 2 _ rfl, hk 3 _ rfl, hk 4 _ rfl, hk 5 _ rfl, hk 6 _ rfl, hk 7 _ rfl⟩
end Go.Proofs.YtpfebfckolbnmaaDoor.Sc
