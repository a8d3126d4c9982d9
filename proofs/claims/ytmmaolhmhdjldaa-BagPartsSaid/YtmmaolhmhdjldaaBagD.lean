/- A bag: New, Len, has, arrives, walked. -/
import Derived.Test.YtmmaolhmhdjldaaBagC
import Derived.Test.YtmmaolhmhdjldaaMapF
import Derived.DeepKeys4
import Derived.BigQuiet
import Derived.Deep.QuietTactic
namespace Go.Proofs.Ytmmaolhmhdjldaa.BagS
open Go.RowKit Go.Proofs.Ytmmaolhmhdjldaa.MapF Go.Maps

/-- Two whole numbers that are in their range. -/
abbrev Ad := { x : Int × Int // (Lit.int .i64 x.1).wf = true ∧ (Lit.int .i64 x.2).wf = true }
theorem adRow : 67 < Try.prog.types.size := of_decide_eq_true (by kernel_rfl)
theorem adLaid : laidOutB Try.prog = true := by kernel_rfl
theorem adWide : (match Try.prog.underlying 67 with | some (.array _ _) | some (.struct _) => true | _ => false) = true := by kernel_rfl
set_option maxRecDepth 100000 in
theorem adLaw : WideMaps.KeyLaw Try.prog 67 := deep_law_laid adLaid (m := 3) (by omega) adRow (by kernel_rfl) adWide
def adV (x : Ad) : Value := .agg #[.int .i64 x.1.1, .int .i64 x.1.2]
theorem adSize : ∃ d, Try.prog.types.size + 1 = d + 2 := ⟨Try.prog.types.size - 1, by have := adRow; omega⟩
theorem adKeyType : Try.prog.keyType 67 = true := by kernel_rfl
theorem adFormed (x : Ad) : (adV x).formed Try.prog 67 = true := by kernel_rfl
theorem adCells67 : Try.prog.cellsOf 67 = 2 := by kernel_rfl
theorem adCells3 : Try.prog.cellsOf 3 = 1 := by kernel_rfl
theorem adLits (d : Nat) (x : Ad) : Try.prog.keyLits (d + 2) 67 [.int .i64 x.1.1, .int .i64 x.1.2] = some [.int .i64 x.1.1, .int .i64 x.1.2] := by
  simp [Program.keyLits, Try.underlying67, Try.underlying3, adCells67, adCells3, x.2.1, x.2.2]
theorem adKey (x : Ad) : ∃ l, keyOf Try.prog 67 (adV x) = some l := by
  obtain ⟨d, hd⟩ := adSize
  refine ⟨.string (keyBytes [.int .i64 x.1.1, .int .i64 x.1.2]), ?_⟩
  unfold keyOf
  rw [Try.underlying67]
  simp only [adKeyType, adFormed, Bool.and_self, if_true, hd]
  show ((Try.prog.keyLits (d + 2) 67 [.int .i64 x.1.1, .int .i64 x.1.2]).map _) = _
  rw [adLits]
  rfl
/-- Maps from addresses to nothing. -/
noncomputable def adMap : MapTy Try.prog 67 Ad Unit where
  kv := adV
  kl x := Classical.choose (adKey x)
  ev _ := .agg #[]
  ed _ := .agg []
  ok _ := True
  law := Keyed.of_law adLaw
  hkey x _ := Classical.choose_spec (adKey x)
  kinj x y h := by
    have h1 := Classical.choose_spec (adKey x)
    have h2 := Classical.choose_spec (adKey y)
    have h3 := adLaw.inj h1 (h2.trans (congrArg some h.symm))
    obtain ⟨⟨x1, x2⟩, hx⟩ := x
    obtain ⟨⟨y1, y2⟩, hy⟩ := y
    simp [adV] at h3
    obtain ⟨rfl, rfl⟩ := h3
    rfl
  einj _ _ _ := rfl
  vinj _ _ _ := rfl
theorem zero152 (w : World) : (zeroValue 152).run Try.prog w = .ok (adMap.ev ()) w := by
  show (zeroValue 152).run Try.prog w = .ok (.agg #[]) w
  kernel_rfl

set_option maxRecDepth 100000 in
set_option maxHeartbeats 1000000 in
theorem has_any (p m : Nat) (most : Int) (A : Option Addr) (n cap : Nat) (i : Int) (w : World) (hB : Blk w p 149 #[.int .i64 most, .slice A n cap, .map (some m)]) :
    Calls Try.prog 82 #[.pointer (some ⟨p, 0, none⟩), .int .i64 i] w fun e w' => e = .returned (.bool (decide (0 ≤ i) && decide (i < n))) ∧ w = w' := by
  have c1 := hB.cell 1
  clear hB
  cases h0 : decide (0 ≤ i) with
  | false =>
    go_enter Try.func82, Try.ntmps82
    go_wp2
    go_ret
    exact ⟨rfl, rfl⟩
  | true =>
    go_enter Try.func82, Try.ntmps82
    go_wp2
    go_ret
    exact ⟨rfl, rfl⟩

set_option maxRecDepth 100000 in
theorem len_any (p m : Nat) (most : Int) (A : Option Addr) (n cap : Nat) (w : World) (hB : Blk w p 149 #[.int .i64 most, .slice A n cap, .map (some m)]) :
    Calls Try.prog 47 #[.pointer (some ⟨p, 0, none⟩)] w fun e w' => e = .returned (.int .i64 n) ∧ w = w' := by
  have c1 := hB.cell 1
  clear hB
  go_enter Try.func47, Try.ntmps47
  go_wp2
  go_ret
  exact ⟨rfl, rfl⟩

theorem num_any (e : Int) (w : World) : Calls Try.prog 44 #[.int .i64 e] w fun r w' => r = .returned (.int .i64 e) ∧ w = w' := by
  go_enter Try.func44, Try.ntmps44
  go_wp2
  go_ret
  exact ⟨rfl, rfl⟩

theorem new_any (most : Int) (w : World) :
    Calls Try.prog 42 #[.int .i64 most] w fun e w' => e = .returned (.pointer (some ⟨w.heap.size + 1, 0, none⟩)) ∧ w' = (w.alloc (.map #[] 0)).alloc (.cells #[.int .i64 (max 0 (min most 256)), .slice none 0 0, .map (some w.heap.size)] 149) := by
  have hmm := @run_makeMap Try.prog
  go_enter Try.func42, Try.ntmps42
  go_wp2
  · go_ret
    rw [show max 0 (min most 256) = 256 by omega]
    exact ⟨rfl, rfl⟩
  · go_ret
    rw [show max 0 (min most 256) = most by omega]
    exact ⟨rfl, rfl⟩
  · go_ret
    rw [show max 0 (min most 256) = 0 by omega]
    exact ⟨rfl, rfl⟩

/-- A message between two addresses. -/
structure Sent (C : Array Value) (x y : Ad) : Prop where
  c1 : C[1]? = some (.int .i64 x.1.1)
  c2 : C[2]? = some (.int .i64 x.1.2)
  c3 : C[3]? = some (.int .i64 y.1.1)
  c4 : C[4]? = some (.int .i64 y.1.2)

theorem same_f {M : MapTy Try.prog 67 Ad Unit} {w w' : World} {b n : Nat} {f : Ad → Option Unit} (h : IsF M w b n f) (hb : w'.heap[b]? = w.heap[b]?) : IsF M w' b n f := by
  obtain ⟨D, ⟨es, clock, e1, e2, e3, e4⟩, h2, h3⟩ := h
  exact ⟨D, ⟨es, clock, hb.trans e1, e2, e3, e4⟩, h2, h3⟩

set_option maxRecDepth 100000 in
set_option maxHeartbeats 2000000 in
theorem arrives_any (p m k : Nat) (most : Int) (A : Option Addr) (n cap : Nat) (f : Ad → Option Unit) (C : Array Value) (x y : Ad) (w : World) (hB : Blk w p 149 #[.int .i64 most, .slice A n cap, .map (some m)]) (hC : Sent C x y) (hf : IsF adMap w m k f) :
    Calls Try.prog 84 #[.pointer (some ⟨p, 0, none⟩), .agg C] w fun e w' => e = .returned (.bool (!(f x).isSome && !(f y).isSome)) ∧ Below w.heap.size w w' := by
  have LK : Hid (∀ (W : World) (z : Ad), W.heap[m]? = w.heap[m]? → (Instr.lookup 146 (.map (some m)) (.agg #[.int .i64 z.1.1, .int .i64 z.1.2]) true).run Try.prog W = .ok (.tuple #[.agg #[], .bool (f z).isSome]) W) := Lib.hid (fun W z hW => IsF.look_ok (same_f hf hW) Try.underlying146 (zero152 _) z trivial)
  have c1 := hC.c1
  have c2 := hC.c2
  have c3 := hC.c3
  have c4 := hC.c4
  have b2 := hB.cell 2
  have hp := hB.lt
  have hm := hf.lt
  clear hB hC hf
  obtain ⟨⟨x1, x2⟩, hx⟩ := x
  obtain ⟨⟨y1, y2⟩, hy⟩ := y
  simp only at c1 c2 c3 c4
  go_enter Try.func84, Try.ntmps84
  go_wp2_with fail
  refine world_out (fun W hW => ?_)
  have BW : Hid (Below w.heap.size w W) := Lib.hid (by rw [hW]; exact (Below.refl _ _).alloc (Nat.le_refl _) _)
  have z2 : W.cell? ⟨p, 2, none⟩ = some (.map (some m)) := (BW.out.cell (p := ⟨p, 2, none⟩) hp).trans b2
  have hB0 : Blk W w.heap.size 73 C := by rw [hW]; exact Blk.new w 73 C
  have d1 := (hB0.cell 1).trans c1
  have d2 := (hB0.cell 2).trans c2
  have d3 := (hB0.cell 3).trans c3
  have d4 := (hB0.cell 4).trans c4
  have hs := hB0.lt
  clear hB0 hW c1 c2 c3 c4 b2
  have k1 := LK.out W.drew ⟨(x1, x2), hx⟩ (BW.out.block m hm)
  have k2 := LK.out (W.alloc (.cells #[] 152)).drew ⟨(x1, x2), hx⟩ ((heap_alloc_old W _ (by omega)).trans (BW.out.block m hm))
  obtain ⟨r1, hr1⟩ : ∃ r, (f ⟨(x1, x2), hx⟩).isSome = r := ⟨_, rfl⟩
  obtain ⟨r2, hr2⟩ : ∃ r, (f ⟨(y1, y2), hy⟩).isSome = r := ⟨_, rfl⟩
  rw [hr1] at k1 k2
  have HR1 := Lib.hid hr1
  have HR2 := Lib.hid hr2
  clear hr1 hr2
  simp only at k1 k2
  go_region_held3 (fun v => v.cell? ⟨p, 2, none⟩ = some (.map (some m)) ∧ v.cell? ⟨w.heap.size, 1, none⟩ = some (.int .i64 x1) ∧ v.cell? ⟨w.heap.size, 2, none⟩ = some (.int .i64 x2)) (go_keep) (fail)
  clear k1 k2
  all_goals
    go_wp2_with fail
    refine world_out (fun W2 hW2 => ?_)
    have B2 : Hid (Below W.heap.size W W2) := Lib.hid (by rw [hW2]; exact ((Below.refl _ _).alloc (Nat.le_refl _) _).drew)
    have hs2 : W2.heap.size = W.heap.size + 1 := by rw [hW2]; simp
    have HS2 := Lib.hid hs2
    have hp2 : p < W.heap.size := by have := BW.out.size; omega
    have hm2 : m < W.heap.size := by have := BW.out.size; omega
    have z22 : W2.cell? ⟨p, 2, none⟩ = some (.map (some m)) := (B2.out.cell (p := ⟨p, 2, none⟩) hp2).trans z2
    have e3 := (B2.out.cell (p := ⟨w.heap.size, 3, none⟩) hs).trans d3
    have e4 := (B2.out.cell (p := ⟨w.heap.size, 4, none⟩) hs).trans d4
    clear hW2 hs2
    have k1 := LK.out W2.drew ⟨(y1, y2), hy⟩ ((B2.out.block m hm2).trans (BW.out.block m hm))
    have k2 := LK.out (W2.alloc (.cells #[] 152)).drew ⟨(y1, y2), hy⟩ ((heap_alloc_old W2 _ (by have := HS2.out; omega)).trans ((B2.out.block m hm2).trans (BW.out.block m hm)))
    rw [HR2.out] at k1 k2
    simp only at k1 k2
    clear z2 d1 d2 d3 d4
    go_region_held3 (fun v => v.cell? ⟨p, 2, none⟩ = some (.map (some m)) ∧ v.cell? ⟨w.heap.size, 3, none⟩ = some (.int .i64 y1) ∧ v.cell? ⟨w.heap.size, 4, none⟩ = some (.int .i64 y2)) (go_keep) (fail)
    all_goals
      clear k1 k2 z22 e3 e4
      cases r1 with
      | false =>
        go_wp2_with fail
        go_ret
        rw [HR1.out, HR2.out]
        exact ⟨rfl, BW.out.trans ((((B2.out.alloc B2.out.size _).drew)).mono BW.out.size)⟩
      | true =>
        go_wp2_with fail
        go_ret
        rw [HR1.out, HR2.out]
        exact ⟨rfl, BW.out.trans ((((B2.out.alloc B2.out.size _).drew)).mono BW.out.size)⟩
end Go.Proofs.Ytmmaolhmhdjldaa.BagS
