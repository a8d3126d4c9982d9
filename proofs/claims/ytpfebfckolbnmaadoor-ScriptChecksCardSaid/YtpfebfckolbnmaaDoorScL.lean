/- bursarlaw26.Of and is, walked. -/
import Derived.Test.YtpfebfckolbnmaaDoorScK
import Derived.Test.YtpfebfckolbnmaaDoorErM
import Derived.Deep.RegionHeld3
import Derived.Laws.StructEq
namespace Go.Proofs.YtpfebfckolbnmaaDoor.Sc
open Go.RowKit Go.Lib Go.Proofs.YtpfebfckolbnmaaDoor.Sta Go.Proofs.YtpfebfckolbnmaaDoor.Rd Go.Proofs.YtpfebfckolbnmaaDoor.Cls Go.Proofs.YtpfebfckolbnmaaDoor.Far Go.Proofs.YtpfebfckolbnmaaDoor.Er

/-- The variable errors.errorType. -/
structure ErrT (w : World) : Prop where
  lt : 0 < w.heap.size
  c : w.cell? ⟨0, 0, none⟩ = some (.iface 99 (.agg #[.pointer (some ⟨2, 33, none⟩)]))
theorem ErrT.below {w w' : World} (h : ErrT w) (hb : Below w.heap.size w w') : ErrT w' := ⟨Nat.lt_of_lt_of_le h.lt hb.size, (hb.cell (p := ⟨0, 0, none⟩) h.lt).trans h.c⟩

theorem as_fault2 (H : Nat) (t : Addr) (old : Value) (w : World) (hg : w.cell? ⟨0, 0, none⟩ = some (.iface 99 (.agg #[.pointer (some ⟨2, 33, none⟩)]))) (ht0 : w.cell? t = some old) (hf0 : w.frozen? t = false) :
    Calls Tryd.prog 16 #[.iface 44 (.pointer (some ⟨H, 0, none⟩)), .iface 51 (.pointer (some t))] w fun ev w' => ev = .returned (.bool true) ∧ ∃ W4, Below w.heap.size w W4 ∧ w' = W4.setCell t (.pointer (some ⟨H, 0, none⟩)) :=
  (as_hit ⟨H, 0, none⟩ t old w hg ht0 hf0).mono fun _ _ ⟨h1, h2⟩ => ⟨h1, _, ((((Below.refl _ _).alloc (Nat.le_refl _) _).alloc (by simp) _).alloc (by simp; omega) _).alloc (by simp; omega) _, h2⟩
theorem as_number2 (H : Nat) (t : Addr) (n : Int) (old : Value) (w : World) (hg : w.cell? ⟨0, 0, none⟩ = some (.iface 99 (.agg #[.pointer (some ⟨2, 33, none⟩)]))) (hc : w.cell? ⟨H, 1, none⟩ = some (.iface 46 (.int .i64 n))) (ht0 : w.cell? t = some old) (hf0 : w.frozen? t = false) :
    Calls Tryd.prog 16 #[.iface 44 (.pointer (some ⟨H, 0, none⟩)), .iface 52 (.pointer (some t))] w fun ev w' => ev = .returned (.bool true) ∧ ∃ W4, Below w.heap.size w W4 ∧ w' = W4.setCell t (.int .i64 n) :=
  (as_number H t n old w hg hc ht0 hf0).mono fun _ _ ⟨h1, h2⟩ => ⟨h1, _, ((((Below.refl _ _).alloc (Nat.le_refl _) _).alloc (by simp) _).alloc (by simp; omega) _).alloc (by simp; omega) _, h2⟩
/-- What is kept by a callee that lays blocks and sets one cell. -/
theorem set_kept {w W w' : World} {t : Addr} {u : Value} (hb : Below w.heap.size w W) (e : w' = W.setCell t u) {b i : Nat} (h : b < w.heap.size) (hne : t ≠ ⟨b, i, none⟩) : w'.cell? ⟨b, i, none⟩ = w.cell? ⟨b, i, none⟩ := by
  rw [e, World.cell?_setCell_other _ _ _ _ hne]
  exact hb.cell (p := ⟨b, i, none⟩) h
theorem set_set {w W w' : World} {t : Addr} {u : Value} (hb : Below w.heap.size w W) (e : w' = W.setCell t u) {old : Value} (h : t.block < w.heap.size) (ht : w.cell? t = some old) : w'.cell? t = some u := by
  rw [e]
  exact World.cell?_setCell_same _ _ _ ((hb.cell (p := t) h).trans ht)
theorem set_frozen {w W w' : World} {t : Addr} {u : Value} (hb : Below w.heap.size w W) (e : w' = W.setCell t u) {p : Addr} (h : p.block < w.heap.size) : w'.frozen? p = w.frozen? p := by
  rw [e, World.frozen?_setCell]
  exact hb.frozen (p := p) h
theorem set_size {w W w' : World} {t : Addr} {u : Value} (hb : Below w.heap.size w W) (e : w' = W.setCell t u) : w.heap.size ≤ w'.heap.size := by
  rw [e, World.size_setCell]
  exact hb.size
theorem set_below {w0 w W w' : World} {t : Addr} {u : Value} (hb : Below w.heap.size w W) (e : w' = W.setCell t u) (h0 : Below w0.heap.size w0 w) (ht : w0.heap.size ≤ t.block) : Below w0.heap.size w0 w' := by
  rw [e]
  exact (h0.trans (hb.mono h0.size)).setCell ht _

set_option maxRecDepth 100000 in
set_option maxHeartbeats 3200000 in
theorem of_none (w : World) : Calls Tryd.prog 11 #[.nilIface] w fun e w' => e = .returned (.tuple #[.agg #[.int .i64 0, .int .i64 0], .bool true]) ∧ Below w.heap.size w w' := by
  have B0 : Hid (Below w.heap.size w (w.alloc (.cells #[.int .i64 0, .int .i64 0] 36))) := Lib.hid ((Below.refl _ _).alloc (Nat.le_refl _) _)
  go_enter Tryd.func11, Tryd.ntmps11
  go_wp2
  exact bodyPost_ret (v := .tuple #[.agg #[.int .i64 0, .int .i64 0], .bool true]) (by simp [results, Tryd.results11, go_sem]) rfl ⟨rfl, B0.out⟩

set_option maxRecDepth 100000 in
set_option maxHeartbeats 6400000 in
theorem of_some (H : Nat) (a n : Int) (w : World) (hg : ErrT w) (h0 : w.cell? ⟨H, 0, none⟩ = some (.int .i64 a)) (h1 : w.cell? ⟨H, 1, none⟩ = some (.iface 46 (.int .i64 n))) (hn : n ≠ 0) :
    Calls Tryd.prog 11 #[.iface 44 (.pointer (some ⟨H, 0, none⟩))] w fun e w' => e = .returned (.tuple #[.agg #[.int .i64 a, .int .i64 n], .bool true]) ∧ Below w.heap.size w w' := by
  have hH : H < w.heap.size := by
    rcases Nat.lt_or_ge H w.heap.size with h | h
    · exact h
    · simp [World.cell?, Array.getElem?_eq_none h] at h0
  obtain ⟨W, hW⟩ : ∃ W, W = ((w.alloc (.cells #[.int .i64 0, .int .i64 0] 36)).alloc (.cells #[.pointer none] 44)).alloc (.cells #[.int .i64 0] 46) := ⟨_, rfl⟩
  have BW : Hid (Below w.heap.size w W) := Lib.hid (by rw [hW]; exact (((Below.refl _ _).alloc (Nat.le_refl _) _).alloc (by simp) _).alloc (by simp; omega) _)
  have ZW : Hid (W.heap.size = w.heap.size + 1 + 1 + 1) := Lib.hid (by rw [hW]; simp)
  have t0 : Hid (W.cell? ⟨w.heap.size + 1, 0, none⟩ = some (.pointer none)) := Lib.hid (by rw [hW]; simp [go_sem])
  have t1 : Hid (W.cell? ⟨w.heap.size + 1 + 1, 0, none⟩ = some (.int .i64 0)) := Lib.hid (by rw [hW]; simp [go_sem])
  have r0 : Hid (W.cell? ⟨w.heap.size, 0, none⟩ = some (.int .i64 0)) := Lib.hid (by rw [hW]; simp [go_sem])
  have r1 : Hid (W.cell? ⟨w.heap.size, 1, none⟩ = some (.int .i64 0)) := Lib.hid (by rw [hW]; simp [go_sem])
  have q0 : Hid (∀ i, W.frozen? ⟨w.heap.size + 1, i, none⟩ = false) := Lib.hid (fun i => by rw [hW]; simp [go_sem])
  have q1 : Hid (∀ i, W.frozen? ⟨w.heap.size + 1 + 1, i, none⟩ = false) := Lib.hid (fun i => by rw [hW]; simp [go_sem])
  have q2 : Hid (∀ i, W.frozen? ⟨w.heap.size, i, none⟩ = false) := Lib.hid (fun i => by rw [hW]; simp [go_sem])
  have HW := Lib.hid hW
  clear hW
  have G1 := Lib.hid ((hg.below BW.out).c)
  have H0 : Hid (W.cell? ⟨H, 0, none⟩ = some (.int .i64 a)) := Lib.hid ((BW.out.cell (p := ⟨H, 0, none⟩) hH).trans h0)
  have H1 : Hid (W.cell? ⟨H, 1, none⟩ = some (.iface 46 (.int .i64 n))) := Lib.hid ((BW.out.cell (p := ⟨H, 1, none⟩) hH).trans h1)
  have A1 := Lib.hid (as_fault2 H ⟨w.heap.size + 1, 0, none⟩ (.pointer none) W G1.out t0.out (q0.out 0))
  have hz := ZW.out
  have AN := Lib.hid (fun (v : World) (e0 : v.cell? ⟨0, 0, none⟩ = W.cell? ⟨0, 0, none⟩) (e1 : v.cell? ⟨H, 1, none⟩ = W.cell? ⟨H, 1, none⟩) (e2 : v.cell? ⟨w.heap.size + 1 + 1, 0, none⟩ = W.cell? ⟨w.heap.size + 1 + 1, 0, none⟩) (e3 : v.frozen? ⟨w.heap.size + 1 + 1, 0, none⟩ = W.frozen? ⟨w.heap.size + 1 + 1, 0, none⟩) => as_number2 H ⟨w.heap.size + 1 + 1, 0, none⟩ n (.int .i64 0) v (e0.trans G1.out) (e1.trans H1.out) (e2.trans t1.out) (e3.trans (q1.out 0)))
  have IN := Lib.hid (fun v hv => is_number H n v hv)
  have hne : (n == 0) = false := beq_eq_false_iff_ne.2 hn
  have hne2 : (n != 0) = true := bne_iff_ne.2 hn
  have hl0 := hg.lt
  clear h0 h1 hn hg
  go_enter Tryd.func11, Tryd.ntmps11
  go_wp2_with fail
  rw [← HW.out]
  refine A1.out.mono ?_
  rintro e w1 ⟨rfl, V1, hb1, hw1⟩
  have k0 := set_kept hb1 hw1 (b := 0) (i := 0) (by omega) (by simp <;> omega)
  have kH0 := set_kept hb1 hw1 (b := H) (i := 0) (by omega) (by simp <;> omega)
  have kH1 := set_kept hb1 hw1 (b := H) (i := 1) (by omega) (by simp <;> omega)
  have kt := set_kept hb1 hw1 (b := w.heap.size + 1 + 1) (i := 0) (by omega) (by simp <;> omega)
  have kr0 := set_kept hb1 hw1 (b := w.heap.size) (i := 0) (by omega) (by simp <;> omega)
  have kr1 := set_kept hb1 hw1 (b := w.heap.size) (i := 1) (by omega) (by simp <;> omega)
  have ft := set_frozen hb1 hw1 (p := ⟨w.heap.size + 1 + 1, 0, none⟩) (by show w.heap.size + 1 + 1 < _; omega)
  have fr0 := set_frozen hb1 hw1 (p := ⟨w.heap.size, 0, none⟩) (by show w.heap.size < _; omega)
  have fr1 := set_frozen hb1 hw1 (p := ⟨w.heap.size, 1, none⟩) (by show w.heap.size < _; omega)
  have d4 := set_set hb1 hw1 (by show w.heap.size + 1 < _; omega) t0.out
  have z1 := set_size hb1 hw1
  have B1 : Hid (Below w.heap.size w w1) := Lib.hid (set_below hb1 hw1 BW.out (by show w.heap.size ≤ w.heap.size + 1; omega))
  have N1 := Lib.hid (AN.out w1 k0 kH1 kt ft)
  have E0 := Lib.hid (kH0.trans H0.out)
  have E1 := Lib.hid (kH1.trans H1.out)
  have Er0 := Lib.hid (kr0.trans r0.out)
  have Er1 := Lib.hid (kr1.trans r1.out)
  have Et := Lib.hid (kt.trans t1.out)
  have Ef0 := Lib.hid (fr0.trans (q2.out 0))
  have Ef1 := Lib.hid (fr1.trans (q2.out 1))
  have D4 := Lib.hid d4
  have Z1 := Lib.hid (Nat.le_trans (Nat.le_of_eq hz.symm) z1)
  clear k0 kH0 kH1 kt kr0 kr1 ft fr0 fr1 z1 hb1 hw1 hz BW ZW t0 t1 r0 r1 q0 q1 q2 HW G1 H0 H1 A1 AN
  have dd4 := D4.out
  go_wp2_with fail
  refine N1.out.mono ?_
  rintro e w2 ⟨rfl, V2, hb2, hw2⟩
  have hz1 := Z1.out
  have e4 := (set_kept hb2 hw2 (b := w.heap.size + 1) (i := 0) (by omega) (by simp <;> omega)).trans d4
  have e5 := set_set hb2 hw2 (by show w.heap.size + 1 + 1 < _; omega) Et.out
  have eH0 := (set_kept hb2 hw2 (b := H) (i := 0) (by omega) (by simp <;> omega)).trans E0.out
  have eH1 := (set_kept hb2 hw2 (b := H) (i := 1) (by omega) (by simp <;> omega)).trans E1.out
  have er0 := (set_kept hb2 hw2 (b := w.heap.size) (i := 0) (by omega) (by simp <;> omega)).trans Er0.out
  have er1 := (set_kept hb2 hw2 (b := w.heap.size) (i := 1) (by omega) (by simp <;> omega)).trans Er1.out
  have ef0 := (set_frozen hb2 hw2 (p := ⟨w.heap.size, 0, none⟩) (by show w.heap.size < _; omega)).trans Ef0.out
  have ef1 := (set_frozen hb2 hw2 (p := ⟨w.heap.size, 1, none⟩) (by show w.heap.size < _; omega)).trans Ef1.out
  have B2 : Hid (Below w.heap.size w w2) := Lib.hid (set_below hb2 hw2 B1.out (by show w.heap.size ≤ w.heap.size + 1 + 1; omega))
  have x1 : ¬ w.heap.size = H := by omega
  have x2 : ¬ H = w.heap.size := by omega
  clear d4 dd4 hb2 hw2 hz1 hl0 hH
  have i1 := Lib.hid (IN.out w2 eH1)
  go_wp2_with fail
  clear i1 Er0 Er1 Et Ef0 Ef1 D4 Z1 N1 E0 E1 B1
  have x3 : ¬ w.heap.size = w.heap.size + 1 + 1 := by omega
  have x4 : ¬ w.heap.size + 1 + 1 = w.heap.size := by omega
  generalize w.heap.size + 1 + 1 = T at e5 x3 x4 ⊢
  go_region_held3 (fun v => v.cell? ⟨w.heap.size + 1, 0, none⟩ = some (.pointer (some ⟨H, 0, none⟩)) ∧ v.cell? ⟨T, 0, none⟩ = some (.int .i64 n) ∧ v.cell? ⟨H, 0, none⟩ = some (.int .i64 a) ∧ v.cell? ⟨H, 1, none⟩ = some (.iface 46 (.int .i64 n))) (go_keep)
    (first | (go_at_call 17; refine (IN.out _ ?_).mono ?_; (simp [*]); rintro e w3 ⟨rfl, rfl⟩))
  all_goals
    have HB : Hid (Below w.heap.size w (((w2.setCell ⟨w.heap.size, 0, none⟩ (.int .i64 a)).setCell ⟨w.heap.size, 1, none⟩ (.int .i64 n)).drew)) := Lib.hid ((Below.setCell (Below.setCell B2.out (p := ⟨w.heap.size, 0, none⟩) (by show w.heap.size ≤ w.heap.size; omega) _) (p := ⟨w.heap.size, 1, none⟩) (by show w.heap.size ≤ w.heap.size; omega) _).drew)
    go_wp2_with fail
    exact bodyPost_ret (v := .tuple #[.agg #[.int .i64 a, .int .i64 n], .bool true]) (by simp [results, Tryd.results11, go_sem, er0, er1]) rfl ⟨rfl, HB.out⟩

/-- bursarlaw26.is, of what the document says itself. -/
theorem is_any (r : Int × Int) (v : Value) (w : World) (hg : ErrT w) (h : FaultAt w r v) :
    Calls Tryd.prog 6 #[v, .agg #[.int .i64 r.1, .int .i64 r.2]] w fun e w' => e = .returned (.bool true) ∧ Below w.heap.size w w' := by
  have B0 : Hid (Below w.heap.size w (w.alloc (.cells #[.int .i64 r.1, .int .i64 r.2] 36))) := Lib.hid ((Below.refl _ _).alloc (Nat.le_refl _) _)
  have OF : Hid (∀ v0, Below w.heap.size w v0 → Calls Tryd.prog 11 #[v] v0 fun e w' => e = .returned (.tuple #[.agg #[.int .i64 r.1, .int .i64 r.2], .bool true]) ∧ Below v0.heap.size v0 w') := Lib.hid (fun v0 hb => by
    rcases h.below hb with ⟨hr, rfl⟩ | ⟨hr, H, rfl, h1, h2, h3⟩
    · rw [hr]; exact of_none v0
    · exact of_some H r.1 r.2 v0 (hg.below hb) h2 h3 hr)
  clear h hg
  obtain ⟨a, n⟩ := r
  have ZA : Hid ((w.alloc (.cells #[.int .i64 a, .int .i64 n] 36)).heap.size = w.heap.size + 1) := Lib.hid (by simp)
  have D0 : Hid ((w.alloc (.cells #[.int .i64 a, .int .i64 n] 36)).cell? ⟨w.heap.size, 0, none⟩ = some (.int .i64 a)) := Lib.hid (by simp [go_sem])
  have D1 : Hid ((w.alloc (.cells #[.int .i64 a, .int .i64 n] 36)).cell? ⟨w.heap.size, 1, none⟩ = some (.int .i64 n)) := Lib.hid (by simp [go_sem])
  simp only at OF B0 ⊢
  go_enter Tryd.func6, Tryd.ntmps6
  go_wp2_with fail
  refine (OF.out _ B0.out).mono ?_
  rintro e w1 ⟨rfl, hb⟩
  have B1 : Hid (Below w.heap.size w (w1.alloc (.cells #[.int .i64 a, .int .i64 n] 36))) := Lib.hid ((B0.out.trans (hb.mono B0.out.size)).alloc (Nat.le_trans B0.out.size hb.size) _)
  have d0 := (hb.cell (p := ⟨w.heap.size, 0, none⟩) (by rw [ZA.out]; exact Nat.lt_succ_self _)).trans D0.out
  have d1 := (hb.cell (p := ⟨w.heap.size, 1, none⟩) (by rw [ZA.out]; exact Nat.lt_succ_self _)).trans D1.out
  have hz : w.heap.size < w1.heap.size := Nat.lt_of_lt_of_le (by rw [ZA.out]; exact Nat.lt_succ_self _) hb.size
  clear hb D0 D1 ZA B0
  have heq : ∀ W : World, (binOp .eql 36 (.agg #[.int .i64 a, .int .i64 n]) (.agg #[.int .i64 a, .int .i64 n])).run Tryd.prog W = .ok (.bool true) W := fun W => by
    rw [run_eql_struct]
    simp [go_sem, Tryd.underlying36]
  go_wp2_with fail
  go_ret
  exact ⟨rfl, B1.out⟩
end Go.Proofs.YtpfebfckolbnmaaDoor.Sc
