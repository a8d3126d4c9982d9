/- The maps of a transaction; a transaction in memory; begin. -/
import Derived.Test.YtpaihfdmjkfegaaMapF
import Derived.Test.YtpaihfdmjkfegaaCpH
import Derived.Test.YtpaihfdmjkfegaaCpD
import Derived.Deep.RegionLaw
import Derived.StringKeys
namespace Go.Proofs.Ytpaihfdmjkfegaa.Cl
open Go.RowKit Go.Lib Go.Maps Go.Proofs.Ytpaihfdmjkfegaa.MapF Go.Proofs.Ytpaihfdmjkfegaa.Msg Go.Proofs.Ytpaihfdmjkfegaa.Cls Go.Proofs.Ytpaihfdmjkfegaa.Ck

def okS (s : ByteArray) : Prop := s.size ≤ maxLen
/-- map[string]bool. -/
def mB : MapTy Try.prog 9 ByteArray Bool where
  kv s := .string s
  kl s := .string s.data.toList
  ev b := .bool b
  ed b := .lit (.bool b)
  ok := okS
  law := string_keyed Try.underlying9
  hkey _ h := Go.WideMaps.keyOf_string_mk Try.underlying9 h
  kinj x y h := by
    obtain ⟨⟨x⟩⟩ := x
    obtain ⟨⟨y⟩⟩ := y
    simp at h
    rw [h]
  einj a b h := by injection h with h; injection h
  vinj a b h := by injection h
theorem zero4 (w : World) : (zeroValue 4).run Try.prog w = .ok (.bool false) w := by kernel_rfl
/-- map[string]seen. -/
def mS : MapTy Try.prog 9 ByteArray (Bool × ByteArray × Int) where
  kv s := .string s
  kl s := .string s.data.toList
  ev p := .agg #[.bool p.1, .string p.2.1, .int .i64 p.2.2]
  ed p := .agg [.lit (.bool p.1), .lit (.string p.2.1.data.toList), .lit (.int .i64 p.2.2)]
  ok := okS
  law := string_keyed Try.underlying9
  hkey _ h := Go.WideMaps.keyOf_string_mk Try.underlying9 h
  kinj x y h := by
    obtain ⟨⟨x⟩⟩ := x
    obtain ⟨⟨y⟩⟩ := y
    simp at h
    rw [h]
  einj a b h := by
    obtain ⟨a1, ⟨⟨a2⟩⟩, a3⟩ := a
    obtain ⟨b1, ⟨⟨b2⟩⟩, b3⟩ := b
    simp at h
    obtain ⟨rfl, rfl, rfl⟩ := h
    rfl
  vinj a b h := by
    obtain ⟨a1, a2, a3⟩ := a
    obtain ⟨b1, b2, b3⟩ := b
    simp at h
    obtain ⟨rfl, rfl, rfl⟩ := h
    rfl
theorem zero106 (w : World) : (zeroValue 106).run Try.prog w = .ok (mS.ev (false, ByteArray.empty, 0)) w := by kernel_rfl
/-- map[string]api.Write. -/
def mW : MapTy Try.prog 9 ByteArray (ByteArray × ByteArray × Bool) where
  kv s := .string s
  kl s := .string s.data.toList
  ev p := .agg #[.string p.1, .string p.2.1, .bool p.2.2]
  ed p := .agg [.lit (.string p.1.data.toList), .lit (.string p.2.1.data.toList), .lit (.bool p.2.2)]
  ok := okS
  law := string_keyed Try.underlying9
  hkey _ h := Go.WideMaps.keyOf_string_mk Try.underlying9 h
  kinj x y h := by
    obtain ⟨⟨x⟩⟩ := x
    obtain ⟨⟨y⟩⟩ := y
    simp at h
    rw [h]
  einj a b h := by
    obtain ⟨⟨⟨a1⟩⟩, ⟨⟨a2⟩⟩, a3⟩ := a
    obtain ⟨⟨⟨b1⟩⟩, ⟨⟨b2⟩⟩, b3⟩ := b
    simp at h
    obtain ⟨rfl, rfl, rfl⟩ := h
    rfl
  vinj a b h := by
    obtain ⟨a1, a2, a3⟩ := a
    obtain ⟨b1, b2, b3⟩ := b
    simp at h
    obtain ⟨rfl, rfl, rfl⟩ := h
    rfl
theorem zero63 (w : World) : (zeroValue 63).run Try.prog w = .ok (mW.ev (ByteArray.empty, ByteArray.empty, false)) w := by kernel_rfl

/-- An empty map. -/
def Nil (w : World) (b : Nat) : Prop := w.heap[b]? = some (.map #[] 0)
section
variable {P : Program} {k : TypeId} {κ α : Type} {M : MapTy P k κ α} {w w' : World} {b : Nat}
theorem Nil.isF (h : Nil w b) : IsF M w b 0 (fun _ => none) :=
  ⟨.map [], ⟨#[], 0, h, ⟨by simp, Go.MapKept.stamped_empty 0, by simp⟩, Nat.le_refl _, rfl⟩, fun _ _ => rfl, fun _ _ _ h => by cases h⟩
theorem Nil.lt (h : Nil w b) : b < w.heap.size := by
  unfold Nil at h
  exact (Array.getElem?_eq_some_iff.1 h).1
theorem Nil.below {B : Nat} (h : Nil w b) (hb : Below B w w') (hB : b < B) : Nil w' b := (hb.block b hB).trans h
theorem Nil.chg {S : Nat → Prop} (h : Nil w b) (hb : Chg S w w') (hS : ¬ S b) : Nil w' b := (hb.block b h.lt hS).trans h
theorem Nil.new (w : World) : Nil (w.alloc (.map #[] 0)) w.heap.size := heap_alloc_new w _
theorem Nil.len {t e : TypeId} (h : Nil w b) (ht : P.underlying t = some (.map k e)) (ty : TypeId) : (Builtin.len_ #[t] ty #[.map (some b)]).run P w = .ok (.int .i64 0) w := by
  unfold Nil at h
  simp [Builtin.len_, run_underlying ht, MapKept.run_getObj_map h, goInt, Result.andThen]
end

/-- A transaction that has asked for nothing. -/
structure Tx0 (w : World) (tb : Nat) (n c : Int) (m1 m2 m3 m4 : Nat) : Prop where
  blk : Blk w tb 110 #[.int .i64 n, .int .i64 c, .int .i64 (-1), .slice none 0 0, .map (some m1), .map (some m2), .map (some m3), .map (some m4)]
  k1 : Nil w m1
  k2 : Nil w m2
  k3 : Nil w m3
  k4 : Nil w m4

theorem next_any (a c : Int) (w : World) (ha : 0 ≤ a ∧ a < 1099511627776) (hc : 0 ≤ c ∧ c < 16) : Calls Try.prog 51 #[.int .i64 a, .int .i64 c] w fun e w' => e = .returned (.tuple #[.agg #[.int .i64 (a + 1), .int .i64 c], .int .i64 0]) ∧ Below w.heap.size w w' := by
  have a1 : ¬ a < 0 := by omega
  have a2 : ¬ (1099511627776 : Int) ≤ a := by omega
  have c1 : ¬ c < 0 := by omega
  have c2 : ¬ (16 : Int) ≤ c := by omega
  have w1 : IntKind.i64.wrap (a + 1) = a + 1 := IntWalk.i64_in _ (by omega)
  go_enter Try.func51, Try.ntmps51
  go_wp2_with fail
  exact bodyPost_ret (v := .tuple #[.agg #[.int .i64 (a + 1), .int .i64 c], .int .i64 0]) (by simp [results, Try.results51, go_sem]) rfl ⟨rfl, (Below.refl _ _).alloc (Nat.le_refl _) _⟩
theorem next_full (a c : Int) (w : World) (ha : 1099511627776 ≤ a) : Calls Try.prog 51 #[.int .i64 a, .int .i64 c] w fun e w' => e = .returned (.tuple #[.agg #[.int .i64 0, .int .i64 0], .int .i64 2]) ∧ Below w.heap.size w w' := by
  have a1 : ¬ a < 0 := by omega
  go_enter Try.func51, Try.ntmps51
  go_wp2_with fail
  exact bodyPost_ret (v := .tuple #[.agg #[.int .i64 0, .int .i64 0], .int .i64 2]) (by simp [results, Try.results51, go_sem]) rfl ⟨rfl, (Below.refl _ _).alloc (Nat.le_refl _) _⟩

attribute [local go_sem ↓] loadAct_eq storeAct_eq storeCall_eq loadCall_eq
attribute [local go_sem] run_loadAct run_storeAct run_storeCall run_loadCall

/-- What a call is made of: the messages, the act, done. -/
def callV (ms : Value) (a : ActV) (d : Bool) : Value := .agg (#[ms] ++ a.cs ++ #[.bool d])
def beginAct (num n : Int) : ActV := { zeroAct with who := num, call := 1, n := n, c := num }

def NextR (W : World) (n c : Int) (v4 v5 : Value) (wr : World) : Prop :=
  ∃ ib, v4 = .pointer (some ⟨ib, 0, none⟩) ∧ v5 = .int .i64 0 ∧ W.heap.size ≤ ib ∧ Blk wr ib 41 #[.int .i64 n, .int .i64 c] ∧ Below W.heap.size W wr

set_option maxRecDepth 100000 in
set_option maxHeartbeats 4000000 in
theorem begin_any (p : Nat) (c : Client) (w : World) (hC : ClAt w p c) (ht : c.vt = .pointer none) (ha : 0 ≤ c.cnt ∧ c.cnt < 1099511627776) (hn : 0 ≤ c.num ∧ c.num < 16) :
    Calls Try.prog 41 #[.pointer (some ⟨p, 0, none⟩)] w fun e w' => ∃ tb m1 m2 m3 m4, e = .returned (.tuple #[callV (.slice none 0 0) (beginAct c.num (c.cnt + 1)) true, .int .i64 0]) ∧
      ClAt w' p { c with cnt := c.cnt + 1, vt := .pointer (some ⟨tb, 0, none⟩) } ∧ Tx0 w' tb (c.cnt + 1) c.num m1 m2 m3 m4 ∧ (w.heap.size ≤ tb ∧ w.heap.size ≤ m1 ∧ w.heap.size ≤ m2 ∧ w.heap.size ≤ m3 ∧ w.heap.size ≤ m4) ∧ (m1 ≠ m2 ∧ m1 ≠ m3 ∧ m1 ≠ m4 ∧ m2 ≠ m3 ∧ m2 ≠ m4 ∧ m3 ≠ m4) ∧ Chg (fun b => b = p) w w' := by
  have HC := Lib.hid hC
  have NX := Lib.hid (fun v => next_any c.cnt c.num v ha hn)
  have hp := hC.blk.lt
  have c7 := hC.vt
  have c5 := hC.cnt
  have c0 := hC.num
  rw [ht] at c7
  clear hC ht ha hn
  go_enter Try.func41, Try.ntmps41
  go_upto_region 3 with (fail)
  refine world_out (fun W hW => ?_)
  have BW : Hid (Below w.heap.size w W) := Lib.hid (by rw [hW]; exact (Below.refl _ _).alloc (Nat.le_refl _) _)
  have R0 : Hid (∃ Z, Blk W w.heap.size 102 Z ∧ Z.size = 13) := Lib.hid ⟨_, by rw [hW]; exact Blk.new w 102 _, rfl⟩
  clear hW c7 c5 c0
  have C1 := Lib.hid (HC.out.below BW.out hp)
  have F : Hid (∀ v, Below W.heap.size W v → v.cell? ⟨p, 5, none⟩ = some (.int .i64 c.cnt) ∧ v.cell? ⟨p, 0, none⟩ = some (.int .i64 c.num)) := Lib.hid (fun v hv => by
    have := C1.out.below hv C1.out.blk.lt
    exact ⟨this.cnt, this.num⟩)
  go_cut [4, 5] from 12 (NextR W (c.cnt + 1) c.num)
  case first =>
    have S1 := Lib.hid (F.out W (Below.refl _ _))
    have S5 := Lib.hid (F.out _ ((Below.refl _ _).alloc (Nat.le_refl _) (.cells #[.int .i64 0, .int .i64 0] 41)))
    go_region_held3 (fun v => v.cell? ⟨p, 5, none⟩ = some (.int .i64 c.cnt) ∧ v.cell? ⟨p, 0, none⟩ = some (.int .i64 c.num)) (first | exact S1.out | exact S2.out | exact S3.out | exact S4.out | exact S5.out | exact S6.out) (first
      | (go_at_call 51; refine (NX.out _).mono ?_; rintro e w2 ⟨rfl, hb2⟩
         have B2 : Hid (Below W.heap.size W w2) := Lib.hid ((((Below.refl _ _).alloc (Nat.le_refl _) (.cells #[.int .i64 0, .int .i64 0] 41)).drew).trans (hb2.mono (Nat.le_of_lt (Blk.new W 41 #[.int .i64 0, .int .i64 0]).lt)))
         have Q2 : Hid (Blk w2 W.heap.size 41 #[.int .i64 0, .int .i64 0]) := Lib.hid (Blk.below (Blk.new W 41 #[.int .i64 0, .int .i64 0]).drew hb2 (Blk.new W 41 #[.int .i64 0, .int .i64 0]).lt)
         have n0 := Q2.out.cell 0
         have n1 := Q2.out.cell 1
         have f0 := Q2.out.frozen 0
         have f1 := Q2.out.frozen 1
         have S2 := Lib.hid (F.out w2 B2.out)
         have S6 := Lib.hid (F.out _ ((B2.out.setCell (p := ⟨W.heap.size, 0, none⟩) (Nat.le_refl _) (.int .i64 (c.cnt + 1))).setCell (p := ⟨W.heap.size, 1, none⟩) (Nat.le_refl _) (.int .i64 c.num)))
         clear hb2)
      | (go_at_call 51; refine (NX.out _).mono ?_; rintro e w2 ⟨rfl, hb2⟩
         have B2 : Hid (Below W.heap.size W w2) := Lib.hid ((Below.refl W.heap.size W).drew.trans hb2)
         have S2 := Lib.hid (F.out w2 B2.out)
         have S3 := Lib.hid (F.out _ (B2.out.alloc B2.out.size (.cells #[.int .i64 0, .int .i64 0] 41)))
         have S4 := Lib.hid (F.out _ (B2.out.alloc B2.out.size (.cells #[.int .i64 (c.cnt + 1), .int .i64 c.num] 41)))
         clear hb2))
    all_goals
      go_wp2_with fail
      go_meet
      case rel =>
        first
          | exact ⟨W.heap.size, rfl, rfl, Nat.le_refl _, (Q2.out.set_ 0 _).set_ 1 _, (B2.out.setCell (p := ⟨W.heap.size, 0, none⟩) (Nat.le_refl _) _).setCell (p := ⟨W.heap.size, 1, none⟩) (Nat.le_refl _) _⟩
          | exact ⟨w2.heap.size, rfl, rfl, B2.out.size, Blk.new w2 41 _, B2.out.alloc B2.out.size _⟩
  case rest =>
    obtain ⟨ib, rfl, rfl, hib, hQ, hBW⟩ := hcut
    have i0 := hQ.cell 0
    have i1 := hQ.cell 1
    have C2 := Lib.hid (C1.out.below hBW C1.out.blk.lt)
    have B2 : Hid (Below w.heap.size w wc) := Lib.hid (BW.out.trans (hBW.mono BW.out.size))
    have R2 : Hid (∃ Z, Blk wc w.heap.size 102 Z ∧ Z.size = 13) := Lib.hid (by obtain ⟨Z, h1, h2⟩ := R0.out; exact ⟨Z, h1.below hBW h1.lt, h2⟩)
    have hib2 : w.heap.size < ib := by obtain ⟨Z, h1, h2⟩ := R0.out; have := h1.lt; omega
    have QQ := Lib.hid hQ
    have n5 := C2.out.cnt
    have f5 := C2.out.frz 5
    clear F R0 C1 BW hBW hQ NX
    go_upto_region 7 with (fail)
    refine world_out (fun W3 hW3 => ?_)
    have C3 : Hid (ClAt W3 p { c with cnt := c.cnt + 1 }) := Lib.hid (by rw [hW3]; exact C2.out.put 5 _ (by decide) rfl rfl rfl)
    have K3 : Hid (Chg (fun b => b = p) w W3) := Lib.hid (by rw [hW3]; exact Chg.set (S := fun b => b = p) (Chg.of B2.out) (p := ⟨p, 5, none⟩) (.inr rfl) _)
    have R3 : Hid (∃ Z, Blk W3 w.heap.size 102 Z ∧ Z.size = 13) := Lib.hid (by obtain ⟨Z, h1, h2⟩ := R2.out; rw [hW3]; exact ⟨Z, h1.far (p := ⟨p, 5, none⟩) (by show w.heap.size ≠ p; omega) _, h2⟩)
    have Q3 : Hid (Blk W3 ib 41 #[.int .i64 (c.cnt + 1), .int .i64 c.num]) := Lib.hid (by rw [hW3]; exact QQ.out.far (p := ⟨p, 5, none⟩) (by show ib ≠ p; omega) _)
    clear hW3 n5 f5 i0 i1 C2 B2 R2 QQ
    have i0 := Q3.out.cell 0
    have i1 := Q3.out.cell 1
    have n7 := C3.out.vt
    have f7 := C3.out.frz 7
    have hpW := C3.out.blk.lt
    simp only at n7
    have hmm := @run_makeMap Try.prog
    have q1 : p < W3.heap.size + 1 := by omega
    have q2 : p < W3.heap.size + 1 + 1 := by omega
    have q3 : p < W3.heap.size + 1 + 1 + 1 := by omega
    have q4 : p < W3.heap.size + 1 + 1 + 1 + 1 := by omega
    go_upto_region 8 with (fail)
    clear hmm
    refine world_out (fun W4 hW4 => ?_)
    have hsz := C3.out.blk.lt
    obtain ⟨z, hz⟩ : ∃ z, z = W3.heap.size := ⟨_, rfl⟩
    have D1 : Hid (ClAt W4 p { c with cnt := c.cnt + 1, vt := .pointer (some ⟨z + 1 + 1 + 1 + 1, 0, none⟩) }) := Lib.hid (by
      have h0 := C3.out.put (c' := { c with cnt := c.cnt + 1, vt := .pointer (some ⟨z + 1 + 1 + 1 + 1, 0, none⟩) }) 7 (.pointer (some ⟨z + 1 + 1 + 1 + 1, 0, none⟩)) (by decide) rfl rfl rfl
      rw [hW4, ← hz]
      exact ⟨((((h0.blk.alloc _).alloc _).alloc _).alloc _).alloc _, h0.msg⟩)
    have T1 : Hid (Tx0 W4 (z + 1 + 1 + 1 + 1) (c.cnt + 1) c.num z (z + 1) (z + 1 + 1) (z + 1 + 1 + 1)) := Lib.hid (by
      rw [hW4, ← hz]
      have hs : (W3.setCell ⟨p, 7, none⟩ (.pointer (some ⟨z + 1 + 1 + 1 + 1, 0, none⟩))).heap.size = z := by simp [hz]
      generalize W3.setCell ⟨p, 7, none⟩ (.pointer (some ⟨z + 1 + 1 + 1 + 1, 0, none⟩)) = X at hs ⊢
      have s1 : (X.alloc (.map #[] 0)).heap.size = z + 1 := by simp [hs]
      have s2 : ((X.alloc (.map #[] 0)).alloc (.map #[] 0)).heap.size = z + 1 + 1 := by simp [hs]
      have s3 : (((X.alloc (.map #[] 0)).alloc (.map #[] 0)).alloc (.map #[] 0)).heap.size = z + 1 + 1 + 1 := by simp [hs]
      have s4 : ((((X.alloc (.map #[] 0)).alloc (.map #[] 0)).alloc (.map #[] 0)).alloc (.map #[] 0)).heap.size = z + 1 + 1 + 1 + 1 := by simp [hs]
      have a1 := Nil.new X
      rw [hs] at a1
      have a2 := Nil.new (X.alloc (.map #[] 0))
      rw [s1] at a2
      have a3 := Nil.new ((X.alloc (.map #[] 0)).alloc (.map #[] 0))
      rw [s2] at a3
      have a4 := Nil.new (((X.alloc (.map #[] 0)).alloc (.map #[] 0)).alloc (.map #[] 0))
      rw [s3] at a4
      have up : ∀ (Y : World) (o : Obj) (b : Nat), Nil Y b → Nil (Y.alloc o) b := fun Y o b h => (Below.heap_alloc Y o b h.lt).trans h
      refine ⟨?_, up _ _ _ (up _ _ _ (up _ _ _ (up _ _ _ a1))), up _ _ _ (up _ _ _ (up _ _ _ a2)), up _ _ _ (up _ _ _ a3), up _ _ _ a4⟩
      have := Blk.new ((((X.alloc (.map #[] 0)).alloc (.map #[] 0)).alloc (.map #[] 0)).alloc (.map #[] 0)) 110 #[.int .i64 (c.cnt + 1), .int .i64 c.num, .int .i64 (-1), .slice none 0 0, .map (some z), .map (some (z + 1)), .map (some (z + 1 + 1)), .map (some (z + 1 + 1 + 1))]
      rw [s4] at this
      exact this)
    have K4 : Hid (Chg (fun b => b = p) w W4) := Lib.hid (by
      rw [hW4]
      exact (((((K3.out.set (p := ⟨p, 7, none⟩) (.inr rfl) _).alloc _).alloc _).alloc _).alloc _).alloc _)
    have R4 : Hid (∃ Z, Blk W4 w.heap.size 102 Z ∧ Z.size = 13) := Lib.hid (by
      obtain ⟨Z, h1, h2⟩ := R3.out
      rw [hW4]
      exact ⟨Z, (((((h1.far (p := ⟨p, 7, none⟩) (by show w.heap.size ≠ p; omega) _).alloc _).alloc _).alloc _).alloc _).alloc _, h2⟩)
    have Q4 : Hid (Blk W4 ib 41 #[.int .i64 (c.cnt + 1), .int .i64 c.num]) := Lib.hid (by
      rw [hW4]
      exact (((((Q3.out.far (p := ⟨p, 7, none⟩) (by show ib ≠ p; omega) _).alloc _).alloc _).alloc _).alloc _).alloc _)
    have hzw : w.heap.size < z := by obtain ⟨Z, h1, h2⟩ := R3.out; rw [hz]; exact h1.lt
    clear hW4 C3 K3 R3 Q3 i0 i1 n7 f7 hpW q1 q2 q3 q4 hsz
    rw [← hz]
    clear hz
    have i0 := Q4.out.cell 0
    have i1 := Q4.out.cell 1
    have c0 := D1.out.num
    simp only at c0
    obtain ⟨Z, hZ, hzs⟩ := R4.out
    have rm : RoomN 13 W4.drew w.heap.size 0 := blkN_room (w := W4.drew) hZ.drew hzs
    have cc : CellsN 13 #[.slice none 0 0, .int .i64 c.num, .int .i64 1, .int .i64 (c.cnt + 1), .int .i64 c.num, .string ⟨#[]⟩, .string ⟨#[]⟩, .bool false, .int .i64 0, .int .i64 0, .int .i64 0, .int .i64 0, .bool true] := ⟨rfl, by simp [Value.oneCell']⟩
    have hpw : p ≠ w.heap.size := by omega
    have hiw : ib ≠ w.heap.size := by omega
    have S1 : Hid (W4.cell? ⟨p, 0, none⟩ = some (.int .i64 c.num) ∧ W4.cell? ⟨ib, 0, none⟩ = some (.int .i64 (c.cnt + 1)) ∧ W4.cell? ⟨ib, 1, none⟩ = some (.int .i64 c.num)) := Lib.hid ⟨c0, i0, i1⟩
    have S3 : Hid (W4.drew.cell? ⟨p, 0, none⟩ = some (.int .i64 c.num) ∧ W4.drew.cell? ⟨ib, 0, none⟩ = some (.int .i64 (c.cnt + 1)) ∧ W4.drew.cell? ⟨ib, 1, none⟩ = some (.int .i64 c.num)) := Lib.hid ⟨c0, i0, i1⟩
    have S2 : Hid (∀ l, (putN W4.drew w.heap.size 0 l).cell? ⟨p, 0, none⟩ = some (.int .i64 c.num) ∧ (putN W4.drew w.heap.size 0 l).cell? ⟨ib, 0, none⟩ = some (.int .i64 (c.cnt + 1)) ∧ (putN W4.drew w.heap.size 0 l).cell? ⟨ib, 1, none⟩ = some (.int .i64 c.num)) := Lib.hid (fun l => by
      have K := putN_chg (S := fun b => b = w.heap.size) ((Chg.refl _ W4).drew) (.inr rfl) 0 l
      exact ⟨K.cell c0 hpw, K.cell i0 hiw, K.cell i1 hiw⟩)
    go_region_held3 (fun v => v.cell? ⟨p, 0, none⟩ = some (.int .i64 c.num) ∧ v.cell? ⟨ib, 0, none⟩ = some (.int .i64 (c.cnt + 1)) ∧ v.cell? ⟨ib, 1, none⟩ = some (.int .i64 c.num)) (first | with_reducible exact S1.out | with_reducible exact S3.out | with_reducible exact S2.out _) (fail)
    have CS : Hid ((#[.slice none 0 0, .int .i64 c.num, .int .i64 1, .int .i64 (c.cnt + 1), .int .i64 c.num, .string ⟨#[]⟩, .string ⟨#[]⟩, .bool false, .int .i64 0, .int .i64 0, .int .i64 0, .int .i64 0, .bool true] : Array Value).size = 13) := Lib.hid rfl
    have CV : Hid (callV (.slice none 0 0) (beginAct c.num (c.cnt + 1)) true = .agg #[.slice none 0 0, .int .i64 c.num, .int .i64 1, .int .i64 (c.cnt + 1), .int .i64 c.num, .string ⟨#[]⟩, .string ⟨#[]⟩, .bool false, .int .i64 0, .int .i64 0, .int .i64 0, .int .i64 0, .bool true]) := Lib.hid (by simp [callV, beginAct, zeroAct, ActV.cs])
    generalize (#[.slice none 0 0, .int .i64 c.num, .int .i64 1, .int .i64 (c.cnt + 1), .int .i64 c.num, .string ⟨#[]⟩, .string ⟨#[]⟩, .bool false, .int .i64 0, .int .i64 0, .int .i64 0, .int .i64 0, .bool true] : Array Value) = C at CS CV ⊢
    have FC : Hid (ClAt (putN W4.drew w.heap.size 0 C) p { c with cnt := c.cnt + 1, vt := .pointer (some ⟨z + 1 + 1 + 1 + 1, 0, none⟩) }) := Lib.hid ⟨putN_far (w := W4.drew) D1.out.blk hpw, D1.out.msg⟩
    have FB : Hid (Blk (putN W4.drew w.heap.size 0 C) w.heap.size 102 C) := Lib.hid (putN_fill (w := W4.drew) hZ.drew (hzs.trans CS.out.symm))
    have FT : Hid (Tx0 (putN W4.drew w.heap.size 0 C) (z + 1 + 1 + 1 + 1) (c.cnt + 1) c.num z (z + 1) (z + 1 + 1) (z + 1 + 1 + 1)) := Lib.hid (by
      have K := putN_chg (S := fun b => b = w.heap.size) ((Chg.refl _ W4).drew) (.inr rfl) 0 C
      exact ⟨T1.out.blk.chg K (by omega), T1.out.k1.chg K (by omega), T1.out.k2.chg K (by omega), T1.out.k3.chg K (by omega), T1.out.k4.chg K (by omega)⟩)
    have FK : Hid (Chg (fun b => b = p) w (putN W4.drew w.heap.size 0 C)) := Lib.hid (putN_chg K4.out.drew (.inl (Nat.le_refl _)) 0 C)
    clear S1 S2 S3 i0 i1 c0 rm cc hZ
    generalize putN W4.drew w.heap.size 0 C = WF at FC FB FT FK ⊢
    have hl := load_call CS.out FB.out.range
    go_wp2_with fail
    refine bodyPost_ret (v := .tuple #[.agg C, .int .i64 0]) (by simp [results, Try.results41, asAddr, hl]) rfl ⟨_, _, _, _, _, by rw [CV.out], FC.out, FT.out, ⟨by omega, by omega, by omega, by omega, by omega⟩, ⟨by omega, by omega, by omega, by omega, by omega, by omega⟩, FK.out⟩
end Go.Proofs.Ytpaihfdmjkfegaa.Cl
