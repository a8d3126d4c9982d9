/- The document's Check of a history, walked. -/
import Derived.Test.YtmmaolhmhdjldaaHistC
import Derived.WalkKit
import Derived.WalkSpells
import Derived.WalkLawsBesides
import Derived.Lib.Hide
import Derived.Outline
import Derived.Deep.CutRange
import Derived.Deep.LoopGhost
import Derived.Test.YtmmaolhmhdjldaaCls
namespace Go.Proofs.Ytmmaolhmhdjldaa.Hist
open Go.RowKit Go.Proofs.Ytmmaolhmhdjldaa.Cls

/-- The cells of an act, from a place on. -/
structure ActC (b o : Nat) (x : AV) (w : World) : Prop where
  lt : b < w.heap.size
  c0 : w.cell? ⟨b, o, none⟩ = some (.int .i64 x.cl)
  c1 : w.cell? ⟨b, o + 1, none⟩ = some (.int .i64 x.call)
  c2 : w.cell? ⟨b, o + 2, none⟩ = some (.int .i64 x.n)
  c3 : w.cell? ⟨b, o + 3, none⟩ = some (.int .i64 x.c)
  c4 : w.cell? ⟨b, o + 4, none⟩ = some (.string x.key)
  c5 : w.cell? ⟨b, o + 5, none⟩ = some (.string x.val)
  c6 : w.cell? ⟨b, o + 6, none⟩ = some (.bool x.found)
  c7 : w.cell? ⟨b, o + 7, none⟩ = some (.int .i64 x.code)
  c8 : w.cell? ⟨b, o + 8, none⟩ = some (.int .i64 x.stamp)
  c9 : w.cell? ⟨b, o + 9, none⟩ = some (.int .i64 x.fr)
  c10 : w.cell? ⟨b, o + 10, none⟩ = some (.int .i64 x.to)

theorem add_mk (b o m : Nat) : (⟨b, o, none⟩ : Addr).add m = ⟨b, o + m, none⟩ := by
  unfold Addr.add
  split
  · rename_i h; subst h; rfl
  · rfl

theorem ActsAt.act {w : World} {b o n : Nat} {X : Nat → AV} (h : ActsAt w ⟨b, o, none⟩ n X) (hb : b < w.heap.size) {i : Nat} (hi : i < n) : ActC b (o + i * 11) (X i) w := by
  have g : ∀ j v, (X i).cells[j]? = some v → w.cell? ⟨b, o + i * 11 + j, none⟩ = some v := fun j v hv => by
    have := h i hi j v hv
    rw [add_mk] at this
    rw [Nat.add_assoc]
    exact this
  exact ⟨hb, g 0 _ rfl, g 1 _ rfl, g 2 _ rfl, g 3 _ rfl, g 4 _ rfl, g 5 _ rfl, g 6 _ rfl, g 7 _ rfl, g 8 _ rfl, g 9 _ rfl, g 10 _ rfl⟩

theorem ActC.below {b o : Nat} {x : AV} {w w' : World} (h : ActC b o x w) {B : Nat} (hB : b < B) (hb : Below B w w') : ActC b o x w' := by
  obtain ⟨lt, c0, c1, c2, c3, c4, c5, c6, c7, c8, c9, c10⟩ := h
  have g : ∀ j, w'.cell? ⟨b, j, none⟩ = w.cell? ⟨b, j, none⟩ := fun j => hb.cell (p := ⟨b, j, none⟩) hB
  exact ⟨Nat.lt_of_lt_of_le lt hb.size, by rw [g]; exact c0, by rw [g]; exact c1, by rw [g]; exact c2, by rw [g]; exact c3, by rw [g]; exact c4, by rw [g]; exact c5, by rw [g]; exact c6, by rw [g]; exact c7, by rw [g]; exact c8, by rw [g]; exact c9, by rw [g]; exact c10⟩

theorem bcell {W w1 : World} {B : Nat} (hb : Below B W w1) : (∀ b o, b < B → w1.cell? ⟨b, o, none⟩ = W.cell? ⟨b, o, none⟩) ∧ (∀ b o, b < B → w1.frozen? ⟨b, o, none⟩ = W.frozen? ⟨b, o, none⟩) :=
  ⟨fun b o h => hb.cell (p := ⟨b, o, none⟩) h, fun b o h => hb.frozen (p := ⟨b, o, none⟩) h⟩

theorem allR_false {X : Nat → AV} {k n : Nat} (hk : k < n) (h : stepR X k = false) : allR X n = false := by
  induction n with
  | zero => omega
  | succ n ih =>
    unfold allR
    by_cases e : k = n
    · subst e; rw [h, Bool.and_false]
    · rw [ih (by omega), Bool.false_and]

/-- What a round holds: the act's own copy in block O; nothing of before has turned. -/
structure TR (w0 : World) (O : Nat) (x : AV) (v : World) : Prop where
  c0 : v.cell? ⟨O, 0, none⟩ = some (.int .i64 x.cl)
  c1 : v.cell? ⟨O, 1, none⟩ = some (.int .i64 x.call)
  c2 : v.cell? ⟨O, 2, none⟩ = some (.int .i64 x.n)
  c3 : v.cell? ⟨O, 3, none⟩ = some (.int .i64 x.c)
  c7 : v.cell? ⟨O, 7, none⟩ = some (.int .i64 x.code)
  c9 : v.cell? ⟨O, 9, none⟩ = some (.int .i64 x.fr)
  c10 : v.cell? ⟨O, 10, none⟩ = some (.int .i64 x.to)
  o0 : w0.heap.size ≤ O
  lt : O < v.heap.size
  bel : Below w0.heap.size w0 v

theorem TR.step {w0 : World} {O : Nat} {x : AV} (w w' : World) (h : TR w0 O x w) (hb : Below w.heap.size w w') : TR w0 O x w' := by
  obtain ⟨c0, c1, c2, c3, c7, c9, c10, h1, lt, hB⟩ := h
  have g : ∀ j, w'.cell? ⟨O, j, none⟩ = w.cell? ⟨O, j, none⟩ := fun j => hb.cell (p := ⟨O, j, none⟩) lt
  exact ⟨by rw [g]; exact c0, by rw [g]; exact c1, by rw [g]; exact c2, by rw [g]; exact c3, by rw [g]; exact c7, by rw [g]; exact c9, by rw [g]; exact c10, h1, Nat.lt_of_lt_of_le lt hb.size, hB.trans (hb.mono hB.size)⟩

theorem below_drewN {B : Nat} {a w : World} (h : Below B a w) (n : Nat) : Below B a (w.drewN n) := ⟨h.os, h.tape, h.output, h.size, h.block⟩

/-- .. and the box of the last one begun. -/
structure TR2 (w0 : World) (O : Nat) (x : AV) (O2 : Nat) (o : Option (Int × Int)) (v : World) : Prop where
  t : TR w0 O x v
  d0 : v.cell? ⟨O2, 0, none⟩ = some (.int .i64 (o.getD (0, 0)).1)
  d1 : v.cell? ⟨O2, 1, none⟩ = some (.int .i64 (o.getD (0, 0)).2)
  g0 : v.frozen? ⟨O2, 0, none⟩ = false
  g1 : v.frozen? ⟨O2, 1, none⟩ = false
  oo : O < O2
  lt : O2 < v.heap.size

theorem TR2.step {w0 : World} {O : Nat} {x : AV} {O2 : Nat} {o : Option (Int × Int)} (w w' : World) (h : TR2 w0 O x O2 o w) (hb : Below w.heap.size w w') : TR2 w0 O x O2 o w' := by
  obtain ⟨t, d0, d1, g0, g1, oo, lt⟩ := h
  exact ⟨t.step _ _ hb, by rw [hb.cell (p := ⟨O2, 0, none⟩) lt]; exact d0, by rw [hb.cell (p := ⟨O2, 1, none⟩) lt]; exact d1, by rw [hb.frozen (p := ⟨O2, 0, none⟩) lt]; exact g0, by rw [hb.frozen (p := ⟨O2, 1, none⟩) lt]; exact g1, oo, Nat.lt_of_lt_of_le lt hb.size⟩

theorem TR.setCell {w0 : World} {O : Nat} {x : AV} {v : World} (h : TR w0 O x v) {O2 j : Nat} (ho : O < O2) (u : Value) : TR w0 O x (v.setCell ⟨O2, j, none⟩ u) := by
  obtain ⟨c0, c1, c2, c3, c7, c9, c10, h1, lt, hB⟩ := h
  have g : ∀ i, (v.setCell ⟨O2, j, none⟩ u).cell? ⟨O, i, none⟩ = v.cell? ⟨O, i, none⟩ := fun i => World.cell?_setCell_other _ _ _ _ (by intro e; cases e; omega)
  exact ⟨by rw [g]; exact c0, by rw [g]; exact c1, by rw [g]; exact c2, by rw [g]; exact c3, by rw [g]; exact c7, by rw [g]; exact c9, by rw [g]; exact c10, h1, by simpa [World.setCell] using lt, hB.setCell (by show w0.heap.size ≤ O2; omega) _⟩

theorem TR2.store {w0 : World} {O : Nat} {x : AV} {O2 : Nat} {o : Option (Int × Int)} {v : World} (h : TR2 w0 O x O2 o v) (a b : Int) : TR2 w0 O x O2 (some (a, b)) ((v.setCell ⟨O2, 0, none⟩ (.int .i64 a)).setCell ⟨O2, 1, none⟩ (.int .i64 b)) := by
  obtain ⟨t, d0, d1, g0, g1, oo, lt⟩ := h
  refine ⟨(t.setCell oo _).setCell oo _, ?_, ?_, by simpa using g0, by simpa using g1, oo, by simpa using lt⟩
  · rw [World.cell?_setCell_other _ _ _ _ (by intro e; cases e), World.cell?_setCell_same _ _ _ d0]; rfl
  · rw [World.cell?_setCell_same _ _ _ (u := .int .i64 (o.getD (0, 0)).2)]
    · rfl
    · rw [World.cell?_setCell_other _ _ _ _ (by intro e; cases e)]; exact d1

/-! what each limb says -/
section
variable {cl call m c code stamp fr tt : Int} {key val : ByteArray} {found : Bool} {X : Nat → AV} {k : Nat}
theorem f1 (h : decide (cl < 0) = true) : baseB ⟨cl, call, m, c, key, val, found, code, stamp, fr, tt⟩ = false := by
  have := of_decide_eq_true h; simp [baseB, show ¬ 0 ≤ cl by omega]
theorem f2 (h : decide (16 ≤ cl) = true) : baseB ⟨cl, call, m, c, key, val, found, code, stamp, fr, tt⟩ = false := by
  have := of_decide_eq_true h; simp [baseB, show ¬ cl < 16 by omega]
theorem f3 (h : decide (call < 1) = true) : baseB ⟨cl, call, m, c, key, val, found, code, stamp, fr, tt⟩ = false := by
  have := of_decide_eq_true h; simp [baseB, show ¬ 1 ≤ call by omega]
theorem f4 (h : decide (6 < call) = true) : baseB ⟨cl, call, m, c, key, val, found, code, stamp, fr, tt⟩ = false := by
  have := of_decide_eq_true h; simp [baseB, show ¬ call ≤ 6 by omega]
theorem f5 (h : good m c = false) : baseB ⟨cl, call, m, c, key, val, found, code, stamp, fr, tt⟩ = false := by
  simp [baseB, h]
theorem f6 (h : (c != cl) = true) : baseB ⟨cl, call, m, c, key, val, found, code, stamp, fr, tt⟩ = false := by
  rw [bne_iff_ne] at h; simp [baseB, h]
theorem f7 (h : decide (fr < 0) = true) : (decide (0 ≤ fr) && decide (frP X k ≤ fr)) = false := by
  have := of_decide_eq_true h; simp [show ¬ 0 ≤ fr by omega]
theorem f8 (hk : 0 < k) (h : decide (fr < (X (k - 1)).fr) = true) : (decide (0 ≤ fr) && decide (frP X k ≤ fr)) = false := by
  have := of_decide_eq_true h
  obtain ⟨j, rfl⟩ : ∃ j, k = j + 1 := ⟨k - 1, by omega⟩
  rw [Nat.add_sub_cancel] at this
  simp [frP, show ¬ (X j).fr ≤ fr by omega]
theorem f9 (h : decide (tt < -1) = true) : baseB ⟨cl, call, m, c, key, val, found, code, stamp, fr, tt⟩ = false := by
  have := of_decide_eq_true h; simp [baseB, show ¬ -1 ≤ tt by omega]
theorem f11 (h : decide (0 ≤ tt) = true) (h' : decide (tt < fr) = true) : baseB ⟨cl, call, m, c, key, val, found, code, stamp, fr, tt⟩ = false := by
  have := of_decide_eq_true h; have := of_decide_eq_true h'; simp [baseB, *]
theorem pb1 (h1 : decide (cl < 0) = false) (h2 : decide (16 ≤ cl) = false) (h3 : decide (call < 1) = false) (h4 : decide (6 < call) = false) (h5 : good m c = true) (h6 : (c != cl) = false) (h9 : decide (tt < -1) = false) (h10 : decide (0 ≤ tt) = true) (h11 : decide (tt < fr) = false) : baseB ⟨cl, call, m, c, key, val, found, code, stamp, fr, tt⟩ = true := by
  have a1 := of_decide_eq_false h1; have a2 := of_decide_eq_false h2; have a3 := of_decide_eq_false h3; have a4 := of_decide_eq_false h4; have a9 := of_decide_eq_false h9; have a11 := of_decide_eq_false h11
  have a6 := bne_eq_false_iff_eq.1 h6
  rw [a6] at h5
  simp [baseB, h5, a6, show 0 ≤ cl by omega, show cl < 16 by omega, show 1 ≤ call by omega, show call ≤ 6 by omega, show -1 ≤ tt by omega, show fr ≤ tt by omega]
theorem pb0 (h1 : decide (cl < 0) = false) (h2 : decide (16 ≤ cl) = false) (h3 : decide (call < 1) = false) (h4 : decide (6 < call) = false) (h5 : good m c = true) (h6 : (c != cl) = false) (h9 : decide (tt < -1) = false) (h10 : decide (0 ≤ tt) = false) : baseB ⟨cl, call, m, c, key, val, found, code, stamp, fr, tt⟩ = true := by
  have a1 := of_decide_eq_false h1; have a2 := of_decide_eq_false h2; have a3 := of_decide_eq_false h3; have a4 := of_decide_eq_false h4; have a9 := of_decide_eq_false h9; have a10 := of_decide_eq_false h10
  have a6 := bne_eq_false_iff_eq.1 h6
  rw [a6] at h5
  simp [baseB, h5, a6, show 0 ≤ cl by omega, show cl < 16 by omega, show 1 ≤ call by omega, show call ≤ 6 by omega, show -1 ≤ tt by omega, show tt < 0 by omega]
theorem fp1 (hk : 0 < k) (h7 : decide (fr < 0) = false) (h8 : decide (fr < (X (k - 1)).fr) = false) : (decide (0 ≤ fr) && decide (frP X k ≤ fr)) = true := by
  have a7 := of_decide_eq_false h7; have a8 := of_decide_eq_false h8
  obtain ⟨j, rfl⟩ : ∃ j, k = j + 1 := ⟨k - 1, by omega⟩
  rw [Nat.add_sub_cancel] at a8
  simp [frP, show 0 ≤ fr by omega, show (X j).fr ≤ fr by omega]
theorem fp0 (hk : decide (0 < k) = false) (h7 : decide (fr < 0) = false) : (decide (0 ≤ fr) && decide (frP X k ≤ fr)) = true := by
  have a7 := of_decide_eq_false h7; have ak := of_decide_eq_false hk
  obtain rfl : k = 0 := by omega
  simp [frP, show 0 ≤ fr by omega]
theorem i1 {o : Option (Int × Int)} (h : (call == 1) = true) (h1 : (tt != fr) = true) : idB o ⟨cl, call, m, c, key, val, found, code, stamp, fr, tt⟩ = false := by
  rw [beq_iff_eq] at h; rw [bne_iff_ne] at h1; simp [idB, h, h1]
theorem i2 {o : Option (Int × Int)} (h : (call == 1) = true) (h1 : (code != 0) = true) : idB o ⟨cl, call, m, c, key, val, found, code, stamp, fr, tt⟩ = false := by
  rw [beq_iff_eq] at h; rw [bne_iff_ne] at h1; simp [idB, h, h1]
theorem i3 (h : (call == 1) = true) (h1 : (tt != fr) = false) (h2 : (code != 0) = false) : idB none ⟨cl, call, m, c, key, val, found, code, stamp, fr, tt⟩ = true := by
  rw [beq_iff_eq] at h; rw [bne_eq_false_iff_eq] at h1 h2; simp [idB, h, h1, h2]
theorem i4 {q : Int × Int} {qa qb : Int} (h : (call == 1) = true) (hq : q = (qa, qb)) (h3 : decide (0 ≤ ageCmp qa qb m c) = true) : idB (some q) ⟨cl, call, m, c, key, val, found, code, stamp, fr, tt⟩ = false := by
  subst hq; rw [beq_iff_eq] at h; have := of_decide_eq_true h3; simp [idB, h, show ¬ ageCmp qa qb m c < 0 by omega]
theorem i5 {q : Int × Int} {qa qb : Int} (h : (call == 1) = true) (h1 : (tt != fr) = false) (h2 : (code != 0) = false) (hq : q = (qa, qb)) (h3 : decide (0 ≤ ageCmp qa qb m c) = false) : idB (some q) ⟨cl, call, m, c, key, val, found, code, stamp, fr, tt⟩ = true := by
  subst hq; rw [beq_iff_eq] at h; rw [bne_eq_false_iff_eq] at h1 h2; have := of_decide_eq_false h3; simp [idB, h, h1, h2, show ageCmp qa qb m c < 0 by omega]
theorem ne_one (h : (call == 1) = false) : ¬ call = 1 := fun e => by rw [e] at h; cases h
theorem i6 (h : (call == 1) = false) : idB none ⟨cl, call, m, c, key, val, found, code, stamp, fr, tt⟩ = false := by
  simp [idB, ne_one h]
theorem i7 {q : Int × Int} {qa qb : Int} (h : (call == 1) = false) (hq : q = (qa, qb)) (h1 : qa = m) (h2 : qb = c) : idB (some q) ⟨cl, call, m, c, key, val, found, code, stamp, fr, tt⟩ = true := by
  subst hq; simp [idB, ne_one h, h1, h2]
theorem i8 {q : Int × Int} {qa qb : Int} (h : (call == 1) = false) (hq : q = (qa, qb)) (h2 : ¬ qb = c) : idB (some q) ⟨cl, call, m, c, key, val, found, code, stamp, fr, tt⟩ = false := by
  subst hq; simp [idB, ne_one h, h2]
theorem i9 {q : Int × Int} {qa qb : Int} (h : (call == 1) = false) (hq : q = (qa, qb)) (h1 : ¬ qa = m) : idB (some q) ⟨cl, call, m, c, key, val, found, code, stamp, fr, tt⟩ = false := by
  subst hq; simp [idB, ne_one h, h1]
end

/-- What the first test leaves: a Bool, and what it means. -/
def Cut1 (C : World → Prop) (S1 : Bool) (v : Value) (wx : World) : Prop :=
  ∃ b : Bool, v = .bool b ∧ C wx ∧ (b = false → S1 = true) ∧ (b = true → S1 = false)

/-- What the loop over the acts ahead holds. -/
def RelI (X : Nat → AV) (cl : Int) (k : Nat) (C2 : Option (Int × Int) → World → Prop) (g : Nat) (v5 v7 : Value) (wv : World) : Prop :=
  ∃ j : Nat, j + g = k ∧ v7 = .int .i64 j ∧ v5 = .bool (begR X cl j).isSome ∧ C2 (begR X cl j) wv

/-- What the loop over the acts holds. -/
def RelR (X : Nat → AV) (n : Nat) (w : World) (g : Nat) (v3 : Value) (wr : World) : Prop :=
  ∃ k : Nat, k + g = n ∧ v3 = .int .i64 k ∧ allR X k = true ∧ Below w.heap.size w wr

set_option maxRecDepth 100000 in
set_option maxHeartbeats 8000000 in
theorem refCheck (X : Nat → AV) (ab ao n cap : Nat) (hn : n ≤ cap) (hc : cap ≤ 9223372036854775807) (w : World) (hab : ab < w.heap.size) (hA : ActsAt w ⟨ab, ao, none⟩ n X) :
    Calls Try.prog 40 #[.slice (some ⟨ab, ao, none⟩) n cap] w fun e w' => e = .returned (.int .i64 (if allR X n then 0 else 270)) ∧ Below w.heap.size w w' := by
  have HA := Lib.hid hA
  clear hA
  have HR : Hid (∀ k, k < n → stepR X k = false → (if allR X n then (0 : Int) else 270) = 270) := fun k hk h => by rw [allR_false hk h]; rfl
  have HR1 : Hid (allR X n = true → (if allR X n then (0 : Int) else 270) = 0) := fun h => by rw [h]; rfl
  generalize (if allR X n then (0 : Int) else 270) = R at *
  go_enter Try.func40, Try.ntmps40
  go_wp2
  go_loopg [3] n (RelR X n w)
  case atStart => exact ⟨0, by omega, rfl, rfl, Below.refl _ _⟩
  case round =>
    obtain ⟨gk1, hgk⟩ : ∃ g, g = gk := ⟨_, rfl⟩
    rw [← hgk] at hrel
    obtain ⟨k, hk, rfl, hal, hb⟩ := hrel
    have HGK := Lib.hid hgk
    clear hgk
    have AL := Lib.hid hal
    have BL := Lib.hid hb
    clear hal hb
    by_cases hl : k < n
    · have hC := (HA.out.act hab hl).below hab BL.out
      have hw : ab < wr.heap.size := hC.lt
      obtain ⟨_, c0, c1, c2, c3, c4, c5, c6, c7, c8, c9, c10⟩ := hC
      have ST : Hid (stepR X k = (baseB (X k) && (decide (0 ≤ (X k).fr) && decide (frP X k ≤ (X k).fr)) && idB (begR X (X k).cl k) (X k))) := rfl
      generalize hx : X k = x at c0 c1 c2 c3 c4 c5 c6 c7 c8 c9 c10 ST
      clear hx
      obtain ⟨cl, call, m, c, key, val, found, code, stamp, fr, tt⟩ := x
      simp only at c0 c1 c2 c3 c4 c5 c6 c7 c8 c9 c10
      obtain ⟨gd, hgd⟩ : ∃ gd, gd = good m c := ⟨_, rfl⟩
      have GC : Hid (∀ w, Calls Try.prog 20 #[.agg #[.int .i64 m, .int .i64 c]] w fun e w' => e = .returned (.bool gd) ∧ Below w.heap.size w w') := by rw [hgd]; exact good_any m c
      have HG := Lib.hid hgd
      clear hgd
      have al := (BL.out.alloc BL.out.size (.cells #[.int .i64 cl, .int .i64 call, .int .i64 m, .int .i64 c, .string key, .string val, .bool found, .int .i64 code, .int .i64 stamp, .int .i64 fr, .int .i64 tt] 61))
      have T0 : Hid (TR w wr.heap.size ⟨cl, call, m, c, key, val, found, code, stamp, fr, tt⟩ (wr.alloc (.cells #[.int .i64 cl, .int .i64 call, .int .i64 m, .int .i64 c, .string key, .string val, .bool found, .int .i64 code, .int .i64 stamp, .int .i64 fr, .int .i64 tt] 61))) := ⟨by simp [go_sem], by simp [go_sem], by simp [go_sem], by simp [go_sem], by simp [go_sem], by simp [go_sem], by simp [go_sem], BL.out.size, by simp, al⟩
      clear al
      go_upto_region 5 with fail
      generalize hW : (wr.alloc (.cells #[.int .i64 cl, .int .i64 call, .int .i64 m, .int .i64 c, .string key, .string val, .bool found, .int .i64 code, .int .i64 stamp, .int .i64 fr, .int .i64 tt] 61)) = wa at *
      clear hW c0 c1 c2 c3 c4 c5 c6 c7 c8 c9 c10
      generalize wr.heap.size = O at *
      obtain ⟨C, hCd⟩ : ∃ C : World → Prop, C = TR w O ⟨cl, call, m, c, key, val, found, code, stamp, fr, tt⟩ := ⟨_, rfl⟩
      have TC : Hid (∀ v, C v → TR w O ⟨cl, call, m, c, key, val, found, code, stamp, fr, tt⟩ v) := by rw [hCd]; exact fun _ h => h
      have KC : Hid (∀ w w', C w → Below w.heap.size w w' → C w') := by rw [hCd]; exact TR.step
      have C0 : Hid (C wa) := by rw [hCd]; exact T0.out
      clear hCd T0
      have l0 : ∀ p : InCls C, p.w.cell? ⟨O, 0, none⟩ = some (.int .i64 cl) := fun p => (TC.out _ p.h).c0
      have l1 : ∀ p : InCls C, p.w.cell? ⟨O, 1, none⟩ = some (.int .i64 call) := fun p => (TC.out _ p.h).c1
      have l2 : ∀ p : InCls C, p.w.cell? ⟨O, 2, none⟩ = some (.int .i64 m) := fun p => (TC.out _ p.h).c2
      have l3 : ∀ p : InCls C, p.w.cell? ⟨O, 3, none⟩ = some (.int .i64 c) := fun p => (TC.out _ p.h).c3
      have l7 : ∀ p : InCls C, p.w.cell? ⟨O, 7, none⟩ = some (.int .i64 code) := fun p => (TC.out _ p.h).c7
      have l9 : ∀ p : InCls C, p.w.cell? ⟨O, 9, none⟩ = some (.int .i64 fr) := fun p => (TC.out _ p.h).c9
      have l10 : ∀ p : InCls C, p.w.cell? ⟨O, 10, none⟩ = some (.int .i64 tt) := fun p => (TC.out _ p.h).c10
      have NE : Nonempty (InCls C) := ⟨⟨wa, C0.out⟩⟩
      go_cut [86] from 8 to 152 (Cut1 C (baseB ⟨cl, call, m, c, key, val, found, code, stamp, fr, tt⟩ && (decide (0 ≤ fr) && decide (frP X k ≤ fr))))
      case first =>
        as_aux_lemma =>
        refine wp_region_cls C (by kernel_rfl) (by kernel_rfl) (KC.out _ _ C0.out (Below.refl _ _).drew) ?_
        simp only [List.append_eq, List.cons_append, List.nil_append]
        repeat (go_big_quiet_step ((go_at_call 20; exact cls_of KC.out (GC.out _))))
        cases h1 : decide (cl < 0) with
        | false =>
          repeat (go_big_quiet_step ((go_at_call 20; exact cls_of KC.out (GC.out _))))
          cases h2 : decide (16 ≤ cl) with
          | false =>
            as_aux_lemma =>
              repeat (go_big_quiet_step ((go_at_call 20; exact cls_of KC.out (GC.out _))))
              cases h3 : decide (call < 1) with
              | false =>
                repeat (go_big_quiet_step ((go_at_call 20; exact cls_of KC.out (GC.out _))))
                cases h4 : decide (6 < call) with
                | false =>
                  as_aux_lemma =>
                    repeat (go_big_quiet_step ((go_at_call 20; exact cls_of KC.out (GC.out _))))
                    cases h5 : gd with
                    | false =>
                      simp only [Bool.not_true, Bool.not_false]
                      repeat (go_big_quiet_step ((go_at_call 20; exact cls_of KC.out (GC.out _))))
                      refine wpQuiet_nil ?_
                      intro _ hw'
                      obtain ⟨p, hw''⟩ := hw'
                      subst hw''
                      go_wp2_with fail
                      go_meet
                      exact ⟨true, rfl, p.h, (fun h => by cases h), fun _ => by rw [f5 (HG.out.symm.trans h5)]; rfl⟩
                    | true =>
                      simp only [Bool.not_true, Bool.not_false]
                      repeat (go_big_quiet_step ((go_at_call 20; exact cls_of KC.out (GC.out _))))
                      cases h6 : (c != cl) with
                      | false =>
                        as_aux_lemma =>
                          repeat (go_big_quiet_step ((go_at_call 20; exact cls_of KC.out (GC.out _))))
                          cases h7 : decide (fr < 0) with
                          | false =>
                            repeat (go_big_quiet_step ((go_at_call 20; exact cls_of KC.out (GC.out _))))
                            cases hk : decide (0 < k) with
                            | false =>
                              as_aux_lemma =>
                                repeat (go_big_quiet_step ((go_at_call 20; exact cls_of KC.out (GC.out _))))
                                cases h9 : decide (tt < -1) with
                                | false =>
                                  as_aux_lemma =>
                                    repeat (go_big_quiet_step ((go_at_call 20; exact cls_of KC.out (GC.out _))))
                                    cases h10 : decide (0 ≤ tt) with
                                    | false =>
                                      repeat (go_big_quiet_step ((go_at_call 20; exact cls_of KC.out (GC.out _))))
                                      refine wpQuiet_nil ?_
                                      intro _ hw'
                                      obtain ⟨p, hw''⟩ := hw'
                                      subst hw''
                                      go_wp2_with fail
                                      go_meet
                                      exact ⟨false, rfl, p.h, (fun _ => by rw [pb0 h1 h2 h3 h4 (HG.out.symm.trans h5) h6 h9 h10, fp0 (X := X) hk h7]; rfl), (fun h => by cases h)⟩
                                    | true =>
                                      repeat (go_big_quiet_step ((go_at_call 20; exact cls_of KC.out (GC.out _))))
                                      cases h11 : decide (tt < fr) with
                                      | false =>
                                        as_aux_lemma =>
                                          repeat (go_big_quiet_step ((go_at_call 20; exact cls_of KC.out (GC.out _))))
                                          refine wpQuiet_nil ?_
                                          intro _ hw'
                                          obtain ⟨p, hw''⟩ := hw'
                                          subst hw''
                                          go_wp2_with fail
                                          go_meet
                                          exact ⟨false, rfl, p.h, (fun _ => by rw [pb1 h1 h2 h3 h4 (HG.out.symm.trans h5) h6 h9 h10 h11, fp0 (X := X) hk h7]; rfl), (fun h => by cases h)⟩
                                      | true =>
                                        repeat (go_big_quiet_step ((go_at_call 20; exact cls_of KC.out (GC.out _))))
                                        refine wpQuiet_nil ?_
                                        intro _ hw'
                                        obtain ⟨p, hw''⟩ := hw'
                                        subst hw''
                                        go_wp2_with fail
                                        go_meet
                                        exact ⟨true, rfl, p.h, (fun h => by cases h), fun _ => by rw [f11 h10 h11]; rfl⟩
                                | true =>
                                  repeat (go_big_quiet_step ((go_at_call 20; exact cls_of KC.out (GC.out _))))
                                  refine wpQuiet_nil ?_
                                  intro _ hw'
                                  obtain ⟨p, hw''⟩ := hw'
                                  subst hw''
                                  go_wp2_with fail
                                  go_meet
                                  exact ⟨true, rfl, p.h, (fun h => by cases h), fun _ => by rw [f9 h9]; rfl⟩
                            | true =>
                              have hk1 : 0 < k := by have := of_decide_eq_true hk; omega
                              have hi : 0 ≤ (k : Int) - 1 ∧ (k : Int) - 1 < (n : Int) := ⟨by omega, by omega⟩
                              have lp : ∀ p : InCls C, p.w.cell? ⟨ab, ao + (k - 1) * 11 + 9, none⟩ = some (.int .i64 (X (k - 1)).fr) := fun p => ((HA.out.act hab (show k - 1 < n by omega)).below hab (TC.out _ p.h).bel).c9
                              as_aux_lemma =>
                                repeat (go_big_quiet_step ((go_at_call 20; exact cls_of KC.out (GC.out _))))
                                cases h8 : decide (fr < (X (k - 1)).fr) with
                                | false =>
                                  repeat (go_big_quiet_step ((go_at_call 20; exact cls_of KC.out (GC.out _))))
                                  cases h9 : decide (tt < -1) with
                                  | false =>
                                    as_aux_lemma =>
                                      repeat (go_big_quiet_step ((go_at_call 20; exact cls_of KC.out (GC.out _))))
                                      cases h10 : decide (0 ≤ tt) with
                                      | false =>
                                        repeat (go_big_quiet_step ((go_at_call 20; exact cls_of KC.out (GC.out _))))
                                        refine wpQuiet_nil ?_
                                        intro _ hw'
                                        obtain ⟨p, hw''⟩ := hw'
                                        subst hw''
                                        go_wp2_with fail
                                        go_meet
                                        exact ⟨false, rfl, p.h, (fun _ => by rw [pb0 h1 h2 h3 h4 (HG.out.symm.trans h5) h6 h9 h10, fp1 hk1 h7 h8]; rfl), (fun h => by cases h)⟩
                                      | true =>
                                        repeat (go_big_quiet_step ((go_at_call 20; exact cls_of KC.out (GC.out _))))
                                        cases h11 : decide (tt < fr) with
                                        | false =>
                                          as_aux_lemma =>
                                            repeat (go_big_quiet_step ((go_at_call 20; exact cls_of KC.out (GC.out _))))
                                            refine wpQuiet_nil ?_
                                            intro _ hw'
                                            obtain ⟨p, hw''⟩ := hw'
                                            subst hw''
                                            go_wp2_with fail
                                            go_meet
                                            exact ⟨false, rfl, p.h, (fun _ => by rw [pb1 h1 h2 h3 h4 (HG.out.symm.trans h5) h6 h9 h10 h11, fp1 hk1 h7 h8]; rfl), (fun h => by cases h)⟩
                                        | true =>
                                          repeat (go_big_quiet_step ((go_at_call 20; exact cls_of KC.out (GC.out _))))
                                          refine wpQuiet_nil ?_
                                          intro _ hw'
                                          obtain ⟨p, hw''⟩ := hw'
                                          subst hw''
                                          go_wp2_with fail
                                          go_meet
                                          exact ⟨true, rfl, p.h, (fun h => by cases h), fun _ => by rw [f11 h10 h11]; rfl⟩
                                  | true =>
                                    repeat (go_big_quiet_step ((go_at_call 20; exact cls_of KC.out (GC.out _))))
                                    refine wpQuiet_nil ?_
                                    intro _ hw'
                                    obtain ⟨p, hw''⟩ := hw'
                                    subst hw''
                                    go_wp2_with fail
                                    go_meet
                                    exact ⟨true, rfl, p.h, (fun h => by cases h), fun _ => by rw [f9 h9]; rfl⟩
                                | true =>
                                  repeat (go_big_quiet_step ((go_at_call 20; exact cls_of KC.out (GC.out _))))
                                  refine wpQuiet_nil ?_
                                  intro _ hw'
                                  obtain ⟨p, hw''⟩ := hw'
                                  subst hw''
                                  go_wp2_with fail
                                  go_meet
                                  exact ⟨true, rfl, p.h, (fun h => by cases h), fun _ => by rw [f8 hk1 h8, Bool.and_false]⟩
                          | true =>
                            repeat (go_big_quiet_step ((go_at_call 20; exact cls_of KC.out (GC.out _))))
                            refine wpQuiet_nil ?_
                            intro _ hw'
                            obtain ⟨p, hw''⟩ := hw'
                            subst hw''
                            go_wp2_with fail
                            go_meet
                            exact ⟨true, rfl, p.h, (fun h => by cases h), fun _ => by rw [f7 h7, Bool.and_false]⟩
                      | true =>
                        repeat (go_big_quiet_step ((go_at_call 20; exact cls_of KC.out (GC.out _))))
                        refine wpQuiet_nil ?_
                        intro _ hw'
                        obtain ⟨p, hw''⟩ := hw'
                        subst hw''
                        go_wp2_with fail
                        go_meet
                        exact ⟨true, rfl, p.h, (fun h => by cases h), fun _ => by rw [f6 h6]; rfl⟩
                | true =>
                  repeat (go_big_quiet_step ((go_at_call 20; exact cls_of KC.out (GC.out _))))
                  refine wpQuiet_nil ?_
                  intro _ hw'
                  obtain ⟨p, hw''⟩ := hw'
                  subst hw''
                  go_wp2_with fail
                  go_meet
                  exact ⟨true, rfl, p.h, (fun h => by cases h), fun _ => by rw [f4 h4]; rfl⟩
              | true =>
                repeat (go_big_quiet_step ((go_at_call 20; exact cls_of KC.out (GC.out _))))
                refine wpQuiet_nil ?_
                intro _ hw'
                obtain ⟨p, hw''⟩ := hw'
                subst hw''
                go_wp2_with fail
                go_meet
                exact ⟨true, rfl, p.h, (fun h => by cases h), fun _ => by rw [f3 h3]; rfl⟩
          | true =>
            repeat (go_big_quiet_step ((go_at_call 20; exact cls_of KC.out (GC.out _))))
            refine wpQuiet_nil ?_
            intro _ hw'
            obtain ⟨p, hw''⟩ := hw'
            subst hw''
            go_wp2_with fail
            go_meet
            exact ⟨true, rfl, p.h, (fun h => by cases h), fun _ => by rw [f2 h2]; rfl⟩
        | true =>
          repeat (go_big_quiet_step ((go_at_call 20; exact cls_of KC.out (GC.out _))))
          refine wpQuiet_nil ?_
          intro _ hw'
          obtain ⟨p, hw''⟩ := hw'
          subst hw''
          go_wp2_with fail
          go_meet
          exact ⟨true, rfl, p.h, (fun h => by cases h), fun _ => by rw [f1 h1]; rfl⟩
      case rest =>
        obtain ⟨b, rfl, hC, hS1, hS0⟩ := hcut
        have CC := Lib.hid hC
        have HS1 := Lib.hid hS1
        have HS0 := Lib.hid hS0
        clear hC hS1 hS0
        cases b with
        | true =>
          have HR' : Hid (R = 270) := HR.out k hl (by rw [ST.out, HS0.out rfl]; rfl)
          go_wp2_with fail
          go_ret
          exact ⟨by rw [HR'.out]; rfl, (TC.out _ CC.out).bel⟩
        | false =>
          clear HS0
          have HS := Lib.hid (HS1.out rfl)
          clear HS1
          have T2 : Hid (TR2 w O ⟨cl, call, m, c, key, val, found, code, stamp, fr, tt⟩ wc.heap.size none (wc.alloc (.cells #[.int .i64 0, .int .i64 0] 23))) :=
            ⟨TR.step _ _ (TC.out _ CC.out) ((Below.refl _ _).alloc (Nat.le_refl _) _), by simp [go_sem], by simp [go_sem], by simp [go_sem], by simp [go_sem], (TC.out _ CC.out).lt, by simp⟩
          go_wp2_with fail
          generalize hW : (wc.alloc (.cells #[.int .i64 0, .int .i64 0] 23)) = wb at *
          clear hW
          generalize wc.heap.size = O2 at *
          clear l0 l1 l2 l3 l7 l9 l10 NE CC
          go_loopg [5, 7] k (RelI X cl k (TR2 w O ⟨cl, call, m, c, key, val, found, code, stamp, fr, tt⟩ O2))
          case atStart => exact ⟨0, by omega, rfl, rfl, T2.out⟩
          case round =>
            clear T2
            obtain ⟨j, hj, rfl, rfl, hT⟩ := hrel
            have HT := Lib.hid hT
            clear hT
            by_cases hjk : j < k
            · have hY := (HA.out.act hab (show j < n by omega)).below hab HT.out.t.bel
              obtain ⟨ylt, y0, y1, y2, y3, _, _, _, _, _, _, _⟩ := hY
              have l0 := HT.out.t.c0
              simp only at l0
              have BG : Hid (begR X cl (j + 1) = if (X j).cl = cl ∧ (X j).call = 1 then some ((X j).n, (X j).c) else begR X cl j) := rfl
              generalize X j = y at y0 y1 y2 y3 BG
              obtain ⟨ycl, ycall, yn, yc, _, _, _, _, _, _, _⟩ := y
              simp only at y0 y1 y2 y3
              have d0 := HT.out.d0
              have d1 := HT.out.d1
              have g0 := HT.out.g0
              have g1 := HT.out.g1
              generalize begR X cl j = o at *
              go_wp2_with fail
              trace "in"
              cases e1 : (ycl == cl) with
              | false =>
                have ne : Hid (¬(ycl = cl ∧ ycall = 1)) := fun h => by rw [h.1] at e1; simp at e1
                go_quiet (fail)
                go_wp2_with fail
                go_roundg (gk - 1)
                case measure => omega
                case rel => exact ⟨j + 1, by omega, by go_num, by rw [BG.out, if_neg ne.out], by rw [BG.out, if_neg ne.out]; exact TR2.step _ _ HT.out (below_drewN (Below.refl _ _) _)⟩
              | true =>
                cases e2 : (ycall == 1) with
                | false =>
                  have ne : Hid (¬(ycl = cl ∧ ycall = 1)) := fun h => by rw [h.2] at e2; simp at e2
                  go_quiet (fail)
                  go_wp2_with fail
                  go_roundg (gk - 1)
                  case measure => omega
                  case rel => exact ⟨j + 1, by omega, by go_num, by rw [BG.out, if_neg ne.out], by rw [BG.out, if_neg ne.out]; exact TR2.step _ _ HT.out (below_drewN (Below.refl _ _) _)⟩
                | true =>
                  have ye : Hid (ycl = cl ∧ ycall = 1) := ⟨beq_iff_eq.1 e1, beq_iff_eq.1 e2⟩
                  go_quiet (fail)
                  go_wp2_with fail
                  go_roundg (gk - 1)
                  case measure => omega
                  case rel => exact ⟨j + 1, by omega, by go_num, by rw [BG.out, if_pos ye.out]; rfl, by rw [BG.out, if_pos ye.out]; exact TR2.store (TR2.step _ _ HT.out (below_drewN (Below.refl _ _) _)) yn yc⟩
            · obtain rfl : j = k := by omega
              generalize hB : begR X cl j = o at *
              clear hB
              obtain ⟨C2, hCd⟩ : ∃ C : World → Prop, C = TR2 w O ⟨cl, call, m, c, key, val, found, code, stamp, fr, tt⟩ O2 o := ⟨_, rfl⟩
              have TC2 : Hid (∀ v, C2 v → TR2 w O ⟨cl, call, m, c, key, val, found, code, stamp, fr, tt⟩ O2 o v) := by rw [hCd]; exact fun _ h => h
              have KC2 : Hid (∀ w w', C2 w → Below w.heap.size w w' → C2 w') := by rw [hCd]; exact TR2.step
              have C0 : Hid (C2 wr) := by rw [hCd]; exact HT.out
              clear hCd HT
              have l0 := (TC2.out _ C0.out).t.c0
              have l1 := (TC2.out _ C0.out).t.c1
              have l2 := (TC2.out _ C0.out).t.c2
              have l3 := (TC2.out _ C0.out).t.c3
              have l7 := (TC2.out _ C0.out).t.c7
              have l9 := (TC2.out _ C0.out).t.c9
              have l10 := (TC2.out _ C0.out).t.c10
              have d0 := (TC2.out _ C0.out).d0
              have d1 := (TC2.out _ C0.out).d1
              have lO := (TC2.out _ C0.out).t.lt
              simp only at l0 l1 l2 l3 l7 l9 l10
              go_upto_region 15 with fail
              go_cut [152] from 8 to 152 (Cut1 C2 (idB o ⟨cl, call, m, c, key, val, found, code, stamp, fr, tt⟩))
              case first =>
                as_aux_lemma =>
                generalize hg : o.getD (0, 0) = q at d0 d1
                obtain ⟨qa, qb⟩ := q
                have HQ := Lib.hid hg
                clear hg
                simp only at d0 d1
                obtain ⟨cp, hcp⟩ : ∃ cp, cp = ageCmp qa qb m c := ⟨_, rfl⟩
                have RC : Hid (∀ w, Calls Try.prog 29 #[.agg #[.int .i64 qa, .int .i64 qb], .agg #[.int .i64 m, .int .i64 c]] w fun e w' => e = .returned (.int .i64 cp) ∧ Below w.heap.size w w') := by rw [hcp]; exact refcmp_any qa qb m c
                have HCP := Lib.hid hcp
                clear hcp
                cases ec : (call == 1) with
                | true =>
                  have ec' : (call != 1) = false := by rw [bne, ec]; rfl
                  cases e1 : (tt != fr) with
                  | true =>
                    go_wp2_with fail
                    go_meet
                    exact ⟨true, rfl, C0.out, (fun h => by cases h), (fun _ => i1 ec e1)⟩
                  | false =>
                    cases e2 : (code != 0) with
                    | true =>
                      go_wp2_with fail
                      go_meet
                      exact ⟨true, rfl, C0.out, (fun h => by cases h), (fun _ => i2 ec e2)⟩
                    | false =>
                      cases o with
                      | none =>
                        simp only [Option.isSome_none]
                        go_wp2_with fail
                        go_meet
                        exact ⟨false, rfl, C0.out, (fun _ => i3 ec e1 e2), (fun h => by cases h)⟩
                      | some q =>
                        simp only [Option.isSome_some]
                        cases e3 : decide (0 ≤ cp) with
                        | true =>
                          go_wp2_with (go_at_call 29; refine (RC.out _).mono ?_; rintro e w1 ⟨rfl, hb1⟩; obtain ⟨hc1, hf1⟩ := bcell hb1; have C1 := KC2.out _ _ C0.out hb1)
                          go_meet
                          exact ⟨true, rfl, C1, (fun h => by cases h), (fun _ => i4 ec HQ.out (HCP.out ▸ e3))⟩
                        | false =>
                          go_wp2_with (go_at_call 29; refine (RC.out _).mono ?_; rintro e w1 ⟨rfl, hb1⟩; obtain ⟨hc1, hf1⟩ := bcell hb1; have C1 := KC2.out _ _ C0.out hb1)
                          go_meet
                          exact ⟨false, rfl, C1, (fun _ => i5 ec e1 e2 HQ.out (HCP.out ▸ e3)), (fun h => by cases h)⟩
                | false =>
                  have ec' : (call != 1) = true := by rw [bne, ec]; rfl
                  cases o with
                  | none =>
                    simp only [Option.isSome_none]
                    go_wp2_with fail
                    go_meet
                    exact ⟨true, rfl, C0.out, (fun h => by cases h), (fun _ => i6 ec)⟩
                  | some q =>
                    simp only [Option.isSome_some]
                    by_cases q1 : qa = m
                    · by_cases q2 : qb = c
                      · have Q1 := Lib.hid q1
                        have Q2 := Lib.hid q2
                        go_wp2_with fail
                        go_meet
                        exact ⟨false, rfl, C0.out, (fun _ => i7 ec HQ.out Q1.out Q2.out), (fun h => by cases h)⟩
                      · have Q2 := Lib.hid q2
                        go_wp2_with fail
                        go_meet
                        exact ⟨true, rfl, C0.out, (fun h => by cases h), (fun _ => i8 ec HQ.out Q2.out)⟩
                    · have Q1 := Lib.hid q1
                      go_wp2_with fail
                      go_meet
                      exact ⟨true, rfl, C0.out, (fun h => by cases h), (fun _ => i9 ec HQ.out Q1.out)⟩
              case rest =>
                obtain ⟨b, rfl, hC, hS1, hS0⟩ := hcut
                have CC := Lib.hid hC
                have HS1 := Lib.hid hS1
                have HS0 := Lib.hid hS0
                clear hC hS1 hS0
                cases b with
                | true =>
                  have HR' : Hid (R = 270) := HR.out j hl (by rw [ST.out, HS0.out rfl, Bool.and_false])
                  go_wp2_with fail
                  go_ret
                  exact ⟨by rw [HR'.out]; rfl, (TC2.out _ CC.out).t.bel⟩
                | false =>
                  have HT' : Hid (stepR X j = true) := by rw [ST.out, HS.out, HS1.out rfl]; rfl
                  have HA1 : Hid (allR X (j + 1) = true) := by show (allR X j && stepR X j) = true; rw [AL.out, HT'.out]; rfl
                  go_wp2_with fail
                  go_roundg (gk1 - 1)
                  case measure => have := HGK.out; omega
                  case rel => exact ⟨j + 1, by omega, by go_num, HA1.out, (TC2.out _ CC.out).t.bel⟩
    · obtain rfl : k = n := by omega
      have HR' : Hid (R = 0) := HR1.out AL.out
      have HB := BL.out
      go_wp2_with fail
      go_ret
      exact ⟨by rw [HR'.out]; rfl, BL.out⟩
end Go.Proofs.Ytmmaolhmhdjldaa.Hist
