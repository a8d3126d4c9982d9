/- The law AgeTexts, walked. -/
import Derived.Test.YtmmaolhmhdjldaaDoorRefParseW
import Derived.Test.YtmmaolhmhdjldaaDoorBackW
namespace Go.Proofs.YtmmaolhmhdjldaaDoor.AgeW
open Go.RowKit Go.Proofs.YtmmaolhmhdjldaaDoor.NT Go.Proofs.YtmmaolhmhdjldaaDoor.AgeC Go.Proofs.YtmmaolhmhdjldaaDoor.RefTW

/-- What the last region holds throughout. -/
structure LS (w : World) (b0 b1 b2 : Nat) (n c x y : Int) (v : World) : Prop where
  env : Env v
  below : Below w.heap.size w v
  t0 : Two b0 n c v
  t1 : Two b1 x y v
  t2 : Two b2 x y v
theorem LS.step {w : World} {b0 b1 b2 : Nat} {n c x y : Int} {v v' : World} (h : LS w b0 b1 b2 n c x y v) (hb : Below v.heap.size v v') : LS w b0 b1 b2 n c x y v' :=
  ⟨h.env.below hb, bstep h.below hb, h.t0.below hb, h.t1.below hb, h.t2.below hb⟩

def LSS (w : World) (b0 b1 b2 : Nat) (n c x y : Int) (v : World) : Prop :=
  v.cell? ⟨b0, 0, none⟩ = some (.int .i64 n) ∧ v.cell? ⟨b0, 1, none⟩ = some (.int .i64 c) ∧ v.cell? ⟨b1, 0, none⟩ = some (.int .i64 x) ∧ v.cell? ⟨b1, 1, none⟩ = some (.int .i64 y) ∧
  v.cell? ⟨b2, 0, none⟩ = some (.int .i64 x) ∧ v.cell? ⟨b2, 1, none⟩ = some (.int .i64 y) ∧ LS w b0 b1 b2 n c x y v
theorem LS.all {w : World} {b0 b1 b2 : Nat} {n c x y : Int} {v : World} (h : LS w b0 b1 b2 n c x y v) : LSS w b0 b1 b2 n c x y v := ⟨h.t0.c0, h.t0.c1, h.t1.c0, h.t1.c1, h.t2.c0, h.t2.c1, h⟩
theorem LSS.step {w : World} {b0 b1 b2 : Nat} {n c x y : Int} {v v' : World} (hb : Below v.heap.size v v') (h : LSS w b0 b1 b2 n c x y v) : LSS w b0 b1 b2 n c x y v' := (h.2.2.2.2.2.2.step hb).all
theorem LSS.ls {w : World} {b0 b1 b2 : Nat} {n c x y : Int} {v : World} (h : LSS w b0 b1 b2 n c x y v) : LS w b0 b1 b2 n c x y v := h.2.2.2.2.2.2

set_option maxHeartbeats 4000000 in
theorem texts_walk (n c : Int) (s : ByteArray) (h1 : inI n) (h2 : inI c) (hs : s.size < 4294967281) (w : World) (E : Env w) :
    Calls Tryd.prog 4 #[.agg #[.int .i64 n, .int .i64 c], .string s] w fun e w' => e = .returned (.bool true) ∧ Below w.heap.size w w' := by
  have HE := Lib.hid E
  clear E
  have T0 := text_any n c h1 h2
  have U0 := reftext_any n c h1 h2
  have P0 := parse_any s hs
  have R0 := refparse_any s hs
  generalize (⟨(Lib.itoa n ++ [46] ++ Lib.itoa c).toArray⟩ : ByteArray) = tx at T0 U0
  generalize ansN s.data.toList = x at P0 R0
  generalize ansC s.data.toList = y at P0 R0
  generalize ansE s.data.toList = z at P0 R0
  have T := Lib.hid T0
  have U := Lib.hid U0
  have P := Lib.hid P0
  have R := Lib.hid R0
  clear T0 U0 P0 R0
  go_enter Tryd.func4, Tryd.ntmps4
  go_wp2_with fail
  have E0 := Lib.hid (HE.out.below ((Below.refl _ _).alloc (Nat.le_refl _) (.cells #[.int .i64 n, .int .i64 c] 23)))
  have D0 := Lib.hid (Two.new w n c 23)
  refine (P.out _ E0.out).mono ?_
  rintro e w1 ⟨rfl, hb1⟩
  have al := (Below.refl w1.heap.size w1).alloc (Nat.le_refl _) (.cells #[.int .i64 x, .int .i64 y] 23)
  have E1 := Lib.hid ((E0.out.below hb1).below al)
  have B1 := Lib.hid (bstep (bstep ((Below.refl w.heap.size w).alloc (Nat.le_refl _) _) hb1) al)
  have D1 := Lib.hid ((D0.out.below hb1).below al)
  have F1 := Lib.hid (Two.new w1 x y 23)
  clear hb1 al E0 D0
  go_wp2_with fail
  refine (R.out _).mono ?_
  rintro e w2 ⟨rfl, hb2⟩
  have al := (Below.refl w2.heap.size w2).alloc (Nat.le_refl _) (.cells #[.int .i64 x, .int .i64 y] 23)
  have L := Lib.hid (show LS w w.heap.size w1.heap.size w2.heap.size n c x y (w2.alloc (.cells #[.int .i64 x, .int .i64 y] 23)) from ⟨(E1.out.below hb2).below al, bstep (bstep B1.out hb2) al, (D1.out.below hb2).below al, (F1.out.below hb2).below al, Two.new w2 x y 23⟩)
  clear hb2 al E1 B1 D1 F1
  go_wp2_with fail
  go_region_held3 (fun v => v.cell? ⟨w.heap.size, 0, none⟩ = some (.int .i64 n) ∧ v.cell? ⟨w.heap.size, 1, none⟩ = some (.int .i64 c) ∧ v.cell? ⟨w1.heap.size, 0, none⟩ = some (.int .i64 x) ∧ v.cell? ⟨w1.heap.size, 1, none⟩ = some (.int .i64 y) ∧
      v.cell? ⟨w2.heap.size, 0, none⟩ = some (.int .i64 x) ∧ v.cell? ⟨w2.heap.size, 1, none⟩ = some (.int .i64 y) ∧ LS w w.heap.size w1.heap.size w2.heap.size n c x y v)
    (first | assumption | (apply LSS.step (w := w) (b0 := w.heap.size) (b1 := w1.heap.size) (b2 := w2.heap.size) (n := n) (c := c) (x := x) (y := y) <;> assumption) | exact (L.out.step (Below.refl _ _).drew).all)
    (first
      | (go_at_call_of 14 (Value.agg #[.int .i64 n, .int .i64 c]); refine (T.out _ ?_ ?_).mono ?_; (refine (LSS.ls (w := w) (n := n) (c := c) (x := x) (y := y) (b0 := w.heap.size) (b1 := w1.heap.size) (b2 := w2.heap.size) ?_).env.tab; assumption); (refine (LSS.ls (w := w) (n := n) (c := c) (x := x) (y := y) (b0 := w.heap.size) (b1 := w1.heap.size) (b2 := w2.heap.size) ?_).env.size; assumption); rintro e w' ⟨rfl, hb⟩)
      | (go_at_call_of 15 (Value.agg #[.int .i64 n, .int .i64 c]); refine (U.out _ ?_ ?_).mono ?_; (refine (LSS.ls (w := w) (n := n) (c := c) (x := x) (y := y) (b0 := w.heap.size) (b1 := w1.heap.size) (b2 := w2.heap.size) ?_).env.tab; assumption); (refine (LSS.ls (w := w) (n := n) (c := c) (x := x) (y := y) (b0 := w.heap.size) (b1 := w1.heap.size) (b2 := w2.heap.size) ?_).env.size; assumption); rintro e w' ⟨rfl, hb⟩)
      | (go_at_call_of 9 (Value.int .i64 z); refine (num_any z _).mono ?_; rintro e w' ⟨rfl, rfl⟩))
  all_goals
    go_wp2
    go_ret
    exact ⟨rfl, (LSS.ls (w := w) (n := n) (c := c) (x := x) (y := y) (b0 := w.heap.size) (b1 := w1.heap.size) (b2 := w2.heap.size) (by assumption)).below⟩

theorem texts_laid (n c : Int) (s : ByteArray) (h1 : (Lit.int .i64 n).wf = true) (h2 : (Lit.int .i64 c).wf = true) {P : Prop} (_h3 : P) (w : World) (E : Env w) (hs : s.size < 4294967281) :
    Calls Tryd.prog 4 #[.agg #[.int .i64 n, .int .i64 c], .string s] w fun e w' => e = .returned (.bool true) ∧ Below w.heap.size w w' :=
  texts_walk n c s (inI_of h1) (inI_of h2) hs w E
end Go.Proofs.YtmmaolhmhdjldaaDoor.AgeW
