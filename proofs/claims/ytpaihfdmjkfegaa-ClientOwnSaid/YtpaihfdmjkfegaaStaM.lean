/- plane.Order, walked; what it answers; sameInts, walked. -/
import Derived.Test.YtpaihfdmjkfegaaStaL
import Derived.Deep.RegionHeld3
namespace Go.Proofs.Ytpaihfdmjkfegaa.Sta
open Go.Shelf Go.RowKit Go.Lib Go.Sort Go.Proofs.Ytpaihfdmjkfegaa.Far Go.Proofs.Ytpaihfdmjkfegaa.FI Go.Proofs.Ytpaihfdmjkfegaa.PM

/-- A slice reads as these numbers. -/
def IntsIn (w : World) (B : Nat) (A : Option Addr) (l : List Int) : Prop :=
  0 < l.length → ∃ b o, A = some ⟨b, o, none⟩ ∧ b < B ∧ ∀ (i : Nat) (x : Int), l[i]? = some x → w.cell? ⟨b, o + i, none⟩ = some (.int .i64 x)
theorem IntsIn.below {w w' : World} {B : Nat} {A : Option Addr} {l : List Int} (h : IntsIn w B A l) (hb : Below B w w') : IntsIn w' B A l := fun hl => by
  obtain ⟨b, o, rfl, hB, hc⟩ := h hl
  exact ⟨b, o, rfl, hB, fun i x hx => (hb.cell (p := ⟨b, o + i, none⟩) hB).trans (hc i x hx)⟩
theorem IntsIn.more {w : World} {B B' : Nat} {A : Option Addr} {l : List Int} (h : IntsIn w B A l) (hb : B ≤ B') : IntsIn w B' A l := fun hl => by
  obtain ⟨b, o, rfl, hB, hc⟩ := h hl
  exact ⟨b, o, rfl, by omega, hc⟩

theorem refPt_err (n : Int) : (refPt n).2.2 = 0 ∨ (refPt n).2.2 = 2 := by
  unfold refPt ptAns
  split
  · exact .inr rfl
  · split
    · exact .inl rfl
    · exact .inr rfl
/-- How far a place of the list is. -/
def Fl (from_ : Int) (l : List Int) (i : Nat) : Int := farW (refPt from_).1 (refPt from_).2.1 (refPt (l[i]?.getD 0)).1 (refPt (l[i]?.getD 0)).2.1
def OrdOk (from_ : Int) (l : List Int) : Prop := (refPt from_).2.2 = 0 ∧ ∀ x ∈ l, (refPt x).2.2 = 0
/-- What Order answers. -/
def OrdAns (from_ : Int) (l : List Int) (r : List Nat) (e : Int) : Prop := (OrdOk from_ l ∧ e = 0 ∧ Sorted (Fl from_ l) l.length r) ∨ (¬ OrdOk from_ l ∧ e = 2 ∧ r = [])
theorem ordAns_one {from_ : Int} {l : List Int} {r r' : List Nat} {e e' : Int} (h : OrdAns from_ l r e) (h' : OrdAns from_ l r' e') : r = r' ∧ e = e' := by
  rcases h with ⟨h1, h2, h3⟩ | ⟨h1, h2, h3⟩ <;> rcases h' with ⟨q1, q2, q3⟩ | ⟨q1, q2, q3⟩
  · exact ⟨sorted_one h3 q3, by rw [h2, q2]⟩
  · exact absurd h1 q1
  · exact absurd q1 h1
  · exact ⟨by rw [h3, q3], by rw [h2, q2]⟩

/-- A row of the call's own reads as these numbers. -/
def Own (b : Nat) (w : World) (A : Option Addr) (r : List Nat) : Prop := 0 < r.length → ∃ O, A = some ⟨O, 0, none⟩ ∧ b ≤ O ∧ RowI w O r

/-- What Order's loop holds. -/
structure OrdS (w : World) (F : Nat → Int) (n i f V O : Nat) (v : World) : Prop where
  below : Below w.heap.size w v
  cV : v.cell? ⟨V, 0, none⟩ = some (.slice (some ⟨f, 0, none⟩) n n)
  lV : V < v.heap.size
  rf : v.rowIs f 3 n (fun j => if j < i then .int .i64 (F j) else .int .i64 0)
  rO : v.rowIs O 3 n (fun j => if j < i then .int .i64 (j : Int) else .int .i64 0)

theorem OrdS.put {w v : World} {F : Nat → Int} {n i f V O : Nat} (hf : w.heap.size ≤ f) (hO : w.heap.size ≤ O) (n1 : f ≠ V) (n2 : O ≠ V) (n3 : f ≠ O) (h : OrdS w F n i f V O v) :
    OrdS w F n (i + 1) f V O (((v.setCell ⟨f, i, none⟩ (.int .i64 (F i))).setCell ⟨O, i, none⟩ (.int .i64 (i : Int))).drew) := by
  refine ⟨((h.below.setCell (p := ⟨f, i, none⟩) hf _).setCell (p := ⟨O, i, none⟩) hO _).drew, ?_, by simpa using h.lV, ?_, ?_⟩
  · show ((v.setCell ⟨f, i, none⟩ _).setCell ⟨O, i, none⟩ _).cell? _ = _
    rw [World.cell?_setCell_other _ _ _ _ (by intro e; simp only [Addr.mk.injEq] at e; exact n2 e.1), World.cell?_setCell_other _ _ _ _ (by intro e; simp only [Addr.mk.injEq] at e; exact n1 e.1)]
    exact h.cV
  · refine (((h.rf.set i _).setOther (a := ⟨O, i, none⟩) n3 _).drew).congr fun j _ => ?_
    by_cases e : j = i
    · subst e; rw [if_pos rfl, if_pos (by omega)]
    · rw [if_neg e]
      by_cases c : j < i
      · rw [if_pos c, if_pos (by omega)]
      · rw [if_neg c, if_neg (by omega)]
  · refine (((h.rO.setOther (a := ⟨f, i, none⟩) (fun e => n3 e.symm) _).set i _).drew).congr fun j _ => ?_
    by_cases e : j = i
    · subst e; rw [if_pos rfl, if_pos (by omega)]
    · rw [if_neg e]
      by_cases c : j < i
      · rw [if_pos c, if_pos (by omega)]
      · rw [if_neg c, if_neg (by omega)]

theorem OrdS.start (w : World) (F : Nat → Int) (n : Nat) :
    OrdS w F n 0 w.heap.size (w.heap.size + 1) (w.heap.size + 1 + 1) (((w.alloc (.cells (madeCells #[.int .i64 0] n) 3)).alloc (.cells #[.slice (some ⟨w.heap.size, 0, none⟩) n n] 23)).alloc (.cells (madeCells #[.int .i64 0] n) 3)) := by
  have e2 : ((w.alloc (.cells (madeCells #[.int .i64 0] n) 3)).alloc (.cells #[.slice (some ⟨w.heap.size, 0, none⟩) n n] 23)).heap.size = w.heap.size + 1 + 1 := by simp
  have hO := World.rowIs_made ((w.alloc (.cells (madeCells #[.int .i64 0] n) 3)).alloc (.cells #[.slice (some ⟨w.heap.size, 0, none⟩) n n] 23)) (.int .i64 0) n 3
  rw [e2] at hO
  refine ⟨(((Below.refl _ _).alloc (Nat.le_refl _) _).alloc (by simp) _).alloc (by simp; omega) _, ?_, by simp, ?_, ?_⟩
  · simp [go_sem]
  · exact (((World.rowIs_made w (.int .i64 0) n 3).alloc _).alloc _).congr fun j _ => by rw [if_neg (by omega)]
  · exact hO.congr fun j _ => by rw [if_neg (by omega)]

theorem info3 : (Try.prog.info? 3).map (fun i => (i.zero, i.size, i.bytes)) = some (some (.int .i64 0), 1, 8) := by kernel_rfl
theorem Fl_eq (from_ : Int) (l : List Int) (i : Nat) (x : Int) (h : l[i]? = some x) : farW (refPt from_).1 (refPt from_).2.1 (refPt x).1 (refPt x).2.1 = Fl from_ l i := by
  unfold Fl
  rw [h]
  rfl

set_option maxRecDepth 100000 in
set_option maxHeartbeats 3200000 in
theorem order_any (from_ : Int) (l : List Int) (A : Option Addr) (cap : Nat) (w : World) (hR : IntsIn w w.heap.size A l) (hl : l.length ≤ 10000) :
    Calls Try.prog 21 #[.int .i64 from_, .slice A l.length cap] w fun e w' => ∃ A' c' r er, e = .returned (.tuple #[.slice A' r.length c', .int .i64 er]) ∧ OrdAns from_ l r er ∧ Own w.heap.size w' A' r ∧ Below w.heap.size w w' := by
  have HR := Lib.hid hR
  obtain ⟨n, hn⟩ : ∃ n, n = l.length := ⟨_, rfl⟩
  have HN := Lib.hid hn
  rw [← hn]
  rw [← hn] at hl
  clear hR hn
  rcases refPt_err from_ with h0 | h2
  · have H0 := Lib.hid h0
    obtain ⟨X, hX⟩ : ∃ X, X = (refPt from_).1 := ⟨_, rfl⟩
    obtain ⟨Y, hY⟩ : ∃ Y, Y = (refPt from_).2.1 := ⟨_, rfl⟩
    have PA := Lib.hid (fun w => show Calls Try.prog 25 #[.int .i64 from_] w fun e w' => ∃ b1 b2, e = .returned (.tuple #[.complex .f64 b1 b2, .int .i64 0]) ∧ (Rep b1 X ∧ Rep b2 Y) ∧ w = w' from (point_any from_ w).mono (by
      rintro e w' ⟨b1, b2, r1, r2, he, hw⟩
      rw [h0] at he
      exact ⟨b1, b2, he, ⟨by rw [hX]; exact r1, by rw [hY]; exact r2⟩, hw⟩))
    have BX : Hid ((-1024 ≤ X ∧ X ≤ 1024) ∧ (-1024 ≤ Y ∧ Y ≤ 1024)) := by rw [hX, hY]; exact refPt_bounds from_
    have FX : Hid (∀ (i : Nat) (x : Int), l[i]? = some x → farW X Y (refPt x).1 (refPt x).2.1 = Fl from_ l i) := by rw [hX, hY]; exact fun i x h => Fl_eq from_ l i x h
    obtain ⟨F, hF⟩ : ∃ F, F = Fl from_ l := ⟨_, rfl⟩
    rw [← hF] at FX
    have HF := Lib.hid hF
    clear h0 hX hY hF
    have mk := fun w => run_make_row' (P := Try.prog) 23 3 (.int .i64 0) 8 Try.underlying23 info3 rfl .i64 .i64 n (by omega) (by omega) w
    have S0 := Lib.hid (OrdS.start w F n)
    go_enter Try.func21, Try.ntmps21
    go_wp2_with fail
    refine (PA.out _).mono ?_
    rintro e w1 ⟨b1, b2, rfl, hr, rfl⟩
    have R := Lib.hid hr
    clear hr PA
    go_wp2_with fail
    clear mk
    generalize ((w.alloc (.cells (madeCells #[.int .i64 0] n) 3)).alloc (.cells #[.slice (some ⟨w.heap.size, 0, none⟩) n n] 23)).alloc (.cells (madeCells #[.int .i64 0] n) 3) = W at S0 ⊢
    obtain ⟨f, hf⟩ : ∃ f, f = w.heap.size := ⟨_, rfl⟩
    rw [← hf] at S0 ⊢
    have hf1 : w.heap.size ≤ f := by omega
    clear hf
    go_loopg [30] n (fun gk v30 wr => ∃ i : Nat, n - i = gk ∧ i ≤ n ∧ v30 = .int .i64 i ∧ Hid (OrdS w F n i f (f + 1) (f + 1 + 1) wr) ∧ Hid (∀ k x, k < i → l[k]? = some x → (refPt x).2.2 = 0))
    case atStart => exact ⟨0, rfl, by omega, rfl, S0, fun k x hk => by omega⟩
    case round =>
      clear S0
      obtain ⟨i, hg, hi, rfl, S1, HK⟩ := hrel
      by_cases hlt : i < n
      · have hlt' : (i : Int) < (n : Int) := by omega
        obtain ⟨b, o, rfl, hb, hc⟩ := HR.out (by rw [← HN.out]; omega)
        obtain ⟨x, hx⟩ : ∃ x, l[i]? = some x := ⟨_, List.getElem?_eq_getElem (by rw [← HN.out]; exact hlt)⟩
        have cx : wr.cell? ⟨b, o + i, none⟩ = some (.int .i64 x) := (S1.out.below.cell (p := ⟨b, o + i, none⟩) hb).trans (hc i x hx)
        have HX := Lib.hid hx
        clear hx hc
        rcases refPt_err x with h0 | h2
        · as_aux_lemma =>
          obtain ⟨U, hU⟩ : ∃ X, X = (refPt x).1 := ⟨_, rfl⟩
          obtain ⟨V, hV⟩ : ∃ Y, Y = (refPt x).2.1 := ⟨_, rfl⟩
          have PX := Lib.hid (fun w => show Calls Try.prog 25 #[.int .i64 x] w fun e w' => ∃ b1 b2, e = .returned (.tuple #[.complex .f64 b1 b2, .int .i64 0]) ∧ (Rep b1 U ∧ Rep b2 V) ∧ w = w' from (point_any x w).mono (by
            rintro e w' ⟨b1, b2, r1, r2, he, hw⟩
            rw [h0] at he
            exact ⟨b1, b2, he, ⟨by rw [hU]; exact r1, by rw [hV]; exact r2⟩, hw⟩))
          have BU : Hid ((-1024 ≤ U ∧ U ≤ 1024) ∧ (-1024 ≤ V ∧ V ≤ 1024)) := by rw [hU, hV]; exact refPt_bounds x
          have FU : Hid (farW X Y U V = F i) := by rw [hU, hV]; exact FX.out i x HX.out
          have H0 := Lib.hid h0
          clear h0 hU hV
          go_wp2_with fail
          refine (PX.out _).mono ?_
          rintro e w1 ⟨c1, c2, rfl, hq, rfl⟩
          have Q := Lib.hid hq
          clear hq PX cx
          have G1 := Lib.hid (fun w => far_rep (w := w) R.out.1 R.out.2 Q.out.1 Q.out.2 BX.out.1 BX.out.2 BU.out.1 BU.out.2)
          rw [FU.out] at G1
          have cV := S1.out.cV
          have g0 := S1.out.rf.cell hlt
          have o0 := S1.out.rO.cell hlt
          have gz := S1.out.rf.frozen i
          have oz := S1.out.rO.frozen i
          rw [if_neg (Nat.lt_irrefl i)] at g0 o0
          go_wp2_with fail
          go_region_with ((go_at_call 33; refine (G1.out _).mono ?_; rintro e w' ⟨rfl, rfl⟩))
          all_goals
            clear cV g0 o0 gz oz
            go_wp2
            go_roundg (n - (i + 1))
            case measure => omega
            case rel =>
              refine ⟨i + 1, rfl, by omega, by go_num, S1.out.put (by omega) (by omega) (by omega) (by omega) (by omega), fun k y hk hy => ?_⟩
              rcases Nat.lt_or_ge k i with c | c
              · exact HK.out k y c hy
              · obtain rfl : k = i := by omega
                have := HX.out
                rw [hy] at this
                cases this
                exact H0.out
        · as_aux_lemma =>
          have H2 := Lib.hid h2
          have PX := Lib.hid (fun w => show Calls Try.prog 25 #[.int .i64 x] w fun e w' => ∃ b1 b2, e = .returned (.tuple #[.complex .f64 b1 b2, .int .i64 2]) ∧ w = w' from (point_any x w).mono (by
            rintro e w' ⟨b1, b2, r1, r2, he, hw⟩
            rw [h2] at he
            exact ⟨b1, b2, he, hw⟩))
          clear h2
          go_wp2_with fail
          refine (PX.out _).mono ?_
          rintro e w1 ⟨c1, c2, rfl, rfl⟩
          go_wp2
          refine bodyPost_ret (v := .tuple #[.slice none 0 0, .int .i64 2]) (by simp [results, Try.results21, go_sem]) rfl ⟨none, 0, [], 2, rfl, .inr ⟨fun hok => ?_, rfl, rfl⟩, fun h => absurd h (by simp), S1.out.below⟩
          have := hok.2 x (List.mem_of_getElem? HX.out)
          rw [H2.out] at this
          cases this
      · obtain rfl : i = n := by omega
        have hnn : decide ((i : Int) < (i : Int)) = false := decide_eq_false (by omega)
        have OK : Hid (OrdOk from_ l) := by
          refine ⟨H0.out, fun x hx => ?_⟩
          obtain ⟨k, hk⟩ := List.getElem?_of_mem hx
          exact HK.out k x (by rw [HN.out]; exact (List.getElem?_eq_some_iff.1 hk).1) hk
        rcases Nat.eq_zero_or_pos i with hz | hp
        · subst hz
          as_aux_lemma =>
          go_wp2_with fail
          refine (sort_none (f + 1 + 1) 0 _ _).mono ?_
          rintro e w1 ⟨rfl, rfl⟩
          go_wp2
          refine bodyPost_ret (v := .tuple #[.slice (some ⟨f + 1 + 1, 0, none⟩) 0 0, .int .i64 0]) (by simp [results, Try.results21, go_sem]) rfl ⟨_, 0, [], 0, rfl, .inl ⟨OK.out, rfl, ?_⟩, fun h => absurd h (by simp), S1.out.below⟩
          rw [← HN.out]
          exact ⟨List.Perm.refl _, List.Pairwise.nil⟩
        · as_aux_lemma =>
          have T0 := order_sort i hp (by omega) F (f + 1) f (f + 1 + 1) wr S1.out.lV (by omega) (by omega) S1.out.cV (S1.out.rf.congr fun j hj => by rw [if_pos hj]) (S1.out.rO.congr fun j hj => by rw [if_pos hj])
          have T := Lib.hid T0
          clear T0
          go_wp2_with fail
          refine T.out.mono ?_
          rintro e w2 ⟨rfl, r, hS, hI, hG⟩
          have HS := Lib.hid hS
          have HI := Lib.hid hI
          have BB := Lib.hid (S1.out.below.grown hG S1.out.below.size (fun j hj => by cases hj; omega))
          have hlen := hS.length
          clear hS hI hG T
          go_wp2
          refine bodyPost_ret (v := .tuple #[.slice (some ⟨f + 1 + 1, 0, none⟩) i i, .int .i64 0]) (by simp [results, Try.results21, go_sem]) rfl ⟨_, i, r, 0, by rw [hlen], .inl ⟨OK.out, rfl, ?_⟩, fun _ => ⟨_, rfl, by omega, HI.out⟩, BB.out⟩
          rw [← HF.out, ← HN.out]
          exact HS.out
  · have PA := Lib.hid (fun w => show Calls Try.prog 25 #[.int .i64 from_] w fun e w' => ∃ b1 b2, e = .returned (.tuple #[.complex .f64 b1 b2, .int .i64 2]) ∧ w = w' from (point_any from_ w).mono (by
      rintro e w' ⟨b1, b2, r1, r2, he, hw⟩
      rw [h2] at he
      exact ⟨b1, b2, he, hw⟩))
    have H2 := Lib.hid h2
    clear h2
    go_enter Try.func21, Try.ntmps21
    go_wp2_with fail
    refine (PA.out _).mono ?_
    rintro e w1 ⟨b1, b2, rfl, rfl⟩
    go_wp2
    refine bodyPost_ret (v := .tuple #[.slice none 0 0, .int .i64 2]) (by simp [results, Try.results21, go_sem]) rfl ⟨none, 0, [], 2, rfl, .inr ⟨fun hok => ?_, rfl, rfl⟩, fun h => absurd h (by simp), Below.refl _ _⟩
    have := hok.1
    rw [H2.out] at this
    cases this
end Go.Proofs.Ytpaihfdmjkfegaa.Sta
