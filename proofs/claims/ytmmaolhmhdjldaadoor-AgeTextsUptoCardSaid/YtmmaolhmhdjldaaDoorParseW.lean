/- age.number and age.Parse, walked. -/
import Derived.Test.YtmmaolhmhdjldaaDoorCutP
import Derived.Test.YtmmaolhmhdjldaaDoorNextW
namespace Go.Proofs.YtmmaolhmhdjldaaDoor.AgeW
open Go.RowKit Go.Proofs.YtmmaolhmhdjldaaDoor.NT Go.Proofs.YtmmaolhmhdjldaaDoor.AgeC

/-- What the variables of Go's library hold. -/
structure Env (w : World) : Prop where
  tab : Tab w
  ml : ∃ m, w.cell? ⟨0, 0, none⟩ = some (.int .i64 m)
  es : ∃ t p, w.cell? ⟨1, 0, none⟩ = some (.iface t p)
  er : ∃ t p, w.cell? ⟨2, 0, none⟩ = some (.iface t p)

theorem Env.size {w : World} (h : Env w) : 4 ≤ w.heap.size := h.tab.size
theorem Env.below {w w' : World} (h : Env w) (hb : Below w.heap.size w w') : Env w' := by
  have hs := h.size
  obtain ⟨h1, ⟨m, h2⟩, ⟨t3, p3, h3⟩, ⟨t4, p4, h4⟩⟩ := h
  exact ⟨tab_below h1 hb hs, ⟨m, by rw [hb.cell (p := ⟨0, 0, none⟩) (by show 0 < _; omega)]; exact h2⟩, ⟨t3, p3, by rw [hb.cell (p := ⟨1, 0, none⟩) (by show 1 < _; omega)]; exact h3⟩, ⟨t4, p4, by rw [hb.cell (p := ⟨2, 0, none⟩) (by show 2 < _; omega)]; exact h4⟩⟩

/-- Atoi at every text: the number beside the error, and whether there is one. -/
theorem atoi_any (s : ByteArray) (hs : s.size ≤ 281474976710656) (w : World) (E : Env w) :
    Calls Tryd.prog 37 #[.string s] w fun e w' => (∃ ev : Value, e = .returned (.tuple #[.int .i64 (numVal s.data.toList), ev]) ∧ ((ev = .nilIface ∧ Lib.atoiAll s.data.toList = .ok (numVal s.data.toList)) ∨ (∃ t p, ev = .iface t p) ∧ parse s.data.toList = none)) ∧ Below w.heap.size w w' := by
  obtain ⟨t3, p3, h3⟩ := E.es
  obtain ⟨t4, p4, h4⟩ := E.er
  rcases h : Lib.atoiAll s.data.toList with v | _ | _
  · refine (Tryd.strconv_Atoi_ok s (by omega) v h w).mono ?_
    rintro e w' ⟨rfl, hw⟩
    have hv : numVal s.data.toList = v := by unfold numVal; rw [h]
    rw [hv]
    refine ⟨⟨_, rfl, Or.inl ⟨rfl, rfl⟩⟩, ?_⟩
    rcases hw with rfl | ⟨t, rfl⟩
    · exact Below.refl _ _
    · exact Lib.bytesWorld_below _ _ _
  all_goals
    have hp : parse s.data.toList = none := by rw [parse_atoi, h]
  · refine (Any.strconv_Atoi_syntax Tryd.laysC172 s hs h _ w h3 (Or.inr ⟨_, _, rfl⟩)).mono ?_
    rintro e w' ⟨N, rfl, _, _, hb⟩
    have hv : numVal s.data.toList = 0 := by unfold numVal; rw [h]
    rw [hv]
    exact ⟨⟨_, rfl, Or.inr ⟨⟨_, _, rfl⟩, hp⟩⟩, hb⟩
  · refine (Tryd.strconv_Atoi_range s hs h _ w h4 (Or.inr ⟨_, _, rfl⟩)).mono ?_
    rintro e w' ⟨N, rfl, _, _, hb⟩
    have hv : numVal s.data.toList = Lib.atoiSat s.data.toList := by unfold numVal; rw [h]
    rw [hv]
    exact ⟨⟨_, rfl, Or.inr ⟨⟨_, _, rfl⟩, hp⟩⟩, hb⟩

theorem bytes_of (s : ByteArray) (l : List UInt8) (h : l = s.data.toList) : (⟨l.toArray⟩ : ByteArray) = s := by
  subst h
  cases s
  simp

theorem bytes_ne (s : ByteArray) (l : List UInt8) (h : ¬ l = s.data.toList) : ¬ (⟨l.toArray⟩ : ByteArray) = s := by
  intro e
  subst e
  simp at h

set_option maxHeartbeats 800000 in
theorem number_any (s : ByteArray) (hs : s.size ≤ 281474976710656) (w : World) (E : Env w) :
    Calls Tryd.prog 25 #[.string s] w fun e w' => e = .returned (.tuple #[.int .i64 (numVal s.data.toList), .bool (parse s.data.toList).isSome]) ∧ Below w.heap.size w w' := by
  have hbn := num_val_bounds s.data.toList
  have HE := Lib.hid E
  clear E
  have K := Lib.hid (atoi_any s hs)
  have hpa := Lib.hid (parse_atoi s.data.toList)
  generalize hn : numVal s.data.toList = n at K hbn ⊢
  generalize hb : (parse s.data.toList).isSome = b
  have hb := Lib.hid hb
  clear hn
  have I := Lib.hid (fun w h => itoa_any n hbn w h)
  have HB := Lib.hid hbn
  clear hbn
  go_enter Tryd.func25, Tryd.ntmps25
  go_wp2_with fail
  refine (K.out _ HE.out).mono ?_
  rintro e w1 ⟨⟨ev, rfl, hev⟩, hb1⟩
  have E1 := Lib.hid (HE.out.below hb1)
  have B1 := Lib.hid hb1
  clear hb1
  rcases hev with ⟨rfl, ha⟩ | ⟨⟨t, p, rfl⟩, ha⟩
  · have hx : b = (Lib.itoa n == s.toList) := by
      rw [← hb.out, hpa.out, ha, ByteArray.toList_eq]
      by_cases hq : Lib.itoa n = s.data.toList
      · simp [hq]
      · simp [hq]
    have hx := Lib.hid hx
    clear ha
    go_wp2_with fail
    refine (I.out _ E1.out.tab).mono ?_
    rintro e w2 ⟨rfl, hb2⟩
    have B2 := Lib.hid (bstep B1.out hb2)
    clear hb2
    go_wp2
    exact bodyPost_ret (v := .tuple #[.int .i64 n, .bool b]) (by simp [results, Tryd.results25, go_sem, hx.out]) rfl ⟨rfl, B2.out⟩
  · have hx : b = false := by rw [← hb.out, ha]; rfl
    subst hx
    clear ha
    go_wp2
    exact bodyPost_ret (v := .tuple #[.int .i64 n, .bool false]) (by simp [results, Tryd.results25, go_sem]) rfl ⟨rfl, B1.out⟩

theorem cut_any (s : ByteArray) (hs : s.size < 4294967281) (w : World) (E : Env w) :
    Calls Tryd.prog 24 #[.string s, .string ⟨#[46]⟩] w fun e w' => e = .returned (.tuple #[.string ⟨(Lib.cut s.data.toList [46]).1.toArray⟩, .string ⟨(Lib.cut s.data.toList [46]).2.1.toArray⟩, .bool (Lib.cut s.data.toList [46]).2.2]) ∧ Below w.heap.size w w' := by
  obtain ⟨m, hm⟩ := E.ml
  refine (Tryd.strings_Cut s ⟨#[46]⟩ m w hs hm).mono ?_
  rintro e w' ⟨rfl, n, rfl⟩
  exact ⟨rfl, below_drewN (Below.refl _ _) n⟩

/-- Two cells of a block that may be written. -/
structure Own2 (b : Nat) (x y : Int) (w : World) : Prop where
  two : Two b x y w
  f0 : w.frozen? ⟨b, 0, none⟩ = false
  f1 : w.frozen? ⟨b, 1, none⟩ = false
theorem Own2.below {b : Nat} {x y : Int} {w w' : World} (h : Own2 b x y w) (hb : Below w.heap.size w w') : Own2 b x y w' :=
  ⟨h.two.below hb, by rw [hb.frozen (p := ⟨b, 0, none⟩) h.two.lt]; exact h.f0, by rw [hb.frozen (p := ⟨b, 1, none⟩) h.two.lt]; exact h.f1⟩
theorem Own2.new (w : World) (x y : Int) (t : TypeId) : Own2 w.heap.size x y (w.alloc (.cells #[.int .i64 x, .int .i64 y] t)) := ⟨Two.new w x y t, by simp [go_sem], by simp [go_sem]⟩

/-- What Parse answers. -/
def ansB (l : List UInt8) : Bool := twoB l && good (fstN l) (sndN l)
def ansE (l : List UInt8) : Int := if twoB l then (if good (fstN l) (sndN l) then 0 else 2) else 3
def ansN (l : List UInt8) : Int := if ansB l then fstN l else 0
def ansC (l : List UInt8) : Int := if ansB l then sndN l else 0

set_option maxHeartbeats 1600000 in
theorem parse_any (s : ByteArray) (hs : s.size < 4294967281) (w : World) (E : Env w) :
    Calls Tryd.prog 12 #[.string s] w fun e w' => e = .returned (.tuple #[.agg #[.int .i64 (ansN s.data.toList), .int .i64 (ansC s.data.toList)], .int .i64 (ansE s.data.toList)]) ∧ Below w.heap.size w w' := by
  have hl1 : (⟨(Lib.cut s.data.toList [46]).1.toArray⟩ : ByteArray).size ≤ 281474976710656 := by
    have h0 : s.data.toList.length = s.size := by rw [Lib.size_eq]
    have h1 : (Lib.cut s.data.toList [46]).1.length ≤ s.data.toList.length := by
      unfold Lib.cut
      split
      · simp only [List.length_take]; omega
      · exact Nat.le_refl _
    simp [ByteArray.size]
    omega
  have hl2 : (⟨(Lib.cut s.data.toList [46]).2.1.toArray⟩ : ByteArray).size ≤ 281474976710656 := by
    have h0 : s.data.toList.length = s.size := by rw [Lib.size_eq]
    have h1 : (Lib.cut s.data.toList [46]).2.1.length ≤ s.data.toList.length := by
      unfold Lib.cut
      split
      · simp
      · simp
    simp [ByteArray.size]
    omega
  have HE := Lib.hid E
  clear E
  have CU := cut_any s hs
  have N1 := number_any _ hl1
  have N2 := number_any _ hl2
  have hA : ansN s.data.toList = if twoB s.data.toList && good (fstN s.data.toList) (sndN s.data.toList) then fstN s.data.toList else 0 := rfl
  have hB : ansC s.data.toList = if twoB s.data.toList && good (fstN s.data.toList) (sndN s.data.toList) then sndN s.data.toList else 0 := rfl
  have hC : ansE s.data.toList = if twoB s.data.toList then (if good (fstN s.data.toList) (sndN s.data.toList) then 0 else 2) else 3 := rfl
  rw [hA, hB, hC]
  unfold twoB fstN sndN
  clear hA hB hC hl1 hl2
  simp only at N1 N2
  generalize Lib.cut s.data.toList [46] = r at CU N1 N2 ⊢
  obtain ⟨a, b, ok⟩ := r
  simp only at CU N1 N2 ⊢
  generalize numVal a = n at N1 ⊢
  generalize numVal b = c at N2 ⊢
  generalize (parse a).isSome = p at N1 ⊢
  generalize (parse b).isSome = q at N2 ⊢
  have CH0 := check_any n c
  generalize good n c = g at CH0 ⊢
  have CU := Lib.hid CU
  have N1 := Lib.hid N1
  have N2 := Lib.hid N2
  cases ok <;> cases p <;> cases q <;> cases g
  all_goals
    simp only [Bool.false_and, Bool.true_and, Bool.and_false, if_true, if_false, Bool.false_eq_true] at CH0 ⊢
    have CH := Lib.hid CH0
    clear CH0
    go_enter Tryd.func12, Tryd.ntmps12
    go_wp2_with fail
    have E0 := Lib.hid (HE.out.below ((Below.refl _ _).alloc (Nat.le_refl _) (.cells #[.int .i64 0, .int .i64 0] 23)))
    have D0 := Lib.hid (Own2.new w 0 0 23)
    refine (CU.out _ E0.out).mono ?_
    rintro e w1 ⟨rfl, hb1⟩
    have E1 := Lib.hid (E0.out.below hb1)
    have D1 := Lib.hid (D0.out.below hb1)
    have B1 := Lib.hid (bstep ((Below.refl w.heap.size w).alloc (Nat.le_refl _) _) hb1)
    clear hb1 E0 D0
    go_wp2_with fail
    refine (N1.out _ E1.out).mono ?_
    rintro e w2 ⟨rfl, hb2⟩
    have E2 := Lib.hid (E1.out.below hb2)
    have D2 := Lib.hid (D1.out.below hb2)
    have B2 := Lib.hid (bstep B1.out hb2)
    clear hb2 E1 D1 B1
    go_wp2_with fail
    refine (N2.out _ E2.out).mono ?_
    rintro e w3 ⟨rfl, hb3⟩
    have D3 := Lib.hid (D2.out.below hb3)
    have B3 := Lib.hid (bstep B2.out hb3)
    clear hb3 E2 D2 B2
    have d0 := D3.out.two.c0
    have d1 := D3.out.two.c1
    have dl := D3.out.two.lt
    have f0 := D3.out.f0
    have f1 := D3.out.f1
    go_wp2_with fail
    first
      | exact bodyPost_ret (v := .tuple #[.agg #[.int .i64 0, .int .i64 0], .int .i64 3]) (by simp [results, Tryd.results12, go_sem, d0, d1, dl]) rfl ⟨rfl, ((B3.out.setCell (p := ⟨w.heap.size, 0, none⟩) (Nat.le_refl _) _).setCell (p := ⟨w.heap.size, 1, none⟩) (Nat.le_refl _) _).alloc (by simp; omega) _⟩
      | (have B3' := Lib.hid (B3.out.alloc B3.out.size (.cells #[.int .i64 n, .int .i64 c] 23))
         have D3' := Lib.hid (D3.out.below ((Below.refl _ _).alloc (Nat.le_refl _) (.cells #[.int .i64 n, .int .i64 c] 23)))
         have T3 := Lib.hid (Two.new w3 n c 23)
         clear d0 d1 dl f0 f1
         refine (CH.out _).mono ?_
         rintro e w4 ⟨rfl, hb4⟩
         have D4 := Lib.hid (D3'.out.below hb4)
         have T4 := Lib.hid (T3.out.below hb4)
         have B4 := Lib.hid (bstep B3'.out hb4)
         clear hb4 B3' D3' T3 B3 D3
         have d0 := D4.out.two.c0
         have d1 := D4.out.two.c1
         have dl := D4.out.two.lt
         have f0 := D4.out.f0
         have f1 := D4.out.f1
         have t0 := T4.out.c0
         have t1 := T4.out.c1
         go_wp2
         first
           | exact bodyPost_ret (v := .tuple #[.agg #[.int .i64 0, .int .i64 0], .int .i64 2]) (by simp [results, Tryd.results12, go_sem, d0, d1]) rfl ⟨rfl, ((B4.out.setCell (p := ⟨w.heap.size, 0, none⟩) (Nat.le_refl _) _).setCell (p := ⟨w.heap.size, 1, none⟩) (Nat.le_refl _) _)⟩
           | exact bodyPost_ret (v := .tuple #[.agg #[.int .i64 n, .int .i64 c], .int .i64 0]) (by simp [results, Tryd.results12, go_sem, d0, d1]) rfl ⟨rfl, ((B4.out.setCell (p := ⟨w.heap.size, 0, none⟩) (Nat.le_refl _) _).setCell (p := ⟨w.heap.size, 1, none⟩) (Nat.le_refl _) _)⟩)
end Go.Proofs.YtmmaolhmhdjldaaDoor.AgeW
