/- The law PlaneOrders, walked. -/
import Derived.Test.YtmmaolhmhdjldaaStaO
import Derived.WideShapes
import Derived.ChangeArms
import Derived.Deep.Slices
import Derived.OpenShut
namespace Go.Proofs.Ytmmaolhmhdjldaa.Sta
open Go.Shelf Go.RowKit Go.Lib Go.Sort Go.Proofs.Ytmmaolhmhdjldaa.Far Go.Proofs.Ytmmaolhmhdjldaa.Rd

def zV (x : Int) : Value := .int .i64 x
theorem zV_one (l : List Int) : ∀ u ∈ l.map zV, u.oneCell' = true := by
  intro u hu
  obtain ⟨x, _, rfl⟩ := List.mem_map.1 hu
  rfl
theorem IntsIn.reads {w : World} {B : Nat} {A : Option Addr} {l : List Int} (h : IntsIn w B A l) : Reads w B 1 A l.length (l.map zV) := by
  refine ⟨by simp, fun hl => ?_⟩
  obtain ⟨b, o, rfl, hb, hc⟩ := h hl
  refine ⟨_, rfl, hb, fun j u hu => ?_⟩
  rw [List.getElem?_map] at hu
  cases hx : l[j]? with
  | none => rw [hx] at hu; cases hu
  | some x =>
    rw [hx] at hu
    cases hu
    rw [Addr.add_lit]
    exact hc j x hx

/-- All but one block is as it was. -/
theorem IntsIn.past {w w' : World} {B O : Nat} {A : Option Addr} {l : List Int} (h : IntsIn w B A l) (hB : B ≤ w.heap.size) (hg : w.grownBy w' (some O)) (hO : B ≤ O) : IntsIn w' B A l := fun hl => by
  obtain ⟨b, o, rfl, hb, hc⟩ := h hl
  refine ⟨b, o, rfl, hb, fun i x hx => (World.cell?_of_block (a := ⟨b, o + i, none⟩) (hg.block b (by omega) (fun e => by cases e; omega))).trans (hc i x hx)⟩
theorem IntsFrom.past {w w' : World} {lo O : Nat} {A : Option Addr} {l : List Int} (h : IntsFrom lo w A l) (hg : w.grownBy w' (some O)) (hO : O < lo) : IntsIn w' w'.heap.size A l := fun hl => by
  obtain ⟨b, o, rfl, h1, h2, hc⟩ := h hl
  refine ⟨b, o, rfl, Nat.lt_of_lt_of_le h2 hg.size, fun i x hx => (World.cell?_of_block (a := ⟨b, o + i, none⟩) (hg.block b h2 (fun e => by cases e; omega))).trans (hc i x hx)⟩
theorem IntsFrom.in_ {w : World} {lo : Nat} {A : Option Addr} {l : List Int} (h : IntsFrom lo w A l) : IntsIn w w.heap.size A l := fun hl => by
  obtain ⟨b, o, e, h1, h2, hc⟩ := h hl
  exact ⟨b, o, e, h2, hc⟩
theorem IntsFrom.below {w w' : World} {lo : Nat} {A : Option Addr} {l : List Int} (h : IntsFrom lo w A l) (hb : Below w.heap.size w w') : IntsFrom lo w' A l := fun hl => by
  obtain ⟨b, o, e, h1, h2, hc⟩ := h hl
  exact ⟨b, o, e, h1, Nat.lt_of_lt_of_le h2 hb.size, fun i x hx => (hb.cell (p := ⟨b, o + i, none⟩) h2).trans (hc i x hx)⟩
theorem Own.from_ {w : World} {lo : Nat} {A : Option Addr} {r : List Nat} (h : Own lo w A r) : IntsFrom lo w A (r.map (fun x : Nat => (x : Int))) := fun hl => by
  rw [List.length_map] at hl
  obtain ⟨O, e, h1, h2, hc⟩ := h hl
  refine ⟨O, 0, e, h1, h2, fun i x hx => ?_⟩
  rw [List.getElem?_map] at hx
  cases hy : r[i]? with
  | none => rw [hy] at hx; cases hx
  | some y =>
    rw [hy] at hx
    cases hx
    rw [Nat.zero_add]
    exact (hc i y hy).1
theorem own_ints {w : World} {base g n cap : Nat} {l : List Int} {xs : List Value} (h : w.ownsRow base 3 1 (.slice (some ⟨g, 0, none⟩) n cap) n (l.map zV ++ xs)) : IntsIn w w.heap.size (some ⟨g, 0, none⟩) l := fun _ => by
  refine ⟨g, 0, rfl, (own_bounds h).2.1, fun i x hx => ?_⟩
  have hi : i < (l.map zV).length := by rw [List.length_map]; exact (List.getElem?_eq_some_iff.1 hx).1
  have := h.cells (g := g) rfl i (zV x) (by rw [List.getElem?_append_left hi, List.getElem?_map, hx]; rfl)
  rw [Addr.add_lit] at this
  exact this
theorem grown_setCell (w : World) (O i : Nat) (u : Value) : w.grownBy (w.setCell ⟨O, i, none⟩ u) (some O) :=
  ⟨rfl, rfl, rfl, by simp, fun k _ hne => Below.heap_setCell w ⟨O, i, none⟩ u k (fun e => hne (by rw [e]))⟩

theorem IntsFrom.past' {w w' : World} {lo O : Nat} {A : Option Addr} {l : List Int} (h : IntsFrom lo w A l) (hg : w.grownBy w' (some O)) (hO : O < lo) : IntsFrom lo w' A l := fun hl => by
  obtain ⟨b, o, rfl, h1, h2, hc⟩ := h hl
  refine ⟨b, o, rfl, h1, Nat.lt_of_lt_of_le h2 hg.size, fun i x hx => (World.cell?_of_block (a := ⟨b, o + i, none⟩) (hg.block b h2 (fun e => by cases e; omega))).trans (hc i x hx)⟩
/-- What the law holds behind the calls. -/
structure LawF (w : World) (l : List Int) (A : Option Addr) (g lo lo2 k : Nat) (A1 A2 A3 : Option Addr) (rv : List Int) (v : World) : Prop where
  below : Below w.heap.size w v
  h1 : w.heap.size ≤ lo
  h2 : lo ≤ lo2
  h3 : lo2 ≤ v.heap.size
  c : IntsIn v lo (some ⟨g, 0, none⟩) l
  p : IntsIn v w.heap.size A l
  b : IntsFrom lo2 v A2 rv
  want : IntsFrom lo2 v A3 rv
  a : 0 < k → ∃ O, A1 = some ⟨O, 0, none⟩ ∧ lo ≤ O ∧ O < lo2 ∧ ∀ j, j < k → (∃ u, v.cell? ⟨O, j, none⟩ = some u) ∧ v.frozen? ⟨O, j, none⟩ = false
section
variable {w : World} {l : List Int} {A : Option Addr} {g lo lo2 k : Nat} {A1 A2 A3 : Option Addr} {rv : List Int} {v v' : World}
theorem LawF.step (h : LawF w l A g lo lo2 k A1 A2 A3 rv v) (hb : Below v.heap.size v v') : LawF w l A g lo lo2 k A1 A2 A3 rv v' := by
  have s := h.below.size
  refine ⟨h.below.trans (hb.mono s), h.h1, h.h2, Nat.le_trans h.h3 hb.size, h.c.below (hb.mono (Nat.le_trans h.h2 h.h3)), h.p.below (hb.mono s), h.b.below hb, h.want.below hb, fun hk => ?_⟩
  obtain ⟨O, e, h1, h2, h3⟩ := h.a hk
  have hO : O < v.heap.size := by have := h.h3; omega
  exact ⟨O, e, h1, h2, fun j hj => ⟨by rw [hb.cell (p := ⟨O, j, none⟩) hO]; exact (h3 j hj).1, by rw [hb.frozen (p := ⟨O, j, none⟩) hO]; exact (h3 j hj).2⟩⟩
theorem LawF.put (h : LawF w l A g lo lo2 k A1 A2 A3 rv v) {O i : Nat} (h1 : lo ≤ O) (h2 : O < lo2) (u : Value) : LawF w l A g lo lo2 k A1 A2 A3 rv (v.setCell ⟨O, i, none⟩ u) := by
  have hg := grown_setCell v O i u
  have s := h.below.size
  have q1 := h.h1
  have q2 := h.h2
  have q3 := h.h3
  refine ⟨h.below.setCell (p := ⟨O, i, none⟩) (by show _ ≤ O; omega) u, q1, q2, Nat.le_trans q3 hg.size, h.c.past (by omega) hg h1, h.p.past s hg (by omega), h.b.past' hg h2, h.want.past' hg h2, fun hk => ?_⟩
  obtain ⟨O', e, h1', h2', h3'⟩ := h.a hk
  refine ⟨O', e, h1', h2', fun j hj => ⟨?_, ?_⟩⟩
  · obtain ⟨x, hx⟩ := (h3' j hj).1
    by_cases e : (⟨O, i, none⟩ : Addr) = ⟨O', j, none⟩
    · rw [e]; exact ⟨u, World.cell?_setCell_same _ _ _ hx⟩
    · exact ⟨x, (World.cell?_setCell_other _ _ _ _ e).trans hx⟩
  · rw [World.frozen?_setCell]
    exact (h3' j hj).2
end

set_option maxRecDepth 100000 in
set_option maxHeartbeats 6400000 in
theorem orders_few (from_ : Int) (l : List Int) (A : Option Addr) (cap : Nat) (w : World) (hR : IntsIn w w.heap.size A l) (hl : l.length ≤ 1000) :
    Calls Try.prog 12 #[.int .i64 from_, .slice A l.length cap] w fun e w' => e = .returned (.bool true) ∧ Below w.heap.size w w' := by
  have HR := Lib.hid hR
  have ORD := Lib.hid (fun A cap w hR => order_any from_ l A cap w hR (by omega))
  have REF := Lib.hid (fun A cap w hR => refOrder_any from_ l A cap w hR (by omega))
  obtain ⟨n, hn⟩ : ∃ n, n = l.length := ⟨_, rfl⟩
  have HN := Lib.hid hn
  rw [← hn] at ORD REF ⊢
  rw [← hn] at hl
  clear hR hn
  obtain ⟨ti, hi0, hz0, hz1, hz2⟩ := info_parts info3
  have big : decide ((1000 : Int) < (n : Int)) = false := decide_eq_false (by omega)
  have B0 : Hid (Below w.heap.size w (w.alloc (.cells #[] 3))) := Lib.hid ((Below.refl _ _).alloc (Nat.le_refl _) _)
  have OWN0 : Hid ((w.alloc (.cells #[] 3)).ownsRow w.heap.size 3 1 (.slice (some ⟨w.heap.size, 0, none⟩) 0 0) 0 []) := Lib.hid (World.ownsRow_made w #[] 0 (Nat.le_refl _) (by unfold maxLen; omega) rfl)
  have RD : Hid (Reads (w.alloc (.cells #[] 3)) w.heap.size 1 A n (l.map zV)) := by rw [HN.out]; exact (HR.out.reads).below B0.out
  have OD := Lib.hid (zV_one l)
  have y1 : 0 + n ≤ maxLen := by unfold maxLen; omega
  have y2 : (0 + n) * 8 ≤ 140737488355328 := by omega
  have y3 : n + 1 ≤ maxLen := by unfold maxLen; omega
  have y4 : (n + 1) * 8 ≤ 140737488355328 := by omega
  have yb : w.heap.size ≤ (w.alloc (.cells #[] 3)).heap.size := B0.out.size
  go_enter Try.func12, Try.ntmps12
  go_upto_region 4 with (first
    | (have tokB := O2
       at_builtin
       refine wpList_append_lies _ rfl (.tmp 18) (.tmp 19) 71 rfl w.heap.size 3 ti (.int .i64 0) 1 8 Try.underlying71 hi0 hz0 hz1 hz2 rfl (by decide) _ n (l.map zV) rfl O2.out ⟨w1.heap.size, 0, none⟩ 1 1 [.int .i64 (-7)] rfl rfl (new_int w1 _) (one_int _) (by omega) y3 y4 B2.out.size _ rfl ?_
       intro g c5 w2 hown2 hg2 hat2 hlt2
       have O3 := Lib.hid hown2
       have B3 : Hid (Below w.heap.size w w2) := Lib.hid (B2.out.grown hg2 B2.out.size (fun j hj => (World.ownsRow.lt O2.out j hj).1))
       clear hown2 hg2 hat2 hlt2 tokB)
    | (at_builtin
       refine wpList_append_any _ rfl (.tmp 16) (.tmp 17) 71 rfl w.heap.size 3 ti (.int .i64 0) 1 8 Try.underlying71 hi0 hz0 hz1 hz2 rfl (by decide) _ 0 [] rfl OWN0.out w.heap.size A n cap (l.map zV) rfl RD.out OD.out y1 y2 yb ?_
       intro v18 w1 hown1 hg1 hat1
       rw [Nat.zero_add, List.nil_append] at hown1
       have B1 : Hid (Below w.heap.size w w1) := Lib.hid (B0.out.grown hg1 yb (fun j hj => by cases hj; exact Nat.le_refl _))
       have B2 : Hid (Below w.heap.size w (w1.alloc (.cells #[.int .i64 (-7)] 3))) := Lib.hid (B1.out.alloc B1.out.size _)
       have O2 : Hid ((w1.alloc (.cells #[.int .i64 (-7)] 3)).ownsRow w.heap.size 3 1 v18 n (l.map zV)) := Lib.hid (own_below hown1 ((Below.refl _ _).alloc (Nat.le_refl _) _))
       clear hown1 hg1 hat1))
  have hgb := own_bounds O3.out
  have hcn : (n : Int) ≤ (c5 : Int) := by omega
  have hcn2 : n ≤ c5 := by omega
  have CI := Lib.hid (own_ints O3.out)
  have cN : w2.cell? ⟨g, n, none⟩ = some (.int .i64 (-7)) := by
    have := O3.out.cells (g := g) rfl n (.int .i64 (-7)) (by rw [List.getElem?_append_right (by rw [List.length_map, ← HN.out]; exact Nat.le_refl _), List.length_map, ← HN.out, Nat.sub_self]; rfl)
    rwa [Addr.add_lit, Nat.zero_add] at this
  have CN := Lib.hid cN
  have HG : Hid (g < w2.heap.size) := Lib.hid hgb.2.1
  clear cN hgb O3 O2 B2 B1 OWN0 RD OD y1 y2 y3 y4 yb B0 hi0 hz0 hz1 hz2 ti
  go_wp2_with fail
  refine (ORD.out _ _ w2 CI.out).mono ?_
  rintro e w3 ⟨A1, c1, r, er, rfl, hA1, hO1, hb3⟩
  have HA1 := Lib.hid hA1
  have HO1 := Lib.hid hO1
  have B4 := Lib.hid hb3
  clear hA1 hO1 hb3
  go_wp2_with fail
  refine (ORD.out _ _ w3 ((CI.out.below B4.out).more B4.out.size)).mono ?_
  rintro e w4 ⟨A2, c2, r2, er2, rfl, hA2, hO2, hb4⟩
  obtain ⟨rfl, rfl⟩ := ordAns_one HA1.out hA2
  have HO2 := Lib.hid hO2
  have B5 := Lib.hid hb4
  have B6 : Hid (Below w.heap.size w w4) := Lib.hid ((B3.out.trans (B4.out.mono B3.out.size)).trans (B5.out.mono (Nat.le_trans B3.out.size B4.out.size)))
  clear hA2 hO2 hb4
  go_wp2_with fail
  refine (REF.out A cap w4 ((HR.out.below B6.out).more B6.out.size)).mono ?_
  rintro e w5 ⟨A3, c3, r3, er3, rfl, hA3, hI3, hb5⟩
  obtain ⟨rfl, rfl⟩ := ordAns_one HA1.out hA3
  obtain ⟨k, hk⟩ : ∃ k, k = r.length := ⟨_, rfl⟩
  have B7 := Lib.hid hb5
  have HI3 := Lib.hid hI3
  have HK := Lib.hid hk
  rw [← hk]
  clear hA3 hI3 hb5 hk ORD REF
  have kl : k < 100000 := by
    rcases HA1.out with ⟨_, _, h⟩ | ⟨_, _, h⟩
    · have := h.length; rw [HK.out]; rw [HN.out] at hl; omega
    · rw [HK.out, h]; simp
  have F5 : Hid (LawF w l A g w2.heap.size w3.heap.size k A1 A2 A3 (r.map (fun x : Nat => (x : Int))) w5) := by
    have s4 := B4.out.size
    have s5 := B5.out.size
    have s7 := B7.out.size
    refine ⟨B6.out.trans (B7.out.mono B6.out.size), B3.out.size, s4, Nat.le_trans s5 s7, ?_, HR.out.below (B6.out.trans (B7.out.mono B6.out.size)), (HO2.out.from_).below B7.out, ?_, fun hk => ?_⟩
    · exact CI.out.below ((B4.out.trans (B5.out.mono s4)).trans (B7.out.mono (Nat.le_trans s4 s5)))
    · intro hl
      obtain ⟨b, o, e, h1, h2, h3⟩ := HI3.out hl
      exact ⟨b, o, e, Nat.le_trans s5 h1, h2, h3⟩
    · obtain ⟨O, e, h1, h2, h3⟩ := HO1.out (by rw [← HK.out]; exact hk)
      refine ⟨O, e, h1, h2, fun j hj => ?_⟩
      have hj' : j < r.length := by rw [← HK.out]; exact hj
      have h4 := h3 j _ (List.getElem?_eq_getElem hj')
      have b57 := B5.out.trans (B7.out.mono s5)
      exact ⟨⟨_, (b57.cell (p := ⟨O, j, none⟩) h2).trans h4.1⟩, (b57.frozen (p := ⟨O, j, none⟩) h2).trans h4.2⟩
  have SA : Hid (∀ c c', Calls Try.prog 54 #[.slice A1 k c, .slice A3 k c'] w5 fun e w' => e = .returned (.bool true) ∧ ∃ q, w' = w5.drewN q) := Lib.hid (fun c c' => by
    have b57 := B5.out.trans (B7.out.mono B5.out.size)
    have := sameInts_any (r.map (fun x : Nat => (x : Int))) A1 A3 c c' w5.heap.size w5 ((HO1.out.from_.below b57).in_) F5.out.want.in_ (by rw [List.length_map, ← HK.out]; exact kl)
    rwa [List.length_map, ← HK.out] at this)
  have CN5 : Hid (w5.cell? ⟨g, n, none⟩ = some (.int .i64 (-7))) := Lib.hid (((B4.out.trans (B5.out.mono B4.out.size)).trans (B7.out.mono (Nat.le_trans B4.out.size B5.out.size))).cell (p := ⟨g, n, none⟩) HG.out |>.trans CN.out)
  generalize w2.heap.size = lo at F5 HG
  generalize w3.heap.size = lo2 at F5
  have SB : Hid (∀ v, LawF w l A g lo lo2 k A1 A2 A3 (r.map (fun x : Nat => (x : Int))) v → ∀ c c', Calls Try.prog 54 #[.slice A2 k c, .slice A3 k c'] v fun e w' => e = .returned (.bool true) ∧ ∃ q, w' = v.drewN q) := Lib.hid (fun v hv c c' => by
    have := sameInts_any (r.map (fun x : Nat => (x : Int))) A2 A3 c c' v.heap.size v hv.b.in_ hv.want.in_ (by rw [List.length_map, ← HK.out]; exact kl)
    rwa [List.length_map, ← HK.out] at this)
  have SC : Hid (∀ v, LawF w l A g lo lo2 k A1 A2 A3 (r.map (fun x : Nat => (x : Int))) v → ∀ c c', Calls Try.prog 54 #[.slice (some ⟨g, 0, none⟩) n c, .slice A n c'] v fun e w' => e = .returned (.bool true) ∧ ∃ q, w' = v.drewN q) := Lib.hid (fun v hv c c' => by
    have := sameInts_any l (some ⟨g, 0, none⟩) A c c' v.heap.size v (hv.c.more (Nat.le_trans hv.h2 hv.h3)) (hv.p.more hv.below.size) (by rw [← HN.out]; omega)
    rwa [← HN.out] at this)
  clear HI3 HO1 HO2 B7 B6 B5 B4 CI CN HR B3 w2 w3 w4
  go_wp2_with fail
  refine (num_any er _).mono ?_
  rintro e w6 ⟨rfl, rfl⟩
  go_wp2_with fail
  refine (SA.out _ _).mono ?_
  rintro e w6 ⟨rfl, q, rfl⟩
  have F6 := Lib.hid (F5.out.step (v' := w5.drewN q) ⟨rfl, rfl, rfl, Nat.le_refl _, fun _ _ => rfl⟩)
  have CN6 : Hid ((w5.drewN q).cell? ⟨g, n, none⟩ = some (.int .i64 (-7))) := CN5
  clear F5 SA CN5
  generalize w5.drewN q = W6 at F6 CN6 ⊢
  go_wp2_with fail
  refine (SB.out _ F6.out _ _).mono ?_
  rintro e w6 ⟨rfl, q2, rfl⟩
  have F7 := Lib.hid (F6.out.step (v' := W6.drewN q2) ⟨rfl, rfl, rfl, Nat.le_refl _, fun _ _ => rfl⟩)
  have CN7 : Hid ((W6.drewN q2).cell? ⟨g, n, none⟩ = some (.int .i64 (-7))) := CN6
  clear F6 CN6
  generalize W6.drewN q2 = W7 at F7 CN7 ⊢
  go_wp2_with fail
  refine (SC.out _ F7.out _ _).mono ?_
  rintro e w6 ⟨rfl, q3, rfl⟩
  have F8 := Lib.hid (F7.out.step (v' := W7.drewN q3) ⟨rfl, rfl, rfl, Nat.le_refl _, fun _ _ => rfl⟩)
  have cN : (W7.drewN q3).cell? ⟨g, n, none⟩ = some (.int .i64 (-7)) := CN7.out
  clear F7 CN7
  generalize W7.drewN q3 = W8 at F8 cN ⊢
  have nn1 : (n : Int) < (n : Int) + 1 := by omega
  go_wp2_with fail
  clear cN
  go_loopg [12] k (fun gk v12 wr => ∃ i : Nat, k - i = gk ∧ i ≤ k ∧ v12 = .int .i64 i ∧ Hid (LawF w l A g lo lo2 k A1 A2 A3 (r.map (fun x : Nat => (x : Int))) wr))
  case atStart => exact ⟨0, rfl, by omega, rfl, F8⟩
  case round =>
    clear F8
    obtain ⟨i, hg, hi, rfl, F9⟩ := hrel
    by_cases hlt : i < k
    · as_aux_lemma =>
      have hlt' : (i : Int) < (k : Int) := by omega
      obtain ⟨O, rfl, ho1, ho2, ho3⟩ := F9.out.a (by omega)
      obtain ⟨⟨u, cu⟩, cf⟩ := ho3 i hlt
      have F10 := Lib.hid (F9.out.put (i := i) ho1 ho2 (.int .i64 (-1)))
      clear ho3 F9
      go_wp2_with fail
      go_roundg (k - (i + 1))
      case measure => omega
      case rel => exact ⟨i + 1, rfl, by omega, by go_num, F10⟩
    · obtain rfl : i = k := by omega
      as_aux_lemma =>
      have hnn : decide ((i : Int) < (i : Int)) = false := decide_eq_false (by omega)
      go_wp2_with fail
      refine (SB.out _ F9.out _ _).mono ?_
      rintro e w6 ⟨rfl, q4, rfl⟩
      have F10 := Lib.hid (F9.out.step (v' := wr.drewN q4) ⟨rfl, rfl, rfl, Nat.le_refl _, fun _ _ => rfl⟩)
      clear F9
      generalize wr.drewN q4 = W10 at F10 ⊢
      go_wp2_with fail
      refine (SC.out _ F10.out _ _).mono ?_
      rintro e w6 ⟨rfl, q5, rfl⟩
      have F11 := Lib.hid (F10.out.step (v' := W10.drewN q5) ⟨rfl, rfl, rfl, Nat.le_refl _, fun _ _ => rfl⟩)
      clear F10
      go_wp2_with fail
      go_ret
      exact ⟨rfl, F11.out.below⟩

set_option maxRecDepth 100000 in
set_option maxHeartbeats 1600000 in
theorem orders_many (from_ : Int) (n : Nat) (A : Option Addr) (cap : Nat) (w : World) (hl : 1000 < n) :
    Calls Try.prog 12 #[.int .i64 from_, .slice A n cap] w fun e w' => e = .returned (.bool true) ∧ Below w.heap.size w w' := by
  have big : decide ((1000 : Int) < (n : Int)) = true := decide_eq_true (by omega)
  have big2 : (1000 : Int) < (n : Int) := by omega
  go_enter Try.func12, Try.ntmps12
  go_wp2_with fail
  go_ret
  exact ⟨rfl, Below.refl _ _⟩

set_option maxRecDepth 100000 in
/-- An argument's list of numbers. -/
theorem ints_open {H : Type} (enc : TypeId × Value → H) {v : Value} {d : DataW H} {p : List MemPlace} {base b0 : Nat} {r : Reach} {spare : Nat → Bool} {held : Bool} {w0 : World} (h : DataW.Trod enc Try.prog w0 base spare held 71 v d p) (hv : Value.okWide Try.prog w0 r b0 71 v) :
    ∃ (A : Option Addr) (l : List Int) (c : Nat), v = .slice A l.length c ∧ IntsIn w0 w0.heap.size A l := by
  obtain ⟨A0, l0, c0, rfl⟩ := Go.WideShapes.okWide_slice Try.underlying71 hv
  obtain ⟨fuel, h⟩ := h
  rcases Go.Deep.open_slice1 Try.underlying71 (by kernel_rfl) h with ⟨hc, _⟩ | ⟨a, len, cap, m, k, V, D, Pl, hc, _, hl, hm, hmm, _, hall⟩
  · have e : Value.slice A0 l0 c0 = .slice none 0 0 := by simpa [Value.cells] using hc
    exact ⟨none, [], 0, e, fun h => absurd h (by simp)⟩
  · have e : Value.slice A0 l0 c0 = .slice (some a) len cap := by simpa [Value.cells] using hc
    have hlm : len ≤ m := by rw [hmm]; split <;> omega
    obtain ⟨X, hX⟩ := Go.Deep.choose_lt (α := Int) (n := len) (p := fun i x => w0.cell? (a.add i) = some (.int .i64 x)) (fun i hi => by
      obtain ⟨h1, h2⟩ := hall i (by omega)
      obtain ⟨y0, e0, _, _⟩ := DataW.trod_int Try.underlying3 h2
      simp at e0
      rw [e0] at h1
      exact ⟨y0, h1⟩)
    refine ⟨some a, (List.range len).map X, cap, by rw [List.length_map, List.length_range]; exact e, fun hlen => ?_⟩
    rw [List.length_map, List.length_range] at hlen
    obtain ⟨ab, ao, sp⟩ := a
    have h0 := hX 0 hlen
    have hs : sp = none := by
      have e : (⟨ab, ao, sp⟩ : Addr).add 0 = ⟨ab, ao, sp⟩ := rfl
      rw [e] at h0
      unfold World.cell? at h0
      cases sp with
      | none => rfl
      | some z =>
        split at h0
        · simp at h0
        · cases h0
    subst hs
    refine ⟨ab, ao, rfl, World.block_lt_of_cell? w0 _ h0, fun i x hx => ?_⟩
    rw [List.getElem?_map] at hx
    by_cases hi : i < len
    · rw [List.getElem?_range hi] at hx
      cases hx
      have := hX i hi
      rwa [Addr.add_lit] at this
    · rw [List.getElem?_eq_none (by simpa using hi)] at hx
      cases hx

set_option maxRecDepth 100000 in
theorem orders_law {H : Type} (enc : TypeId × Value → H) (from_ : Int) (v : Value) (d : DataW H) (p : List MemPlace) {b0 base : Nat} {r : Reach} {spare : Nat → Bool} {held : Bool} (_hf : (Lit.int .i64 from_).wf = true) {w0 : World}
    (h : DataW.Trod enc Try.prog w0 base spare held 71 v d p) (o : Value.okWide Try.prog w0 r b0 71 v) (_lt : ∀ x ∈ p, x.block < w0.heap.size) :
    Calls Try.prog 12 #[.int .i64 from_, v] w0 fun e w' => e = .returned (.bool true) ∧ Below w0.heap.size w0 w' := by
  obtain ⟨A, l, c, rfl, hR⟩ := ints_open enc h o
  rcases Nat.lt_or_ge 1000 l.length with q | q
  · exact orders_many from_ _ A c w0 q
  · exact orders_few from_ l A c w0 hR q
end Go.Proofs.Ytmmaolhmhdjldaa.Sta
