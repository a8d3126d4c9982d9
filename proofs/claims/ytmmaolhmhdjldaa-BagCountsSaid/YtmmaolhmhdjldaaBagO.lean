/- BagCounts, walked: some acts. -/
import Derived.Test.YtmmaolhmhdjldaaBagL
import Derived.Deep.LoopGhost
import Derived.BigQuiet
import Derived.Deep.Cut
import Derived.Deep.RegionHeld3
import Derived.Deep.QuietTactic
namespace Go.Proofs.Ytmmaolhmhdjldaa.BagS
open Go.RowKit Go.Proofs.Ytmmaolhmhdjldaa.MapF Go.Maps Go.Proofs.Ytmmaolhmhdjldaa.Rd

/-- What is read of some acts: the kind, the number, the address. -/
def ActsB (w : World) (b o n : Nat) (X : Nat → Int × Int × Ad) : Prop :=
  ∀ i, i < n → w.cell? ⟨b, o + i * 30, none⟩ = some (.int .i64 (X i).1) ∧ w.cell? ⟨b, o + i * 30 + 27, none⟩ = some (.int .i64 (X i).2.1) ∧ w.cell? ⟨b, o + i * 30 + 28, none⟩ = some (.int .i64 (X i).2.2.1.1) ∧ w.cell? ⟨b, o + i * 30 + 29, none⟩ = some (.int .i64 (X i).2.2.1.2)
theorem ActsB.below {w w' : World} {b o n : Nat} {X : Nat → Int × Int × Ad} (h : ActsB w b o n X) (hb : b < w.heap.size) (hB : Below w.heap.size w w') : ActsB w' b o n X := fun i hi => by
  obtain ⟨h1, h2, h3, h4⟩ := h i hi
  exact ⟨(hB.cell (p := ⟨b, o + i * 30, none⟩) hb).trans h1, (hB.cell (p := ⟨b, o + i * 30 + 27, none⟩) hb).trans h2, (hB.cell (p := ⟨b, o + i * 30 + 28, none⟩) hb).trans h3, (hB.cell (p := ⟨b, o + i * 30 + 29, none⟩) hb).trans h4⟩
def RelA (n base p m : Nat) (w0 : World) (g : Nat) (v4 v5 : Value) (wr : World) : Prop :=
  ∃ (k : Nat) (A4 : Option Addr) (c4 : Nat) (M : List (Int × Ad)), k + g = n ∧ v4 = .slice A4 M.length c4 ∧ v5 = .int .i64 k ∧ St wr w0 base p m k A4 c4 M

def RelZ (l n p m : Nat) (A4 : Option Addr) (c4 : Nat) (M : List (Int × Ad)) (w0 : World) (g : Nat) (v10 : Value) (wr : World) : Prop := ∃ j : Nat, j + g = l ∧ v10 = .int .i64 j ∧ St wr w0 m p m n A4 c4 M
attribute [local go_sem ↓] loadMsg_eq storeMsg_eq buildMsg_eq
attribute [local go_sem] run_loadMsg run_storeMsg run_buildMsg

set_option maxRecDepth 100000 in
set_option maxHeartbeats 8000000 in
theorem counts_some (X : Nat → Int × Int × Ad) (b o n cap : Nat) (hn : n ≤ 200) (w : World) (hb : b < w.heap.size) (hA : ActsB w b o n X) :
    Calls Try.prog 11 #[.slice (some ⟨b, o, none⟩) n cap] w fun e w' => e = .returned (.bool true) ∧ Below w.heap.size w w' := by
  have big : decide ((200 : Int) < (n : Int)) = false := decide_eq_false (by omega)
  have WK := Lib.hid (works_bag w)
  have HA := Lib.hid hA
  obtain ⟨ti, hi0, hz0, hz1, hz2⟩ := info_parts info3
  clear hA
  go_enter Try.func11, Try.ntmps11
  go_wp2_with fail
  refine WK.out.mono ?_
  rintro e w1 ⟨rfl, hb1⟩
  have HB1 := Lib.hid hb1
  clear hb1 WK
  go_wp2_with fail
  refine (new_bag 256 w1).mono ?_
  rintro e W ⟨rfl, hB, hF, hbn⟩
  have S0 : Hid (St W w w1.heap.size (w1.heap.size + 1) w1.heap.size 0 none 0 []) := Lib.hid ⟨none, 0, _, 0, hB, ⟨rfl, .inl ⟨rfl, rfl⟩⟩, hF, Nat.le_refl _, Nat.le_refl _, HB1.out.trans (hbn.mono HB1.out.size), HB1.out.size⟩
  have hm0 : w.heap.size ≤ w1.heap.size := HB1.out.size
  clear hB hF hbn
  obtain ⟨p, hp⟩ : ∃ p, p = w1.heap.size + 1 := ⟨_, rfl⟩
  obtain ⟨m, hm⟩ : ∃ m, m = w1.heap.size := ⟨_, rfl⟩
  rw [← hp, ← hm] at S0
  rw [← hp]
  rw [← hm] at hm0
  clear hp hm HB1 w1
  go_wp2_with fail
  go_loopg [4, 5] n (RelA n m p m w)
  case atStart => exact ⟨0, none, 0, [], by omega, rfl, rfl, S0.out⟩
  case round =>
    clear S0
    obtain ⟨g1, hg1⟩ : ∃ x, x = gk := ⟨_, rfl⟩
    rw [← hg1] at hrel
    obtain ⟨k, A4, c4, M, hk, rfl, rfl, hS⟩ := hrel
    have HG1 := Lib.hid hg1
    have HS := Lib.hid hS
    clear hg1 hS
    obtain ⟨hBW, hMk, hM256⟩ := HS.out.big
    have BW := Lib.hid hBW
    clear hBW
    by_cases hkn : k < n
    · have hkn' : (k : Int) < (n : Int) := by omega
      obtain ⟨x0, x1, x2, x3⟩ := HA.out.below hb BW.out k hkn
      obtain ⟨⟨kd, nn, ⟨⟨a1, a2⟩, ha⟩⟩, hx⟩ : ∃ x, X k = x := ⟨_, rfl⟩
      rw [hx] at x0 x1 x2 x3
      have HXK := Lib.hid hx
      clear hx
      simp only at x0 x1 x2 x3
      have hM : M.length < 256 := by omega
      have hml : M.length + 1 ≤ maxLen := by unfold maxLen; omega
      rcases (show kd = 0 ∨ kd = 2 ∨ kd = 3 ∨ kd = 1 ∨ kd = 4 ∨ kd = 5 ∨ (kd ≠ 0 ∧ kd ≠ 1 ∧ kd ≠ 2 ∧ kd ≠ 3 ∧ kd ≠ 4 ∧ kd ≠ 5) by omega) with rfl | rfl | rfl | rfl | rfl | rfl | ⟨n0, n1, n2, n3, n4, n5⟩
      · as_aux_lemma =>
        have SN := Lib.hid (stSend HS.out hM (k : Int) ⟨(a1, a2), ha⟩)
        go_wp2_with fail
        refine (show Calls Try.prog 43 #[.pointer (some ⟨p, 0, none⟩), .agg #[.int .i64 0, .int .i64 a1, .int .i64 a2, .int .i64 0, .int .i64 0, .int .i64 0, .int .i64 0, .int .i64 0, .int .i64 0, .bool false, .slice none 0 0, .slice none 0 0, .int .i64 k, .int .i64 0, .int .i64 0, .int .i64 0, .string ⟨#[]⟩, .int .i64 0, .slice none 0 0, .slice none 0 0, .int .i64 0, .int .i64 0, .int .i64 0, .int .i64 0, .bool false, .string ⟨#[]⟩]] wr _ from SN.out).mono ?_
        rintro e w2 ⟨rfl, hM2⟩
        have HM2 := Lib.hid hM2
        have HM3 : Hid (StM (w2.alloc (.cells #[.int .i64 k] 3)) w m p m k A4 c4 M (M ++ [((k : Int), (⟨(a1, a2), ha⟩ : Ad))])) := Lib.hid (hM2.below ((Below.refl _ _).alloc (Nat.le_refl _) _))
        have OWN : Hid ((w2.alloc (.cells #[.int .i64 k] 3)).ownsRow w.heap.size 3 1 (.slice A4 M.length c4) M.length (M.map seqV)) := Lib.hid HM3.out.ints.1
        have hba : w.heap.size ≤ (w2.alloc (.cells #[.int .i64 k] 3)).heap.size := HM3.out.ints.2
        clear hM2 SN x0 x1 x2 x3
        go_wp2_with (at_builtin; refine wpList_append_lies _ rfl (.tmp 49) (.tmp 51) 71 rfl w.heap.size 3 ti (.int .i64 0) 1 8 Try.underlying71 hi0 hz0 hz1 hz2 rfl (by decide) _ M.length (M.map seqV) rfl OWN.out ⟨w2.heap.size, 0, none⟩ 1 1 [.int .i64 k] rfl rfl (new_int w2 _) (one_int _) (by omega) hml (by omega) hba _ rfl ?_; intro g' cap' w3 hown hgrow hat hlt)
        have FIN : Hid (_) := Lib.hid (HM3.out.done (k' := k + 1) (N := M ++ [((k : Int), (⟨(a1, a2), ha⟩ : Ad))]) (by rw [List.length_append, map_snoc]; exact hown) hgrow (by omega) (by rw [List.length_append]; simp; omega))
        clear hown hgrow hat hlt OWN HM2 HM3 hba
        go_wp2_with fail
        go_roundg (g1 - 1)
        case measure => have := HG1.out; omega
        case rel => exact ⟨k + 1, _, _, _, by omega, by rw [List.length_append]; rfl, by go_num, FIN.out⟩
      · rcases (show (0 ≤ nn ∧ nn < (M.length : Int)) ∨ nn < 0 ∨ (0 ≤ nn ∧ (M.length : Int) ≤ nn) by omega) with hr | hr | hr
        · as_aux_lemma =>
          obtain ⟨q, rfl⟩ : ∃ q : Nat, nn = (q : Int) := ⟨nn.toNat, by omega⟩
          have hqM : q < M.length := by omega
          have hqM' : (q : Int) < (M.length : Int) := by omega
          have hq0 : (0 : Int) ≤ (q : Int) := by omega
          obtain ⟨x, hx⟩ : ∃ x, M[q]? = some x := ⟨_, List.getElem?_eq_getElem hqM⟩
          obtain ⟨h4, rfl, hc4, hc4m, hh4⟩ := Ints.form HS.out.half.ints.1 (by omega)
          unfold maxLen at hc4m
          have HX := Lib.hid hx
          clear hx hr
          have DN := Lib.hid (stDouble HS.out hM q x HX.out)
          go_wp2_with fail
          refine DN.out.mono ?_
          rintro e w2 ⟨rfl, hM2⟩
          have HM2 := Lib.hid hM2
          have HM3 : Hid (StM (w2.alloc (.cells #[.int .i64 x.1] 3)) w m p m k (some ⟨h4, 0, none⟩) c4 M (M ++ [x])) := Lib.hid (hM2.below ((Below.refl _ _).alloc (Nat.le_refl _) _))
          have OWN : Hid ((w2.alloc (.cells #[.int .i64 x.1] 3)).ownsRow w.heap.size 3 1 (.slice (some ⟨h4, 0, none⟩) M.length c4) M.length (M.map seqV)) := Lib.hid HM3.out.ints.1
          have hba : w.heap.size ≤ (w2.alloc (.cells #[.int .i64 x.1] 3)).heap.size := HM3.out.ints.2
          have ci : w2.cell? ⟨h4, q, none⟩ = some (.int .i64 x.1) := hM2.ints.1.at_ HX.out rfl
          clear hM2 DN x0 x1 x2 x3
          go_wp2_with fail
          refine (num_any 0 _).mono ?_
          rintro e wq ⟨rfl, rfl⟩
          go_wp2_with fail
          refine (num_any 0 _).mono ?_
          rintro e wq ⟨rfl, rfl⟩
          go_wp2_with (at_builtin; refine wpList_append_lies _ rfl (.tmp 73) (.tmp 78) 71 rfl w.heap.size 3 ti (.int .i64 0) 1 8 Try.underlying71 hi0 hz0 hz1 hz2 rfl (by decide) _ M.length (M.map seqV) rfl OWN.out ⟨w2.heap.size, 0, none⟩ 1 1 [.int .i64 x.1] rfl rfl (new_int w2 _) (one_int _) (by omega) hml (by omega) hba _ rfl ?_; intro g' cap' w3 hown hgrow hat hlt)
          have FIN : Hid (_) := Lib.hid (HM3.out.done (k' := k + 1) (N := M ++ [x]) (by rw [List.length_append, map_snoc]; exact hown) hgrow (by omega) (by rw [List.length_append]; simp; omega))
          clear hown hgrow hat hlt OWN HM2 HM3 hba ci
          go_wp2_with fail
          go_roundg (g1 - 1)
          case measure => have := HG1.out; omega
          case rel => exact ⟨k + 1, _, _, _, by omega, by rw [List.length_append]; rfl, by go_num, FIN.out⟩
        · as_aux_lemma =>
          have DN := Lib.hid (stDoubleNo HS.out nn (by omega))
          have r1 : decide (0 ≤ nn) = false := decide_eq_false (by omega)
          go_wp2_with fail
          refine DN.out.mono ?_
          rintro e w2 ⟨rfl, rfl⟩
          go_wp2_with fail
          refine (num_any 2 _).mono ?_
          rintro e wq ⟨rfl, rfl⟩
          go_wp2_with fail
          refine (num_any 2 _).mono ?_
          rintro e wq ⟨rfl, rfl⟩
          go_wp2_with fail
          go_roundg (g1 - 1)
          case measure => have := HG1.out; omega
          case rel => exact ⟨k + 1, A4, c4, M, by omega, rfl, by go_num, HS.out.mono (by omega)⟩
        · as_aux_lemma =>
          have DN := Lib.hid (stDoubleNo HS.out nn (by omega))
          obtain ⟨r0, r1'⟩ := hr
          have r1 : decide (nn < (M.length : Int)) = false := decide_eq_false (by omega)
          go_wp2_with fail
          refine DN.out.mono ?_
          rintro e w2 ⟨rfl, rfl⟩
          go_wp2_with fail
          refine (num_any 2 _).mono ?_
          rintro e wq ⟨rfl, rfl⟩
          go_wp2_with fail
          refine (num_any 2 _).mono ?_
          rintro e wq ⟨rfl, rfl⟩
          go_wp2_with fail
          go_roundg (g1 - 1)
          case measure => have := HG1.out; omega
          case rel => exact ⟨k + 1, A4, c4, M, by omega, rfl, by go_num, HS.out.mono (by omega)⟩
      · rcases (show (0 ≤ nn ∧ nn < (M.length : Int)) ∨ nn < 0 ∨ (0 ≤ nn ∧ (M.length : Int) ≤ nn) by omega) with hr | hr | hr
        · as_aux_lemma =>
          obtain ⟨q, rfl⟩ : ∃ q : Nat, nn = (q : Int) := ⟨nn.toNat, by omega⟩
          have hqM : q < M.length := by omega
          have hqM' : (q : Int) < (M.length : Int) := by omega
          have hq0 : (0 : Int) ≤ (q : Int) := by omega
          obtain ⟨x, hx⟩ : ∃ x, M[q]? = some x := ⟨_, List.getElem?_eq_getElem hqM⟩
          obtain ⟨h4, rfl, hc4, hc4m, hh4⟩ := Ints.form HS.out.half.ints.1 (by omega)
          unfold maxLen at hc4m
          have HX := Lib.hid hx
          clear hx hr
          have rz : RoomMsg (wr.alloc (.cells zeroC 73)) wr.heap.size 0 := (Blk.new wr 73 zeroC).there
          have hmz := zeroMC
          unfold zeroC at rz hmz
          go_upto_region 28 with (fail)
          refine world_out (fun W2 hW2 => ?_)
          have B2 : Hid (Below wr.heap.size wr W2) := Lib.hid (by rw [hW2]; exact below_setCells ((Below.refl _ _).alloc (Nat.le_refl _) _) _ _ (Nat.le_refl _) _)
          have RB2 : Hid (W2.there wr.heap.size 0 26 ∧ wr.heap.size < W2.heap.size) := Lib.hid (by rw [hW2]; exact ⟨World.there_setCells rz _ _ _, by rw [setCells_size]; simp⟩)
          clear hW2 rz hmz x0 x1 x2 x3
          have S2 : Hid (St W2 w m p m k (some ⟨h4, 0, none⟩) c4 M) := Lib.hid (HS.out.below B2.out)
          obtain ⟨x0, x1, x2, x3⟩ := (HA.out.below hb BW.out).below (Nat.lt_of_lt_of_le hb BW.out.size) B2.out k hkn
          rw [HXK.out] at x0 x1 x2 x3
          simp only at x0 x1 x2 x3
          have DN := Lib.hid (stDrop S2.out q x HX.out)
          go_wp2_with fail
          refine DN.out.mono ?_
          rintro e w3 ⟨rfl, hM3⟩
          have HM3 := Lib.hid hM3
          have ci : w3.cell? ⟨h4, q, none⟩ = some (.int .i64 x.1) := hM3.ints.1.at_ HX.out rfl
          have BW3 : Hid (Below w.heap.size w w3) := Lib.hid (by obtain ⟨_, _, _, _, _, _, _, _, _, h6, _⟩ := hM3; exact h6)
          clear hM3 DN x0 x1 x2 x3
          obtain ⟨x0, x1, x2, x3⟩ := HA.out.below hb BW3.out k hkn
          rw [HXK.out] at x0 x1 x2 x3
          simp only at x0 x1 x2 x3
          go_wp2_with fail
          refine (num_any 0 _).mono ?_
          rintro e wq ⟨rfl, rfl⟩
          go_wp2_with fail
          refine (num_any 0 _).mono ?_
          rintro e wq ⟨rfl, rfl⟩
          go_wp2_with fail
          go_quiet (fail)
          go_wp2_with fail
          have HMQ := HM3
          refine world_out (fun W5 hW5 => ?_)
          have HM5 : Hid (StM W5 w m p m k (some ⟨h4, 0, none⟩) c4 M (M.eraseIdx q)) := Lib.hid (by rw [hW5]; exact HMQ.out.below (below_drewN (Below.refl _ _) _))
          clear hW5 HMQ x0 x1 x2 x3
          have hw1 : IntKind.i64.wrap ((q : Int) + 1) = (q : Int) + 1 := IntWalk.i64_in _ (by omega)
          have hp1 : (0 : Int) ≤ (q : Int) + 1 := by omega
          have hp2 : (q : Int) + 1 ≤ (M.length : Int) := by omega
          have hp3 : ((q : Int) + 1).toNat = q + 1 := by omega
          have hqc : q ≤ c4 := by omega
          have hqc2 : (q : Int) ≤ (c4 : Int) := by omega
          have hmc2 : (M.length : Int) ≤ (c4 : Int) := by omega
          obtain ⟨A2, hA2, hRd⟩ := reads_drop HM5.out.ints.1 (show q + 1 ≤ M.length by omega)
          have RD := Lib.hid hRd
          have RT := Lib.hid (reads_take HM5.out.ints.1 (show q ≤ M.length by omega))
          have OWN0 : Hid ((W5.alloc (.cells #[] 3)).drew.ownsRow w.heap.size 3 1 (.slice (some ⟨W5.heap.size, 0, none⟩) 0 0) 0 []) := Lib.hid ⟨rfl, .inr ⟨_, _, #[], rfl, HM5.out.ints.2, heap_alloc_new W5 _, Nat.le_refl _, by unfold maxLen; omega, rfl, rfl⟩⟩
          have B50 : Hid (Below W5.heap.size W5 (W5.alloc (.cells #[] 3)).drew) := Lib.hid ((Below.refl _ _).alloc (Nat.le_refl _) _).drew
          have hb50 : w.heap.size ≤ (W5.alloc (.cells #[] 3)).drew.heap.size := Nat.le_trans HM5.out.ints.2 B50.out.size
          have hql : 0 + q ≤ maxLen := by unfold maxLen; omega
          have hql2 : (0 + q) * 8 ≤ 140737488355328 := by omega
          have hqm : 0 + q + (M.length - (q + 1)) ≤ maxLen := by unfold maxLen; omega
          have hqm2 : (0 + q + (M.length - (q + 1))) * 8 ≤ 140737488355328 := by omega
          have OT : Hid (∀ u ∈ (M.map seqV).take q, u.oneCell' = true) := Lib.hid (fun u hu => seq_one M u (List.mem_of_mem_take hu))
          have OD : Hid (∀ u ∈ (M.map seqV).drop (q + 1), u.oneCell' = true) := Lib.hid (fun u hu => seq_one M u (List.mem_of_mem_drop hu))
          clear hRd
          go_region_held3 (fun _ => True) (trivial) (first
            | (have tokB := A1
               refine step_append_any _ (by rfl) (.tmp 134) (.tmp 138) 71 (by rfl) w.heap.size 3 ti (.int .i64 0) 1 8 Try.underlying71 hi0 hz0 hz1 hz2 (by rfl) (by decide) v1 (0 + q) ([] ++ (M.map seqV).take q) (by simp [Act.eval]) A1.out W5.heap.size (some A2) (M.length - (q + 1)) (c4 - (q + 1)) ((M.map seqV).drop (q + 1)) (by simp [Act.eval]) (RD.out.below B1.out) OD.out hqm hqm2 hb51 ?_
               intro v2 w7 hown2 hg2 hat2
               have A3 := Lib.hid hown2
               have B3 : Hid (Below W5.heap.size W5 w7) := Lib.hid (B1.out.grown hg2 B1.out.size V1.out)
               clear hown2 hg2 hat2 tokB)
            | (refine step_append_any _ (by rfl) (.tmp 130) (.tmp 133) 71 (by rfl) w.heap.size 3 ti (.int .i64 0) 1 8 Try.underlying71 hi0 hz0 hz1 hz2 (by rfl) (by decide) (.slice (some ⟨W5.heap.size, 0, none⟩) 0 0) 0 [] (by simp [Act.eval]) OWN0.out W5.heap.size (some ⟨h4, 0, none⟩) q c4 ((M.map seqV).take q) (by simp [Act.eval]) (RT.out.below B50.out) OT.out hql hql2 hb50 ?_
               intro v1 w6 hown1 hg1' hat1
               have A1 := Lib.hid hown1
               have B1 : Hid (Below W5.heap.size W5 w6) := Lib.hid (B50.out.grown hg1' B50.out.size (fun j hj => by cases hj; exact Nat.le_refl _))
               have V1 : Hid (∀ j, v1.ownBlock = some j → W5.heap.size ≤ j) := Lib.hid (fun j hj => by rcases hat1 with e | e <;> rw [e] at hj <;> cases hj <;> first | exact Nat.le_refl _ | exact B50.out.size)
               have hb51 : w.heap.size ≤ w6.heap.size := Nat.le_trans HM5.out.ints.2 B1.out.size
               clear hown1 hg1' hat1))
          all_goals
            have FX : Hid (∃ A' cap', v2 = .slice A' (M.eraseIdx q).length cap' ∧ St w7 w m p m (k + 1) A' cap' (M.eraseIdx q)) := Lib.hid (by
              have hl : (M.eraseIdx q).length = 0 + q + (M.length - (q + 1)) := by rw [List.length_eraseIdx, if_pos hqM]; omega
              have h3 := A3.out
              rw [List.nil_append, ← erase_seq, ← hl] at h3
              obtain ⟨A', cap', hv⟩ := own_form h3
              refine ⟨A', cap', hv, HM5.out.fresh B3.out ?_ (by omega) (by have := HS.out.big; omega)⟩
              rw [hv] at h3
              exact h3)
            obtain ⟨A', cap', hv2, hS7⟩ := FX.out
            rw [hv2]
            have HS7 := Lib.hid hS7
            clear hv2 hS7 FX A3 B3
            go_wp2_with fail
            go_roundg (g1 - 1)
            case measure => have := HG1.out; omega
            case rel => exact ⟨k + 1, A', cap', M.eraseIdx q, by omega, rfl, by go_num, HS7.out⟩
        · as_aux_lemma =>
          have rz : RoomMsg (wr.alloc (.cells zeroC 73)) wr.heap.size 0 := (Blk.new wr 73 zeroC).there
          have hmz := zeroMC
          unfold zeroC at rz hmz
          go_upto_region 28 with (fail)
          refine world_out (fun W2 hW2 => ?_)
          have B2 : Hid (Below wr.heap.size wr W2) := Lib.hid (by rw [hW2]; exact below_setCells ((Below.refl _ _).alloc (Nat.le_refl _) _) _ _ (Nat.le_refl _) _)
          have RB2 : Hid (W2.there wr.heap.size 0 26 ∧ wr.heap.size < W2.heap.size) := Lib.hid (by rw [hW2]; exact ⟨World.there_setCells rz _ _ _, by rw [setCells_size]; simp⟩)
          clear hW2 rz hmz x0 x1 x2 x3
          have S2 : Hid (St W2 w m p m k A4 c4 M) := Lib.hid (HS.out.below B2.out)
          obtain ⟨x0, x1, x2, x3⟩ := (HA.out.below hb BW.out).below (Nat.lt_of_lt_of_le hb BW.out.size) B2.out k hkn
          rw [HXK.out] at x0 x1 x2 x3
          simp only at x0 x1 x2 x3
          have DN := Lib.hid (stDropNo S2.out nn (by omega))
          have r1 : decide (0 ≤ nn) = false := decide_eq_false (by omega)
          go_wp2_with fail
          refine DN.out.mono ?_
          rintro e w3 ⟨rfl, hb3⟩
          have HS3 : Hid (St w3 w m p m k A4 c4 M) := Lib.hid (S2.out.below hb3)
          clear hb3 DN
          go_wp2_with fail
          refine (num_any 2 _).mono ?_
          rintro e wq ⟨rfl, rfl⟩
          go_wp2_with fail
          refine (num_any 2 _).mono ?_
          rintro e wq ⟨rfl, rfl⟩
          go_wp2_with fail
          go_roundg (g1 - 1)
          case measure => have := HG1.out; omega
          case rel => exact ⟨k + 1, A4, c4, M, by omega, rfl, by go_num, HS3.out.mono (by omega)⟩
        · as_aux_lemma =>
          have rz : RoomMsg (wr.alloc (.cells zeroC 73)) wr.heap.size 0 := (Blk.new wr 73 zeroC).there
          have hmz := zeroMC
          unfold zeroC at rz hmz
          go_upto_region 28 with (fail)
          refine world_out (fun W2 hW2 => ?_)
          have B2 : Hid (Below wr.heap.size wr W2) := Lib.hid (by rw [hW2]; exact below_setCells ((Below.refl _ _).alloc (Nat.le_refl _) _) _ _ (Nat.le_refl _) _)
          have RB2 : Hid (W2.there wr.heap.size 0 26 ∧ wr.heap.size < W2.heap.size) := Lib.hid (by rw [hW2]; exact ⟨World.there_setCells rz _ _ _, by rw [setCells_size]; simp⟩)
          clear hW2 rz hmz x0 x1 x2 x3
          have S2 : Hid (St W2 w m p m k A4 c4 M) := Lib.hid (HS.out.below B2.out)
          obtain ⟨x0, x1, x2, x3⟩ := (HA.out.below hb BW.out).below (Nat.lt_of_lt_of_le hb BW.out.size) B2.out k hkn
          rw [HXK.out] at x0 x1 x2 x3
          simp only at x0 x1 x2 x3
          have DN := Lib.hid (stDropNo S2.out nn (by omega))
          obtain ⟨r0, r1'⟩ := hr
          have r1 : decide (nn < (M.length : Int)) = false := decide_eq_false (by omega)
          go_wp2_with fail
          refine DN.out.mono ?_
          rintro e w3 ⟨rfl, hb3⟩
          have HS3 : Hid (St w3 w m p m k A4 c4 M) := Lib.hid (S2.out.below hb3)
          clear hb3 DN
          go_wp2_with fail
          refine (num_any 2 _).mono ?_
          rintro e wq ⟨rfl, rfl⟩
          go_wp2_with fail
          refine (num_any 2 _).mono ?_
          rintro e wq ⟨rfl, rfl⟩
          go_wp2_with fail
          go_roundg (g1 - 1)
          case measure => have := HG1.out; omega
          case rel => exact ⟨k + 1, A4, c4, M, by omega, rfl, by go_num, HS3.out.mono (by omega)⟩
      · rcases (show (0 ≤ nn ∧ nn < (M.length : Int)) ∨ nn < 0 ∨ (0 ≤ nn ∧ (M.length : Int) ≤ nn) by omega) with hr | hr | hr
        · as_aux_lemma =>
          obtain ⟨q, rfl⟩ : ∃ q : Nat, nn = (q : Int) := ⟨nn.toNat, by omega⟩
          have hqM : q < M.length := by omega
          have hqM' : (q : Int) < (M.length : Int) := by omega
          have hq0 : (0 : Int) ≤ (q : Int) := by omega
          obtain ⟨x, hx⟩ : ∃ x, M[q]? = some x := ⟨_, List.getElem?_eq_getElem hqM⟩
          obtain ⟨h4, rfl, hc4, hc4m, hh4⟩ := Ints.form HS.out.half.ints.1 (by omega)
          unfold maxLen at hc4m
          have HX := Lib.hid hx
          clear hx hr
          have rz : RoomMsg (wr.alloc (.cells zeroC 73)) wr.heap.size 0 := (Blk.new wr 73 zeroC).there
          have hmz := zeroMC
          unfold zeroC at rz hmz
          go_upto_region 28 with (fail)
          refine world_out (fun W2 hW2 => ?_)
          have B2 : Hid (Below wr.heap.size wr W2) := Lib.hid (by rw [hW2]; exact below_setCells ((Below.refl _ _).alloc (Nat.le_refl _) _) _ _ (Nat.le_refl _) _)
          have RB2 : Hid (W2.there wr.heap.size 0 26 ∧ wr.heap.size < W2.heap.size) := Lib.hid (by rw [hW2]; exact ⟨World.there_setCells rz _ _ _, by rw [setCells_size]; simp⟩)
          clear hW2 rz hmz x0 x1 x2 x3
          have S2 : Hid (St W2 w m p m k (some ⟨h4, 0, none⟩) c4 M) := Lib.hid (HS.out.below B2.out)
          obtain ⟨x0, x1, x2, x3⟩ := (HA.out.below hb BW.out).below (Nat.lt_of_lt_of_le hb BW.out.size) B2.out k hkn
          rw [HXK.out] at x0 x1 x2 x3
          simp only at x0 x1 x2 x3
          have DN := Lib.hid (stTake2 HS.out B2.out RB2.out.1 RB2.out.2 q x HX.out)
          have hmx : MsgC (msgOf x) := (nilS x.1 x.2.1.1 x.2.1.2).msg
          go_wp2_with fail
          refine DN.out.mono ?_
          rintro e w2' ⟨bb, rfl, rm2, hM3, hc12⟩
          have HM2 := Lib.hid hM3
          have C12 := Lib.hid hc12
          clear hM3 hc12 DN
          go_upto_region 31 with (fail)
          refine world_out (fun w3 hW3 => ?_)
          have HM3 : Hid (StM w3 w m p m k (some ⟨h4, 0, none⟩) c4 M (M.eraseIdx q)) := Lib.hid (by rw [hW3]; exact HM2.out)
          have c12 : w3.cell? ⟨wr.heap.size, 12, none⟩ = some (.int .i64 x.1) := by rw [hW3]; exact C12.out
          clear hW3 HM2 C12 rm2 hmx x0 x1 x2 x3
          have ci : w3.cell? ⟨h4, q, none⟩ = some (.int .i64 x.1) := HM3.out.ints.1.at_ HX.out rfl
          have BW3 : Hid (Below w.heap.size w w3) := Lib.hid (by obtain ⟨_, _, _, _, _, _, _, _, _, h6, _⟩ := HM3.out; exact h6)
          obtain ⟨x0, x1, x2, x3⟩ := HA.out.below hb BW3.out k hkn
          rw [HXK.out] at x0 x1 x2 x3
          simp only at x0 x1 x2 x3
          go_wp2_with fail
          refine (num_any 0 _).mono ?_
          rintro e wq ⟨rfl, rfl⟩
          go_wp2_with fail
          refine (num_any 0 _).mono ?_
          rintro e wq ⟨rfl, rfl⟩
          go_wp2_with fail
          go_quiet (fail)
          go_wp2_with fail
          have HMQ := HM3
          refine world_out (fun W5 hW5 => ?_)
          have HM5 : Hid (StM W5 w m p m k (some ⟨h4, 0, none⟩) c4 M (M.eraseIdx q)) := Lib.hid (by rw [hW5]; exact HMQ.out.below (below_drewN (Below.refl _ _) _))
          clear hW5 HMQ x0 x1 x2 x3
          have hw1 : IntKind.i64.wrap ((q : Int) + 1) = (q : Int) + 1 := IntWalk.i64_in _ (by omega)
          have hp1 : (0 : Int) ≤ (q : Int) + 1 := by omega
          have hp2 : (q : Int) + 1 ≤ (M.length : Int) := by omega
          have hp3 : ((q : Int) + 1).toNat = q + 1 := by omega
          have hqc : q ≤ c4 := by omega
          have hqc2 : (q : Int) ≤ (c4 : Int) := by omega
          have hmc2 : (M.length : Int) ≤ (c4 : Int) := by omega
          obtain ⟨A2, hA2, hRd⟩ := reads_drop HM5.out.ints.1 (show q + 1 ≤ M.length by omega)
          have RD := Lib.hid hRd
          have RT := Lib.hid (reads_take HM5.out.ints.1 (show q ≤ M.length by omega))
          have OWN0 : Hid ((W5.alloc (.cells #[] 3)).drew.ownsRow w.heap.size 3 1 (.slice (some ⟨W5.heap.size, 0, none⟩) 0 0) 0 []) := Lib.hid ⟨rfl, .inr ⟨_, _, #[], rfl, HM5.out.ints.2, heap_alloc_new W5 _, Nat.le_refl _, by unfold maxLen; omega, rfl, rfl⟩⟩
          have B50 : Hid (Below W5.heap.size W5 (W5.alloc (.cells #[] 3)).drew) := Lib.hid ((Below.refl _ _).alloc (Nat.le_refl _) _).drew
          have hb50 : w.heap.size ≤ (W5.alloc (.cells #[] 3)).drew.heap.size := Nat.le_trans HM5.out.ints.2 B50.out.size
          have hql : 0 + q ≤ maxLen := by unfold maxLen; omega
          have hql2 : (0 + q) * 8 ≤ 140737488355328 := by omega
          have hqm : 0 + q + (M.length - (q + 1)) ≤ maxLen := by unfold maxLen; omega
          have hqm2 : (0 + q + (M.length - (q + 1))) * 8 ≤ 140737488355328 := by omega
          have OT : Hid (∀ u ∈ (M.map seqV).take q, u.oneCell' = true) := Lib.hid (fun u hu => seq_one M u (List.mem_of_mem_take hu))
          have OD : Hid (∀ u ∈ (M.map seqV).drop (q + 1), u.oneCell' = true) := Lib.hid (fun u hu => seq_one M u (List.mem_of_mem_drop hu))
          clear hRd
          go_region_held3 (fun _ => True) (trivial) (first
            | (have tokB := A1
               refine step_append_any _ (by rfl) (.tmp 134) (.tmp 138) 71 (by rfl) w.heap.size 3 ti (.int .i64 0) 1 8 Try.underlying71 hi0 hz0 hz1 hz2 (by rfl) (by decide) v1 (0 + q) ([] ++ (M.map seqV).take q) (by simp [Act.eval]) A1.out W5.heap.size (some A2) (M.length - (q + 1)) (c4 - (q + 1)) ((M.map seqV).drop (q + 1)) (by simp [Act.eval]) (RD.out.below B1.out) OD.out hqm hqm2 hb51 ?_
               intro v2 w7 hown2 hg2 hat2
               have A3 := Lib.hid hown2
               have B3 : Hid (Below W5.heap.size W5 w7) := Lib.hid (B1.out.grown hg2 B1.out.size V1.out)
               clear hown2 hg2 hat2 tokB)
            | (refine step_append_any _ (by rfl) (.tmp 130) (.tmp 133) 71 (by rfl) w.heap.size 3 ti (.int .i64 0) 1 8 Try.underlying71 hi0 hz0 hz1 hz2 (by rfl) (by decide) (.slice (some ⟨W5.heap.size, 0, none⟩) 0 0) 0 [] (by simp [Act.eval]) OWN0.out W5.heap.size (some ⟨h4, 0, none⟩) q c4 ((M.map seqV).take q) (by simp [Act.eval]) (RT.out.below B50.out) OT.out hql hql2 hb50 ?_
               intro v1 w6 hown1 hg1' hat1
               have A1 := Lib.hid hown1
               have B1 : Hid (Below W5.heap.size W5 w6) := Lib.hid (B50.out.grown hg1' B50.out.size (fun j hj => by cases hj; exact Nat.le_refl _))
               have V1 : Hid (∀ j, v1.ownBlock = some j → W5.heap.size ≤ j) := Lib.hid (fun j hj => by rcases hat1 with e | e <;> rw [e] at hj <;> cases hj <;> first | exact Nat.le_refl _ | exact B50.out.size)
               have hb51 : w.heap.size ≤ w6.heap.size := Nat.le_trans HM5.out.ints.2 B1.out.size
               clear hown1 hg1' hat1))
          all_goals
            have FX : Hid (∃ A' cap', v2 = .slice A' (M.eraseIdx q).length cap' ∧ St w7 w m p m (k + 1) A' cap' (M.eraseIdx q)) := Lib.hid (by
              have hl : (M.eraseIdx q).length = 0 + q + (M.length - (q + 1)) := by rw [List.length_eraseIdx, if_pos hqM]; omega
              have h3 := A3.out
              rw [List.nil_append, ← erase_seq, ← hl] at h3
              obtain ⟨A', cap', hv⟩ := own_form h3
              refine ⟨A', cap', hv, HM5.out.fresh B3.out ?_ (by omega) (by have := HS.out.big; omega)⟩
              rw [hv] at h3
              exact h3)
            obtain ⟨A', cap', hv2, hS7⟩ := FX.out
            rw [hv2]
            have HS7 := Lib.hid hS7
            clear hv2 hS7 FX A3 B3
            go_wp2_with fail
            go_roundg (g1 - 1)
            case measure => have := HG1.out; omega
            case rel => exact ⟨k + 1, A', cap', M.eraseIdx q, by omega, rfl, by go_num, HS7.out⟩
        · as_aux_lemma =>
          have rz : RoomMsg (wr.alloc (.cells zeroC 73)) wr.heap.size 0 := (Blk.new wr 73 zeroC).there
          have hmz := zeroMC
          unfold zeroC at rz hmz
          go_upto_region 28 with (fail)
          refine world_out (fun W2 hW2 => ?_)
          have B2 : Hid (Below wr.heap.size wr W2) := Lib.hid (by rw [hW2]; exact below_setCells ((Below.refl _ _).alloc (Nat.le_refl _) _) _ _ (Nat.le_refl _) _)
          have RB2 : Hid (W2.there wr.heap.size 0 26 ∧ wr.heap.size < W2.heap.size) := Lib.hid (by rw [hW2]; exact ⟨World.there_setCells rz _ _ _, by rw [setCells_size]; simp⟩)
          clear hW2 rz hmz x0 x1 x2 x3
          have S2 : Hid (St W2 w m p m k A4 c4 M) := Lib.hid (HS.out.below B2.out)
          obtain ⟨x0, x1, x2, x3⟩ := (HA.out.below hb BW.out).below (Nat.lt_of_lt_of_le hb BW.out.size) B2.out k hkn
          rw [HXK.out] at x0 x1 x2 x3
          simp only at x0 x1 x2 x3
          have DN := Lib.hid (stTakeNo S2.out nn (by omega))
          have hzc := zeroMC
          have r1 : decide (0 ≤ nn) = false := decide_eq_false (by omega)
          generalize zeroC = ZC at DN hzc
          go_wp2_with fail
          refine DN.out.mono ?_
          rintro e w2' ⟨rfl, hb3⟩
          have B3 : Hid (Below wr.heap.size wr w2') := Lib.hid (B2.out.trans (hb3.mono B2.out.size))
          have rm2 : RoomMsg w2' wr.heap.size 0 := there_below RB2.out.1 hb3
          clear hb3 DN
          go_upto_region 31 with (fail)
          refine world_out (fun w3 hW3 => ?_)
          have HS3 : Hid (St w3 w m p m k A4 c4 M) := Lib.hid (by rw [hW3]; exact HS.out.below (below_setCells B3.out _ _ (Nat.le_refl _) _))
          clear hW3 rm2 hzc
          go_wp2_with fail
          refine (num_any 2 _).mono ?_
          rintro e wq ⟨rfl, rfl⟩
          go_wp2_with fail
          refine (num_any 2 _).mono ?_
          rintro e wq ⟨rfl, rfl⟩
          go_wp2_with fail
          go_roundg (g1 - 1)
          case measure => have := HG1.out; omega
          case rel => exact ⟨k + 1, A4, c4, M, by omega, rfl, by go_num, HS3.out.mono (by omega)⟩
        · as_aux_lemma =>
          have rz : RoomMsg (wr.alloc (.cells zeroC 73)) wr.heap.size 0 := (Blk.new wr 73 zeroC).there
          have hmz := zeroMC
          unfold zeroC at rz hmz
          go_upto_region 28 with (fail)
          refine world_out (fun W2 hW2 => ?_)
          have B2 : Hid (Below wr.heap.size wr W2) := Lib.hid (by rw [hW2]; exact below_setCells ((Below.refl _ _).alloc (Nat.le_refl _) _) _ _ (Nat.le_refl _) _)
          have RB2 : Hid (W2.there wr.heap.size 0 26 ∧ wr.heap.size < W2.heap.size) := Lib.hid (by rw [hW2]; exact ⟨World.there_setCells rz _ _ _, by rw [setCells_size]; simp⟩)
          clear hW2 rz hmz x0 x1 x2 x3
          have S2 : Hid (St W2 w m p m k A4 c4 M) := Lib.hid (HS.out.below B2.out)
          obtain ⟨x0, x1, x2, x3⟩ := (HA.out.below hb BW.out).below (Nat.lt_of_lt_of_le hb BW.out.size) B2.out k hkn
          rw [HXK.out] at x0 x1 x2 x3
          simp only at x0 x1 x2 x3
          have DN := Lib.hid (stTakeNo S2.out nn (by omega))
          have hzc := zeroMC
          obtain ⟨r0, r1'⟩ := hr
          have r1 : decide (nn < (M.length : Int)) = false := decide_eq_false (by omega)
          generalize zeroC = ZC at DN hzc
          go_wp2_with fail
          refine DN.out.mono ?_
          rintro e w2' ⟨rfl, hb3⟩
          have B3 : Hid (Below wr.heap.size wr w2') := Lib.hid (B2.out.trans (hb3.mono B2.out.size))
          have rm2 : RoomMsg w2' wr.heap.size 0 := there_below RB2.out.1 hb3
          clear hb3 DN
          go_upto_region 31 with (fail)
          refine world_out (fun w3 hW3 => ?_)
          have HS3 : Hid (St w3 w m p m k A4 c4 M) := Lib.hid (by rw [hW3]; exact HS.out.below (below_setCells B3.out _ _ (Nat.le_refl _) _))
          clear hW3 rm2 hzc
          go_wp2_with fail
          refine (num_any 2 _).mono ?_
          rintro e wq ⟨rfl, rfl⟩
          go_wp2_with fail
          refine (num_any 2 _).mono ?_
          rintro e wq ⟨rfl, rfl⟩
          go_wp2_with fail
          go_roundg (g1 - 1)
          case measure => have := HG1.out; omega
          case rel => exact ⟨k + 1, A4, c4, M, by omega, rfl, by go_num, HS3.out.mono (by omega)⟩
      · as_aux_lemma =>
        have PN := Lib.hid (stPart HS.out (by unfold maxLen; omega) ⟨(a1, a2), ha⟩ hm0)
        go_wp2_with fail
        refine (show Calls Try.prog 49 #[.pointer (some ⟨p, 0, none⟩), .agg #[.int .i64 a1, .int .i64 a2]] wr _ from PN.out).mono ?_
        rintro e w2 ⟨rfl, hS2⟩
        have HS2 := Lib.hid hS2
        clear hS2 PN x0 x1 x2 x3
        go_wp2_with fail
        go_roundg (g1 - 1)
        case measure => have := HG1.out; omega
        case rel => exact ⟨k + 1, A4, c4, M, by omega, rfl, by go_num, HS2.out⟩
      · as_aux_lemma =>
        have PN := Lib.hid (stHeal HS.out ⟨(a1, a2), ha⟩ hm0)
        go_wp2_with fail
        refine (show Calls Try.prog 50 #[.pointer (some ⟨p, 0, none⟩), .agg #[.int .i64 a1, .int .i64 a2]] wr _ from PN.out).mono ?_
        rintro e w2 ⟨rfl, hS2⟩
        have HS2 := Lib.hid hS2
        clear hS2 PN x0 x1 x2 x3
        go_wp2_with fail
        go_roundg (g1 - 1)
        case measure => have := HG1.out; omega
        case rel => exact ⟨k + 1, A4, c4, M, by omega, rfl, by go_num, HS2.out⟩
      · as_aux_lemma =>
        have b0 : (kd == 0) = false := beq_eq_false_iff_ne.2 n0
        have b1 : (kd == 1) = false := beq_eq_false_iff_ne.2 n1
        have b2 : (kd == 2) = false := beq_eq_false_iff_ne.2 n2
        have b3 : (kd == 3) = false := beq_eq_false_iff_ne.2 n3
        have b4 : (kd == 4) = false := beq_eq_false_iff_ne.2 n4
        have b5 : (kd == 5) = false := beq_eq_false_iff_ne.2 n5
        clear n0 n1 n2 n3 n4 n5
        go_wp2_with fail
        go_roundg (g1 - 1)
        case measure => have := HG1.out; omega
        case rel => exact ⟨k + 1, A4, c4, M, by omega, rfl, by go_num, HS.out.mono (by omega)⟩
    · as_aux_lemma =>
      obtain rfl : n = k := by omega
      have hnn : decide ((n : Int) < (n : Int)) = false := decide_eq_false (by omega)
      go_wp2_with fail
      refine (stLen HS.out).mono ?_
      rintro e w2 ⟨rfl, rfl⟩
      go_wp2_with fail
      go_loopg [10] M.length (RelZ M.length n p m A4 c4 M w)
      case atStart => exact ⟨0, by omega, rfl, HS.out⟩
      case round =>
        clear HS BW
        obtain ⟨g2, hg2⟩ : ∃ x, x = gk := ⟨_, rfl⟩
        rw [← hg2] at hrel
        obtain ⟨j, hj, rfl, hS⟩ := hrel
        have HG2 := Lib.hid hg2
        have HS := Lib.hid hS
        clear hg2 hS
        by_cases hjM : j < M.length
        · have hj1 : (j : Int) < (M.length : Int) := by omega
          have hj0 : (0 : Int) ≤ (j : Int) := by omega
          obtain ⟨x, hx⟩ : ∃ x, M[j]? = some x := ⟨_, List.getElem?_eq_getElem hjM⟩
          obtain ⟨h4, rfl, hc4, hc4m, hh4⟩ := Ints.form HS.out.half.ints.1 (by omega)
          have AT := Lib.hid (stAt HS.out j x hx)
          have HX := Lib.hid hx
          have hmx : MsgC (msgOf x) := (nilS x.1 x.2.1.1 x.2.1.2).msg
          clear hx
          go_wp2_with fail
          refine AT.out.mono ?_
          rintro e w2 ⟨rfl, hb2⟩
          have HS2 : Hid (St w2 w m p m n (some ⟨h4, 0, none⟩) c4 M) := Lib.hid (HS.out.below hb2)
          have rz : RoomMsg (w2.alloc (.cells zeroC 73)) w2.heap.size 0 := (Blk.new w2 73 zeroC).there
          unfold zeroC at rz
          clear hb2 AT HS
          go_upto_region 47 with (fail)
          refine world_out (fun w3 hW3 => ?_)
          have HS3 : Hid (St w3 w m p m n (some ⟨h4, 0, none⟩) c4 M) := Lib.hid (by rw [hW3]; exact HS2.out.below (below_setCells ((Below.refl _ _).alloc (Nat.le_refl _) _) _ _ (Nat.le_refl _) _))
          have c12 : w3.cell? ⟨w2.heap.size, 12, none⟩ = some (.int .i64 x.1) := by rw [hW3]; exact World.rangeAt_setCells_same _ w2.heap.size 0 (msgOf x).toList rz 12 _ rfl
          have ci : w3.cell? ⟨h4, j, none⟩ = some (.int .i64 x.1) := HS3.out.half.ints.1.at_ HX.out rfl
          clear hW3 rz hmx HS2
          go_quiet ((go_at_call 44; exact Calls.quiet_of_same (num_s _ _)))
          go_wp2_with fail
          go_roundg (g2 - 1)
          case measure => have := HG2.out; omega
          case rel => exact ⟨j + 1, by omega, by go_num, HS3.out.below (below_drewN (Below.refl _ _) _)⟩
        · obtain rfl : M.length = j := by omega
          have hnn2 : decide ((M.length : Int) < (M.length : Int)) = false := decide_eq_false (by omega)
          go_wp2_with fail
          go_ret
          exact ⟨rfl, HS.out.big.1⟩
    end Go.Proofs.Ytmmaolhmhdjldaa.BagS
