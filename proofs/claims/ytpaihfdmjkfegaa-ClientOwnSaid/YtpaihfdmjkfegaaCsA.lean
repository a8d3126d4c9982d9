/- slices.BinarySearch of a rising row of ints; end where nothing was asked for: walked. -/
import Derived.Test.YtpaihfdmjkfegaaCqHJ
import Derived.Test.YtpaihfdmjkfegaaInShelf
/- slices.BinarySearch of a rising row of ints; end where nothing was asked for: walked. -/
namespace Go.Proofs.Ytpaihfdmjkfegaa.Cl
open Go.RowKit Go.Lib Go.Maps Go.Proofs.Ytpaihfdmjkfegaa.MapF Go.Proofs.Ytpaihfdmjkfegaa.Msg Go.Proofs.Ytpaihfdmjkfegaa.Ck

theorem nanI2 (x : Int) (w : World) : Calls Try.prog 49 #[.int .i64 x] w fun e w' => e = .returned (.bool false) ∧ w' = w := by
  go_enter Try.func49, Try.ntmps49
  go_wp2
  go_ret
  exact ⟨by simp, rfl⟩
theorem lessI (x y : Int) (w : World) : Calls Try.prog 63 #[.int .i64 x, .int .i64 y] w fun e w' => e = .returned (.bool (decide (x < y))) ∧ w' = w := by
  go_enter Try.func63, Try.ntmps63
  by_cases h : x < y
  · go_wp2_with (first | (go_at_call 49; refine (nanI2 _ _).mono ?_; rintro e w' ⟨rfl, rfl⟩))
    go_ret
    exact ⟨by simp [h], rfl⟩
  · go_wp2_with (first | (go_at_call 49; refine (nanI2 _ _).mono ?_; rintro e w' ⟨rfl, rfl⟩))
    go_ret
    exact ⟨by simp, rfl⟩

/-- The place of x in a rising row. -/
def PlaceOf (l : List Int) (x : Int) (i : Nat) : Prop := i ≤ l.length ∧ ∀ (j : Nat) y, l[j]? = some y → (y < x ↔ j < i)
theorem PlaceOf.mem {l : List Int} {x : Int} {i : Nat} (h : PlaceOf l x i) (hs : l.Pairwise (· < ·)) : x ∈ l ↔ l[i]? = some x := by
  constructor
  · intro hx
    obtain ⟨j, hj, e⟩ := List.mem_iff_getElem.1 hx
    have hj' : l[j]? = some x := by rw [List.getElem?_eq_getElem hj, e]
    have h1 : ¬ j < i := fun h2 => by have := (h.2 j x hj').2 h2; omega
    rcases Nat.lt_or_ge i j with h3 | h3
    · have hi : i < l.length := by omega
      have h4 := (List.pairwise_iff_getElem.1 hs) i j hi hj h3
      rw [e] at h4
      have := (h.2 i l[i] (List.getElem?_eq_getElem hi)).1 h4
      omega
    · rw [show i = j by omega]
      exact hj'
  · exact List.mem_of_getElem?

set_option maxRecDepth 100000 in
set_option maxHeartbeats 4000000 in
theorem bsI (B : Nat → Prop) (l : List Int) (v : Value) (x : Int) (w : World) (hR : SlIn B w v l.length (inC l)) (hl : l.length ≤ 1000) (hs : l.Pairwise (· < ·)) :
    Calls Try.prog 56 #[v, .int .i64 x] w fun e w' => ∃ i : Nat, e = .returned (.tuple #[.int .i64 (i : Int), .bool (decide (x ∈ l))]) ∧ PlaceOf l x i ∧ w' = w := by
  obtain ⟨A, cap, rfl, hA, hX⟩ := hR
  have HX := Lib.hid hX
  have HS := Lib.hid hs
  obtain ⟨n, hn⟩ : ∃ n, n = l.length := ⟨_, rfl⟩
  have HN := Lib.hid hn
  rw [← hn] at hl ⊢
  clear hX hA hn hs
  go_enter Try.func56, Try.ntmps56
  go_wp2_with fail
  go_loopg [7, 8] n (fun gk v7 v8 wr => ∃ lo hi : Nat, hi - lo = gk ∧ lo ≤ hi ∧ hi ≤ n ∧ (∀ (j : Nat) y, l[j]? = some y → j < lo → y < x) ∧ (∀ (j : Nat) y, l[j]? = some y → hi ≤ j → x ≤ y) ∧ v7 = .int .i64 lo ∧ v8 = .int .i64 hi ∧ wr = w)
  case atStart => exact ⟨0, n, by omega, by omega, by omega, fun j y _ h => by omega, fun j y h1 h2 => by have := (List.getElem?_eq_some_iff.1 h1).1; rw [HN.out] at h2; omega, rfl, rfl, rfl⟩
  case round =>
    obtain ⟨lo, hi, hg, h1, h2, hlo, hhi, rfl, rfl, rfl⟩ := hrel
    have HLO := Lib.hid (And.intro hlo hhi)
    clear hlo hhi
    by_cases hlt : lo < hi
    · have hlt' : (lo : Int) < (hi : Int) := by omega
      obtain ⟨b, o, rfl, hb, hc⟩ := HX.out (by rw [inC_len, ← HN.out]; omega)
      obtain ⟨m, hm⟩ : ∃ m, m = (lo + hi) / 2 := ⟨_, rfl⟩
      have m1 : lo ≤ m := by omega
      have m2 : m < hi := by omega
      obtain ⟨y, hy⟩ : ∃ y, l[m]? = some y := ⟨_, List.getElem?_eq_getElem (by rw [← HN.out]; omega)⟩
      have cy : wr.cell? ⟨b, o + m, none⟩ = some (.int .i64 y) := hc m _ (by unfold inC; rw [List.getElem?_map, hy]; rfl)
      have e1 : IntKind.i64.wrap ((lo : Int) + (hi : Int)) = ((lo + hi : Nat) : Int) := by rw [IntWalk.i64_in _ (by omega)]; omega
      have mn : (m : Int) < (n : Int) := by omega
      have HY := Lib.hid hy
      clear hc hy
      go_upto_region 5 with (fail)
      have em : ((lo : Int) + (hi : Int)) / 2 = (m : Int) := by omega
      rw [em]
      clear em e1
      have LS := Lib.hid (lessI y x)
      obtain ⟨bb, hbb⟩ : ∃ bb, bb = decide (y < x) := ⟨_, rfl⟩
      rw [← hbb] at LS
      have HB := Lib.hid hbb
      clear hm hbb
      have mono : Hid (∀ (i j : Nat) a c, l[i]? = some a → l[j]? = some c → i < j → a < c) := Lib.hid (fun i j a c hi hj hij => by
        obtain ⟨q1, q2⟩ := List.getElem?_eq_some_iff.1 hi
        obtain ⟨q3, q4⟩ := List.getElem?_eq_some_iff.1 hj
        have := (List.pairwise_iff_getElem.1 HS.out) i j q1 q3 hij
        rw [q2, q4] at this
        exact this)
      cases bb with
      | true =>
        have hm1 : m + 1 ≤ 1000 := by omega
        have hyx : y < x := of_decide_eq_true HB.out.symm
        have HYX := Lib.hid hyx
        clear hyx
        go_wp2_with (go_at_call 63; refine (LS.out _).mono ?_; rintro e w' ⟨rfl, rfl⟩)
        go_roundg (hi - (m + 1))
        case measure => omega
        case rel =>
          refine ⟨m + 1, hi, rfl, by omega, by omega, fun j z hz hj => ?_, HLO.out.2, by go_num, rfl, rfl⟩
          rcases Nat.lt_or_ge j m with h3 | h3
          · have := mono.out j m z y hz HY.out h3
            have := HYX.out
            omega
          · have : j = m := by omega
            subst this
            have := HY.out
            rw [hz] at this
            have e := Option.some.inj this
            rw [e]
            exact HYX.out
      | false =>
        have hyx : ¬ y < x := of_decide_eq_false HB.out.symm
        have HYX := Lib.hid hyx
        clear hyx
        go_wp2_with (go_at_call 63; refine (LS.out _).mono ?_; rintro e w' ⟨rfl, rfl⟩)
        go_roundg (m - lo)
        case measure => omega
        case rel =>
          refine ⟨lo, m, rfl, by omega, by omega, HLO.out.1, fun j z hz hj => ?_, rfl, rfl, rfl⟩
          rcases Nat.lt_or_ge m j with h3 | h3
          · have := mono.out m j y z HY.out hz h3
            have := HYX.out
            omega
          · have : j = m := by omega
            subst this
            have := HY.out
            rw [hz] at this
            have e := Option.some.inj this
            have := HYX.out
            omega
    · obtain rfl : lo = hi := by omega
      have hn1 : decide ((lo : Int) < (lo : Int)) = false := decide_eq_false (by omega)
      have PL : Hid (PlaceOf l x lo) := Lib.hid ⟨by rw [← HN.out]; exact h2, fun j y hy => ⟨fun h3 => by
        rcases Nat.lt_or_ge j lo with h4 | h4
        · exact h4
        · have := HLO.out.2 j y hy h4
          omega, fun h3 => HLO.out.1 j y hy h3⟩⟩
      by_cases hln : lo < n
      · have hln' : (lo : Int) < (n : Int) := by omega
        obtain ⟨b, o, rfl, hb, hc⟩ := HX.out (by rw [inC_len, ← HN.out]; omega)
        obtain ⟨y, hy⟩ : ∃ y, l[lo]? = some y := ⟨_, List.getElem?_eq_getElem (by rw [← HN.out]; omega)⟩
        have cy : wr.cell? ⟨b, o + lo, none⟩ = some (.int .i64 y) := hc lo _ (by unfold inC; rw [List.getElem?_map, hy]; rfl)
        have HY := Lib.hid hy
        clear hc hy
        by_cases hyx : y = x
        · have eb : Hid (decide (x ∈ l) = true) := Lib.hid (decide_eq_true ((PL.out.mem HS.out).2 (by rw [← hyx]; exact HY.out)))
          subst hyx
          go_wp2_with (first | (go_at_call 64; refine (nanI _ _).mono ?_; rintro e w' ⟨rfl, rfl⟩))
          exact bodyPost_ret (v := .tuple #[.int .i64 (lo : Int), .bool true]) (by simp [results, Try.results56, go_sem, *]) rfl ⟨lo, by rw [eb.out], PL.out, rfl⟩
        · have eb : Hid (decide (x ∈ l) = false) := Lib.hid (decide_eq_false (fun h3 => hyx (Option.some.inj (HY.out.symm.trans ((PL.out.mem HS.out).1 h3)))))
          go_wp2_with (first | (go_at_call 64; refine (nanI _ _).mono ?_; rintro e w' ⟨rfl, rfl⟩))
          exact bodyPost_ret (v := .tuple #[.int .i64 (lo : Int), .bool false]) (by simp [results, Try.results56, go_sem, *]) rfl ⟨lo, by rw [eb.out], PL.out, rfl⟩
      · have hln' : ¬ (lo : Int) < (n : Int) := by omega
        have eb : Hid (decide (x ∈ l) = false) := Lib.hid (decide_eq_false (fun h3 => by have := (List.getElem?_eq_some_iff.1 ((PL.out.mem HS.out).1 h3)).1; rw [← HN.out] at this; omega))
        go_wp2_with fail
        exact bodyPost_ret (v := .tuple #[.int .i64 (lo : Int), .bool false]) (by simp [results, Try.results56, go_sem]) rfl ⟨lo, by rw [eb.out], PL.out, rfl⟩
end Go.Proofs.Ytpaihfdmjkfegaa.Cl

/- slices.Insert of one int: at the end of a row of one's own. -/
namespace Go.Proofs.Ytpaihfdmjkfegaa.Cl
open Go.RowKit Go.Lib Go.Maps Go.Proofs.Ytpaihfdmjkfegaa.MapF Go.Proofs.Ytpaihfdmjkfegaa.Msg Go.Proofs.Ytpaihfdmjkfegaa.Ck Go.Proofs.Ytpaihfdmjkfegaa.Sta Go.Proofs.Ytpaihfdmjkfegaa.Rd

set_option maxRecDepth 100000 in
set_option maxHeartbeats 2000000 in
theorem insert_end (base : Nat) (l : List Int) (g cap b c : Nat) (x : Int) (w : World) (hl : l.length ≤ 1000) (h : w.ownsRow base 3 1 (.slice (some ⟨g, 0, none⟩) l.length cap) l.length (inC l)) (hb : base ≤ w.heap.size) (hx : w.cell? ⟨b, 0, none⟩ = some (.int .i64 x)) (hc : l.length ≤ cap ∧ cap ≤ maxLen) :
    Calls Try.prog 57 #[.slice (some ⟨g, 0, none⟩) l.length cap, .int .i64 (l.length : Int), .slice (some ⟨b, 0, none⟩) 1 c] w fun e w' => ∃ g' cap', e = .returned (.slice (some ⟨g', 0, none⟩) (l.length + 1) cap') ∧ w'.ownsRow base 3 1 (.slice (some ⟨g', 0, none⟩) (l.length + 1) cap') (l.length + 1) (inC (l ++ [x])) ∧ w.grownBy w' (some g) ∧ (g' = g ∨ g' = w.heap.size) := by
  obtain ⟨i0, hi, hz0, hz1, hz2⟩ := info_parts info3
  have RI : RowIn w w.heap.size (some ⟨b, 0, none⟩) [Value.int .i64 x] := fun _ => ⟨b, 0, rfl, World.block_lt_of_cell? w _ hx, fun i u hu => by
    match i, hu with
    | 0, hu => cases hu; exact hx⟩
  have RD : Hid (Reads w w.heap.size 1 (some ⟨b, 0, none⟩) 1 [.int .i64 x]) := Lib.hid RI.reads
  have OD := Lib.hid (one_int x)
  have O0 := Lib.hid h
  have EI : Hid (inC l ++ [Value.int .i64 x] = inC (l ++ [x])) := Lib.hid (by simp [inC])
  obtain ⟨n, hn⟩ : ∃ n, n = l.length := ⟨_, rfl⟩
  have HN := Lib.hid hn
  rw [← hn] at hl O0 hc ⊢
  have y1 : n + 1 ≤ maxLen := by unfold maxLen; omega
  have y2 : (n + 1) * 8 ≤ 140737488355328 := by omega
  have nc : ¬ (cap : Int) < (n : Int) := by omega
  have nc' : (n : Int) ≤ (cap : Int) := by omega
  clear RI hx h hn
  go_enter Try.func57, Try.ntmps57
  go_upto_region 2 with (fail)
  go_upto_region 7 with (fail)
  go_wp2_with (at_builtin; refine wpList_append_any _ rfl (.tmp 23) (.tmp 24) 23 rfl base 3 i0 (.int .i64 0) 1 8 Try.underlying23 hi hz0 hz1 hz2 rfl (by decide) (.slice (some ⟨g, 0, none⟩) n cap) n (inC l) rfl O0.out w.heap.size (some ⟨b, 0, none⟩) 1 c [.int .i64 x] rfl RD.out OD.out y1 y2 hb ?_; intro v25 w1 hown1 hg1 hat1)
  all_goals
    obtain ⟨g', cap', rfl, hbg, hlt⟩ := World.ownsRow.form hown1 (Nat.succ_pos _)
    go_ret
    refine ⟨g', cap', rfl, by rw [← EI.out]; exact hown1, hg1, ?_⟩
    rcases hat1 with e | e
    · exact .inl (by simpa [Value.ownBlock] using e)
    · exact .inr (by simpa [Value.ownBlock] using e)
end Go.Proofs.Ytpaihfdmjkfegaa.Cl

/- slices.Insert of one int, into any row of one's own, at any place. -/
namespace Go.Proofs.Ytpaihfdmjkfegaa.Cl
open Go.RowKit Go.Lib Go.Maps Go.Proofs.Ytpaihfdmjkfegaa.MapF Go.Proofs.Ytpaihfdmjkfegaa.Msg Go.Proofs.Ytpaihfdmjkfegaa.Ck Go.Proofs.Ytpaihfdmjkfegaa.Sta Go.Proofs.Ytpaihfdmjkfegaa.Rd

/-- A row with one more. -/
def insL (l : List Int) (i : Nat) (x : Int) : List Int := l.take i ++ x :: l.drop i
theorem insL_get (l : List Int) (i : Nat) (x : Int) (hi : i ≤ l.length) (j : Nat) : (insL l i x)[j]? = if j < i then l[j]? else if j = i then some x else l[j - 1]? := by
  unfold insL
  rcases Nat.lt_trichotomy j i with h | h | h
  · rw [if_pos h, List.getElem?_append_left (by rw [List.length_take]; omega), List.getElem?_take, if_pos h]
  · subst h
    rw [if_neg (by omega), if_pos rfl, List.getElem?_append_right (by rw [List.length_take]; omega), List.length_take, Nat.min_eq_left hi, Nat.sub_self]
    rfl
  · rw [if_neg (by omega), if_neg (by omega), List.getElem?_append_right (by rw [List.length_take]; omega), List.length_take, Nat.min_eq_left hi, show j - i = (j - i - 1) + 1 by omega, List.getElem?_cons_succ, List.getElem?_drop]
    congr 1
    omega
theorem insL_len (l : List Int) (i : Nat) (x : Int) : (insL l i x).length = l.length + 1 := by
  unfold insL
  simp only [List.length_append, List.length_take, List.length_cons, List.length_drop]
  omega
theorem inC_get (l : List Int) (j : Nat) : (inC l)[j]? = (l[j]?).map (Value.int .i64 ·) := by unfold inC; rw [List.getElem?_map]
theorem row_insA (cur : List Value) (l : List Int) (i : Nat) (x : Int) (hi : i ≤ l.length) (hc : l.length + 1 ≤ cur.length) (h : ∀ j, j < i → cur[j]? = (inC l)[j]?) :
    (over (over cur (i + 1) ((inC l).drop i)) i [.int .i64 x]).take (l.length + 1) = inC (insL l i x) := by
  apply List.ext_getElem?
  intro j
  have e1 : ((inC l).drop i).length = l.length - i := by rw [List.length_drop, inC_len]
  rw [List.getElem?_take, inC_get, insL_get l i x hi j]
  by_cases hj : j < l.length + 1
  · rw [if_pos hj, over_get _ _ _ _ (by rw [over_len]; simp only [List.length_singleton]; omega), over_get _ _ _ _ (by omega)]
    rcases Nat.lt_trichotomy j i with h1 | h1 | h1
    · rw [if_neg (by omega), if_neg (by omega), if_pos h1, h j h1, inC_get]
    · subst h1
      rw [if_pos (by simp), if_neg (by omega), if_pos rfl, Nat.sub_self]
      rfl
    · rw [if_neg (by simp only [List.length_singleton]; omega), if_pos (by omega), if_neg (by omega), if_neg (by omega), List.getElem?_drop, inC_get]
      congr 2
      omega
  · rw [if_neg hj, if_neg (by omega), if_neg (by omega), List.getElem?_eq_none (by omega)]
    rfl
theorem row_insB (cur : List Value) (l : List Int) (i : Nat) (x : Int) (hi : i ≤ l.length) (hc : l.length + 1 ≤ cur.length) (h : ∀ j, j < i → cur[j]? = (inC l)[j]?) :
    (over (over cur i [.int .i64 x]) (i + 1) ((inC l).drop i)).take (l.length + 1) = inC (insL l i x) := by
  apply List.ext_getElem?
  intro j
  have e1 : ((inC l).drop i).length = l.length - i := by rw [List.length_drop, inC_len]
  rw [List.getElem?_take, inC_get, insL_get l i x hi j]
  by_cases hj : j < l.length + 1
  · rw [if_pos hj, over_get _ _ _ _ (by rw [over_len]; omega), over_get _ _ _ _ (by simp only [List.length_singleton]; omega)]
    rcases Nat.lt_trichotomy j i with h1 | h1 | h1
    · rw [if_neg (by omega), if_neg (by omega), if_pos h1, h j h1, inC_get]
    · subst h1
      rw [if_neg (by omega), if_pos (by simp), if_neg (by omega), if_pos rfl, Nat.sub_self]
      rfl
    · rw [if_pos (by omega), if_neg (by omega), if_neg (by omega), List.getElem?_drop, inC_get]
      congr 2
      omega
  · rw [if_neg hj, if_neg (by omega), if_neg (by omega), List.getElem?_eq_none (by omega)]
    rfl
theorem inC_one' (l : List Int) : ∀ v ∈ inC l, v.oneCell' = true := inC_one l

theorem insert_any (base : Nat) (l : List Int) (v : Value) (i b c : Nat) (x : Int) (w : World) (hl : l.length ≤ 1000) (hi : i ≤ l.length) (h : w.ownsRow base 3 1 v l.length (inC l)) (hb : base ≤ w.heap.size) (hx : Blk w b 3 #[.int .i64 x]) (hvb : v.ownBlock ≠ some b) :
    Calls Try.prog 57 #[v, .int .i64 (i : Int), .slice (some ⟨b, 0, none⟩) 1 c] w fun e w' => ∃ g cap, e = .returned (.slice (some ⟨g, 0, none⟩) (l.length + 1) cap) ∧ w'.ownsRow base 3 1 (.slice (some ⟨g, 0, none⟩) (l.length + 1) cap) (l.length + 1) (inC (insL l i x)) ∧ Chg (fun j => v.ownBlock = some j) w w' ∧ (v.ownBlock = some g ∨ w.heap.size ≤ g) := by
  have x0 : w.cell? ⟨b, 0, none⟩ = some (.int .i64 x) := hx.cell 0
  by_cases hin : i = l.length
  · subst hin
    have el : insL l l.length x = l ++ [x] := by unfold insL; rw [List.take_length, List.drop_length]
    rw [el]
    rcases h.2 with ⟨rfl, h0⟩ | ⟨g, cap, cur, rfl, hbs, hg, hn, hm, hs, ht⟩
    · have hl0 : l = [] := List.length_eq_zero_iff.1 h0
      subst hl0
      refine (insert_nil b c x w x0).mono ?_
      rintro e w' ⟨g, cap, rfl, h1, h2, h3⟩
      exact ⟨g, cap, rfl, World.ownsRow.mono h2 hb, Chg.of h3, .inr h1⟩
    · refine (insert_end base l g cap b c x w hl h hb x0 ⟨hn, hm⟩).mono ?_
      rintro e w' ⟨g', cap', rfl, h1, h2, h3⟩
      refine ⟨g', cap', rfl, h1, (Chg.grown h2).more (fun j _ e => by rw [e]; rfl), ?_⟩
      rcases h3 with rfl | rfl
      · exact .inl rfl
      · exact .inr (Nat.le_refl _)
  · have hil : i < l.length := by omega
    rcases h.2 with ⟨rfl, h0⟩ | ⟨g, cap, cur, rfl, hbs, hg, hn, hm, hs, ht⟩
    · omega
    have B0 : Blk w g 3 cur := hg
    have gb : b ≠ g := fun e => hvb (by rw [e]; rfl)
    have hc : ∀ j, j < l.length → cur[j]? = (inC l)[j]? := fun j hj => by
      rw [← ht, List.getElem?_take, if_pos (by omega), Array.getElem?_toList]
    have hcs : ∀ j u, (inC l)[j]? = some u → w.cell? ⟨g, 0 + j, none⟩ = some u := fun j u hu => by
      have hj : j < l.length := by have := (List.getElem?_eq_some_iff.1 hu).1; rwa [inC_len] at this
      rw [Nat.zero_add, B0.cell, hc j hj]
      exact hu
    have hvs : ∀ j u, ([Value.int .i64 x] : List Value)[j]? = some u → w.cell? ⟨b, 0 + j, none⟩ = some u := fun j u hu => by
      match j, hu with
      | 0, hu => cases hu; exact x0
    have hv1 : ∀ u ∈ ([Value.int .i64 x] : List Value), u.oneCell' = true := one_int x
    rcases Nat.lt_or_ge cap (l.length + 1) with hroom | hroom
    · refine (Any2.slices_Insert_int_grow Try.insI g 0 l.length cap i b 0 1 c (inC l) [.int .i64 x] w hil (by decide) hn hroom (by omega) (inC_len l) rfl hcs hvs (inC_one' l) hv1).mono ?_
      rintro e w' ⟨rfl, rfl⟩
      obtain ⟨G, hG⟩ : ∃ G, G = grownCap w (l.length + 1) cap (Try.insI_ren.t 3) := ⟨_, rfl⟩
      rw [← hG]
      have g1 : l.length + 1 ≤ G := by rw [hG]; exact grownCap_ge w _ _ _
      have g2 : G ≤ maxLen := by rw [hG]; exact grownCap_le_maxLen w _ _ _ (by unfold maxLen; omega)
      obtain ⟨ROW, hROW⟩ : ∃ ROW : Array Value, ROW = ((inC l).take i).toArray ++ Builtin.zeroCells (Value.int .i64 0).cells (l.length + 1 - i) ++ Builtin.zeroCells (Value.int .i64 0).cells (G - (l.length + 1)) := ⟨_, rfl⟩
      have hR : ROW.size = G := by
        rw [hROW]
        simp [Builtin.zeroCells, Value.cells, inC_len]
        omega
      have hR0 : ∀ j, j < i → ROW.toList[j]? = (inC l)[j]? := fun j hj => by
        rw [hROW, Array.getElem?_toList, Array.getElem?_append_left (by simp [inC_len]; omega), Array.getElem?_append_left (by simp [inC_len]; omega)]
        simp [hj]
      rw [← hROW]
      have N1 : Blk (w.alloc (.cells ROW 3)).drew w.heap.size 3 ROW := (Blk.new w 3 ROW).drew
      have N2 := blk_sets [Value.int .i64 x] i N1
      have N3 := blk_sets ((inC l).drop i) (i + 1) N2.drew
      refine ⟨w.heap.size, G, rfl, ⟨by rw [inC_len, insL_len, Nat.mul_one], .inr ⟨w.heap.size, G, _, rfl, hb, N3, g1, g2, ?_, ?_⟩⟩, ?_, .inr (Nat.le_refl _)⟩
      · simp [over_len, hR]
      · rw [Nat.mul_one]
        exact row_insB ROW.toList l i x hi (by simpa [hR] using g1) hR0
      · exact Chg.sets _ _ _ ((Chg.sets _ _ _ (((Chg.refl _ w).alloc _).drew) (.inl (Nat.le_refl _))).drew) (.inl (Nat.le_refl _))
    · have hsz : cur.size = cap := by omega
      refine (Any2.slices_Insert_int_shift Try.insI g 0 l.length cap i b 0 1 c (inC l) [.int .i64 x] w hil (by decide) hroom (by unfold maxLen at hm; omega) gb (inC_len l) rfl hcs
        (fun j hj => by rw [Nat.zero_add, B0.cell, Array.getElem?_eq_getElem (by omega)]; rfl) (fun j hj => by rw [Nat.zero_add]; exact B0.frozen j) hvs (inC_one' l) hv1
        3 3 1 cap (by unfold Blk at hx; simp [World.shape?, hx]) (by simp [World.shape?, hg, hsz]) (by omega) (hx.frozen 0) (hx.frozen 1)).mono ?_
      rintro e w' ⟨rfl, rfl⟩
      rw [Nat.zero_add, Nat.zero_add]
      have N2 := blk_sets ((inC l).drop i) (i + 1) B0.drew
      have N3 := blk_sets [Value.int .i64 x] i N2
      refine ⟨g, cap, rfl, ⟨by rw [inC_len, insL_len, Nat.mul_one], .inr ⟨g, cap, _, rfl, hbs, N3, hroom, hm, ?_, ?_⟩⟩, ?_, .inl rfl⟩
      · simp [over_len, hsz]
      · rw [Nat.mul_one]
        exact row_insA cur.toList l i x hi (by simpa [hsz] using hroom) (fun j hj => by rw [Array.getElem?_toList]; exact hc j (by omega))
      · exact Chg.sets _ _ _ (Chg.sets _ _ _ ((Chg.refl _ w).drew) (.inr rfl)) (.inr rfl)
end Go.Proofs.Ytpaihfdmjkfegaa.Cl
