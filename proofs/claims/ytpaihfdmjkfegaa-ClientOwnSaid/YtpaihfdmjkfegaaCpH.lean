/- Small callees: slices.BinarySearch of strings, dir.Group, dir.Key, age.Next, Waits, Tx: walked. -/
import Derived.Test.YtpaihfdmjkfegaaCpC
import Derived.Test.YtpaihfdmjkfegaaCpE
namespace Go.Proofs.Ytpaihfdmjkfegaa.Cl
open Go.RowKit Go.Lib Go.Proofs.Ytpaihfdmjkfegaa.Sta Go.Proofs.Ytpaihfdmjkfegaa.Rd Go.Proofs.Ytpaihfdmjkfegaa.Msg Go.Proofs.Ytpaihfdmjkfegaa.Cls Go.Proofs.Ytpaihfdmjkfegaa.Ck

theorem nanS (s : ByteArray) (w : World) : Calls Try.prog 79 #[.string s] w fun e w' => e = .returned (.bool false) ∧ w' = w := by
  go_enter Try.func79, Try.ntmps79
  go_wp2
  go_ret
  exact ⟨by simp, rfl⟩
theorem nanC (s : ByteArray) (w : World) : Calls Try.prog 87 #[.string s] w fun e w' => e = .returned (.bool false) ∧ w' = w := by
  go_enter Try.func87, Try.ntmps87
  go_wp2
  go_ret
  exact ⟨by simp, rfl⟩
theorem lessS (s t : ByteArray) (w : World) : Calls Try.prog 78 #[.string s, .string t] w fun e w' => e = .returned (.bool (Op.bytesLess s.toList t.toList)) ∧ w' = w := by
  go_enter Try.func78, Try.ntmps78
  go_wp2_with (go_at_call 87; refine (nanC _ _).mono ?_; rintro e w' ⟨rfl, rfl⟩)
  go_ret
  exact ⟨by simp, rfl⟩
theorem nanI (x : Int) (w : World) : Calls Try.prog 64 #[.int .i64 x] w fun e w' => e = .returned (.bool false) ∧ w' = w := by
  go_enter Try.func64, Try.ntmps64
  go_wp2
  go_ret
  exact ⟨by simp, rfl⟩

/-- What a search hands back. -/
def BsR (n : Nat) (e : Ending) : Prop := ∃ (i : Nat) (f : Bool), e = .returned (.tuple #[.int .i64 (i : Int), .bool f]) ∧ i ≤ n ∧ (f = true → i < n)

set_option maxRecDepth 100000 in
set_option maxHeartbeats 4000000 in
theorem bsS (l : List ByteArray) (A : Option Addr) (c : Nat) (s : ByteArray) (w : World) (hR : RowIn w w.heap.size A (l.map sV)) (hl : l.length ≤ 1000) :
    Calls Try.prog 62 #[.slice A l.length c, .string s] w fun e w' => BsR l.length e ∧ w' = w := by
  have HR := Lib.hid hR
  obtain ⟨n, hn⟩ : ∃ n, n = l.length := ⟨_, rfl⟩
  have HN := Lib.hid hn
  rw [← hn] at hl ⊢
  clear hR hn
  go_enter Try.func62, Try.ntmps62
  go_wp2_with fail
  go_loopg [7, 8] n (fun gk v7 v8 wr => ∃ lo hi : Nat, hi - lo = gk ∧ lo ≤ hi ∧ hi ≤ n ∧ v7 = .int .i64 lo ∧ v8 = .int .i64 hi ∧ wr = w)
  case atStart => exact ⟨0, n, by omega, by omega, by omega, rfl, rfl, rfl⟩
  case round =>
    obtain ⟨lo, hi, hg, h1, h2, rfl, rfl, rfl⟩ := hrel
    by_cases hlt : lo < hi
    · have hlt' : (lo : Int) < (hi : Int) := by omega
      obtain ⟨b, o, rfl, hb, hc⟩ := HR.out (by rw [List.length_map, ← HN.out]; omega)
      obtain ⟨m, hm⟩ : ∃ m, m = (lo + hi) / 2 := ⟨_, rfl⟩
      have m1 : lo ≤ m := by omega
      have m2 : m < hi := by omega
      obtain ⟨x, hx⟩ : ∃ x, l[m]? = some x := ⟨_, List.getElem?_eq_getElem (by rw [← HN.out]; omega)⟩
      have cx : wr.cell? ⟨b, o + m, none⟩ = some (.string x) := hc m _ (by rw [List.getElem?_map, hx]; rfl)
      have e1 : IntKind.i64.wrap ((lo : Int) + (hi : Int)) = ((lo + hi : Nat) : Int) := by rw [IntWalk.i64_in _ (by omega)]; omega
      have mn : (m : Int) < (n : Int) := by omega
      clear hc hx
      go_upto_region 5 with (fail)
      have em : ((lo : Int) + (hi : Int)) / 2 = (m : Int) := by omega
      rw [em]
      clear em e1
      have LS := Lib.hid (lessS x s)
      generalize Op.bytesLess x.toList s.toList = bb at LS
      clear hm
      cases bb with
      | true =>
        have hm1 : m + 1 ≤ 1000 := by omega
        as_aux_lemma =>
        go_wp2_with (go_at_call 78; refine (LS.out _).mono ?_; rintro e w' ⟨rfl, rfl⟩)
        go_roundg (hi - (m + 1))
        case measure => omega
        case rel => exact ⟨m + 1, hi, rfl, by omega, by omega, by go_num, rfl, rfl⟩
      | false =>
        as_aux_lemma =>
        go_wp2_with (go_at_call 78; refine (LS.out _).mono ?_; rintro e w' ⟨rfl, rfl⟩)
        go_roundg (m - lo)
        case measure => omega
        case rel => exact ⟨lo, m, rfl, by omega, by omega, rfl, rfl, rfl⟩
    · obtain rfl : lo = hi := by omega
      have hn1 : decide ((lo : Int) < (lo : Int)) = false := decide_eq_false (by omega)
      by_cases hln : lo < n
      · have hln' : (lo : Int) < (n : Int) := by omega
        obtain ⟨b, o, rfl, hb, hc⟩ := HR.out (by rw [List.length_map, ← HN.out]; omega)
        obtain ⟨x, hx⟩ : ∃ x, l[lo]? = some x := ⟨_, List.getElem?_eq_getElem (by rw [← HN.out]; omega)⟩
        have cx : wr.cell? ⟨b, o + lo, none⟩ = some (.string x) := hc lo _ (by rw [List.getElem?_map, hx]; rfl)
        have N1 := Lib.hid (nanS x)
        have N2 := Lib.hid (nanS s)
        clear hc hx
        as_aux_lemma =>
        go_wp2_with (first | (go_at_call 79; refine (N1.out _).mono ?_; rintro e w' ⟨rfl, rfl⟩) | (go_at_call 79; refine (N2.out _).mono ?_; rintro e w' ⟨rfl, rfl⟩))
        all_goals
          exact bodyPost_ret (v := .tuple #[.int .i64 (lo : Int), .bool (x.toList == s.toList)]) (by simp [results, Try.results62, go_sem, *]) rfl ⟨⟨lo, _, rfl, by omega, fun _ => hln⟩, rfl⟩
      · have hln' : ¬ (lo : Int) < (n : Int) := by omega
        as_aux_lemma =>
        go_wp2_with fail
        exact bodyPost_ret (v := .tuple #[.int .i64 (lo : Int), .bool false]) (by simp [results, Try.results62, go_sem]) rfl ⟨⟨lo, _, rfl, by omega, fun h => by cases h⟩, rfl⟩

theorem bsI_nil (x : Int) (w : World) : Calls Try.prog 56 #[.slice none 0 0, .int .i64 x] w fun e w' => e = .returned (.tuple #[.int .i64 0, .bool false]) ∧ w' = w := by
  go_enter Try.func56, Try.ntmps56
  go_wp2_with fail
  go_loopg [7, 8] 1 (fun gk v7 v8 wr => v7 = .int .i64 0 ∧ v8 = .int .i64 0 ∧ wr = w)
  case atStart => exact ⟨rfl, rfl, rfl⟩
  case round =>
    obtain ⟨rfl, rfl, rfl⟩ := hrel
    go_wp2_with fail
    exact bodyPost_ret (v := .tuple #[.int .i64 0, .bool false]) (by simp [results, Try.results56, go_sem]) rfl ⟨rfl, rfl⟩

/-- slices.Insert of one into an empty row. -/
theorem insert_nil (b c : Nat) (x : Int) (w : World) (hx : w.cell? ⟨b, 0, none⟩ = some (.int .i64 x)) : Calls Try.prog 57 #[.slice none 0 0, .int .i64 0, .slice (some ⟨b, 0, none⟩) 1 c] w fun e w' => ∃ g cap, e = .returned (.slice (some ⟨g, 0, none⟩) 1 cap) ∧ w.heap.size ≤ g ∧ w'.ownsRow w.heap.size 3 1 (.slice (some ⟨g, 0, none⟩) 1 cap) 1 [.int .i64 x] ∧ Below w.heap.size w w' := by
  obtain ⟨i0, hi, hz0, hz1, hz2⟩ := info_parts info3
  have RI : RowIn w w.heap.size (some ⟨b, 0, none⟩) [Value.int .i64 x] := fun _ => ⟨b, 0, rfl, World.block_lt_of_cell? w _ hx, fun i u hu => by
    match i, hu with
    | 0, hu => cases hu; exact hx⟩
  have RD : Hid (Reads w w.heap.size 1 (some ⟨b, 0, none⟩) 1 [.int .i64 x]) := Lib.hid RI.reads
  have OD := Lib.hid (one_int x)
  have O0 : Hid (w.ownsRow w.heap.size 3 1 (.slice none 0 0) 0 []) := Lib.hid (World.ownsRow_nil _ _ _ _)
  have y1 : 0 + 1 ≤ maxLen := by unfold maxLen; omega
  have y2 : (0 + 1) * 8 ≤ 140737488355328 := by omega
  have yb : w.heap.size ≤ w.heap.size := Nat.le_refl _
  clear RI hx
  go_enter Try.func57, Try.ntmps57
  go_upto_region 7 with (fail)
  go_wp2_with (at_builtin; refine wpList_append_any _ rfl (.tmp 23) (.tmp 24) 23 rfl w.heap.size 3 i0 (.int .i64 0) 1 8 Try.underlying23 hi hz0 hz1 hz2 rfl (by decide) _ 0 [] rfl O0.out w.heap.size (some ⟨b, 0, none⟩) 1 c [.int .i64 x] rfl RD.out OD.out y1 y2 yb ?_; intro v25 w1 hown1 hg1 hat1)
  rw [Nat.zero_add, List.nil_append] at hown1
  obtain ⟨g, cap, hv, hbg, hlt⟩ := World.ownsRow.form hown1 (by omega)
  subst hv
  have B1 : Hid (Below w.heap.size w w1) := Lib.hid ((Below.refl _ _).grown hg1 yb (fun j hj => by cases hj))
  have CX := Lib.hid hown1
  clear hown1 hg1 hat1
  go_wp2_with fail
  go_ret
  exact ⟨g, cap, rfl, hbg, CX.out, B1.out⟩

theorem key_any' (D : Nat) (s : ByteArray) (w : World) : Calls Try.prog 43 #[.pointer (some ⟨D, 0, none⟩), .string s] w fun e w' => e = .returned (.int .i64 (if keyB s then 0 else 120)) ∧ w' = w := by
  have K := Lib.hid (key_any s)
  generalize keyB s = bb at K
  go_enter Try.func43, Try.ntmps43
  cases bb with
  | true =>
    go_wp2_with (go_at_call 31; refine (K.out _).mono ?_; rintro e w' ⟨rfl, rfl⟩)
    go_ret
    exact ⟨rfl, rfl⟩
  | false =>
    go_wp2_with (go_at_call 31; refine (K.out _).mono ?_; rintro e w' ⟨rfl, rfl⟩)
    go_ret
    exact ⟨rfl, rfl⟩

set_option maxHeartbeats 2000000 in
theorem group_any (D : Nat) (s : ByteArray) (l : List ByteArray) (A : Option Addr) (c : Nat) (w : World) (hk : keyB s = true) (hD : w.cell? ⟨D, 0, none⟩ = some (.slice A l.length c)) (hR : RowIn w w.heap.size A (l.map sV)) (hl : l.length ≤ 1000) :
    Calls Try.prog 55 #[.pointer (some ⟨D, 0, none⟩), .string s] w fun e w' => (∃ g : Nat, e = .returned (.int .i64 (g : Int)) ∧ g ≤ l.length) ∧ w' = w := by
  have K := Lib.hid (key_any s)
  have BS := Lib.hid (bsS l A c s w hR hl)
  rw [hk] at K
  generalize l.length = n at *
  clear hk hR
  go_enter Try.func55, Try.ntmps55
  go_upto_region 3 with (go_at_call 31; refine (K.out _).mono ?_; rintro e w' ⟨rfl, rfl⟩)
  go_wp2_with (go_at_call 62; refine BS.out.mono ?_; rintro e w' ⟨⟨i, f, rfl, h1, h2⟩, rfl⟩)
  · rename_i hf
    go_ret
    exact ⟨⟨i + 1, by go_num, h2 hf⟩, rfl⟩
  · go_ret
    exact ⟨⟨i, rfl, h1⟩, rfl⟩
end Go.Proofs.Ytpaihfdmjkfegaa.Cl
