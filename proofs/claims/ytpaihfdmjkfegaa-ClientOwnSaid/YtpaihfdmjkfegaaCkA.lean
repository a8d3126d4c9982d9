/- Keys, first keys: dir.New and the document's New, walked. -/
import Derived.Test.YtpaihfdmjkfegaaStaO
namespace Go.Proofs.Ytpaihfdmjkfegaa.Ck
open Go.RowKit Go.Lib Go.Proofs.Ytpaihfdmjkfegaa.Sta Go.Proofs.Ytpaihfdmjkfegaa.Rd

def keyB (s : ByteArray) : Bool := decide (1 ≤ s.size) && decide (s.size ≤ 32)

theorem key_any (s : ByteArray) (w : World) : Calls Try.prog 31 #[.string s] w fun e w' => e = .returned (.bool (keyB s)) ∧ w' = w := by
  unfold keyB
  by_cases h1 : 1 ≤ s.size
  · have i1 : (1 : Int) ≤ (s.size : Int) := by omega
    by_cases h2 : s.size ≤ 32
    · have i2 : (s.size : Int) ≤ 32 := by omega
      rw [decide_eq_true h1, decide_eq_true h2]
      go_enter Try.func31, Try.ntmps31
      go_wp2
      go_ret
      exact ⟨rfl, rfl⟩
    · have i2 : ¬ (s.size : Int) ≤ 32 := by omega
      rw [decide_eq_true h1, decide_eq_false h2]
      go_enter Try.func31, Try.ntmps31
      go_wp2
      go_ret
      exact ⟨rfl, rfl⟩
  · have i1 : ¬ (1 : Int) ≤ (s.size : Int) := by omega
    rw [decide_eq_false h1]
    go_enter Try.func31, Try.ntmps31
    go_wp2
    go_ret
    exact ⟨rfl, rfl⟩
theorem refkey_any (s : ByteArray) (w : World) : Calls Try.prog 37 #[.string s] w fun e w' => e = .returned (.bool (keyB s)) ∧ w' = w := by
  unfold keyB
  by_cases h1 : 1 ≤ s.size
  · have i1 : (1 : Int) ≤ (s.size : Int) := by omega
    by_cases h2 : s.size ≤ 32
    · have i2 : (s.size : Int) ≤ 32 := by omega
      rw [decide_eq_true h1, decide_eq_true h2]
      go_enter Try.func37, Try.ntmps37
      go_wp2
      go_ret
      exact ⟨rfl, rfl⟩
    · have i2 : ¬ (s.size : Int) ≤ 32 := by omega
      rw [decide_eq_true h1, decide_eq_false h2]
      go_enter Try.func37, Try.ntmps37
      go_wp2
      go_ret
      exact ⟨rfl, rfl⟩
  · have i1 : ¬ (1 : Int) ≤ (s.size : Int) := by omega
    rw [decide_eq_false h1]
    go_enter Try.func37, Try.ntmps37
    go_wp2
    go_ret
    exact ⟨rfl, rfl⟩

theorem below_drewN {B : Nat} {a w : World} (h : Below B a w) (n : Nat) : Below B a (w.drewN n) := ⟨h.os, h.tape, h.output, h.size, h.block⟩

/-- A slice reads as these values, one cell each. -/
def RowIn (w : World) (B : Nat) (A : Option Addr) (l : List Value) : Prop :=
  0 < l.length → ∃ b o, A = some ⟨b, o, none⟩ ∧ b < B ∧ ∀ (i : Nat) (x : Value), l[i]? = some x → w.cell? ⟨b, o + i, none⟩ = some x
section
variable {w w' : World} {B B' : Nat} {A : Option Addr} {l : List Value}
theorem RowIn.below (h : RowIn w B A l) (hb : Below B w w') : RowIn w' B A l := fun hl => by
  obtain ⟨b, o, rfl, hB, hc⟩ := h hl
  exact ⟨b, o, rfl, hB, fun i x hx => (hb.cell (p := ⟨b, o + i, none⟩) hB).trans (hc i x hx)⟩
theorem RowIn.more (h : RowIn w B A l) (hb : B ≤ B') : RowIn w B' A l := fun hl => by
  obtain ⟨b, o, rfl, hB, hc⟩ := h hl
  exact ⟨b, o, rfl, by omega, hc⟩
theorem RowIn.reads (h : RowIn w B A l) : Reads w B 1 A l.length l := by
  refine ⟨by simp, fun hl => ?_⟩
  obtain ⟨b, o, rfl, hb, hc⟩ := h hl
  exact ⟨_, rfl, hb, fun j u hu => by rw [Addr.add_lit]; exact hc j u hu⟩
theorem RowIn.of_own {base g cap n : Nat} {e : TypeId} (h : w.ownsRow base e 1 (.slice (some ⟨g, 0, none⟩) n cap) n l) : RowIn w w.heap.size (some ⟨g, 0, none⟩) l := fun _ => by
  refine ⟨g, 0, rfl, (own_bounds h).2.1, fun i x hx => ?_⟩
  have := h.cells (g := g) rfl i x hx
  rwa [Addr.add_lit] at this
end
def sV (s : ByteArray) : Value := .string s
theorem sV_one (l : List ByteArray) : ∀ u ∈ l.map sV, u.oneCell' = true := by
  intro u hu
  obtain ⟨x, _, rfl⟩ := List.mem_map.1 hu
  rfl

theorem infoStr : (Try.prog.info? 9).map (fun i => (i.zero, i.size, i.bytes)) = some (some (.string ByteArray.empty), 1, 16) := by kernel_rfl

/-- A slice that reads as these values, in a block not below lo. -/
def RowFrom (lo : Nat) (w : World) (A : Option Addr) (l : List Value) : Prop :=
  0 < l.length → ∃ b o, A = some ⟨b, o, none⟩ ∧ lo ≤ b ∧ b < w.heap.size ∧ ∀ (i : Nat) (x : Value), l[i]? = some x → w.cell? ⟨b, o + i, none⟩ = some x
theorem RowFrom.in_ {lo : Nat} {w : World} {A : Option Addr} {l : List Value} (h : RowFrom lo w A l) : RowIn w w.heap.size A l := fun hl => by
  obtain ⟨b, o, rfl, _, hB, hc⟩ := h hl
  exact ⟨b, o, rfl, hB, hc⟩
theorem RowFrom.below {lo : Nat} {w w' : World} {A : Option Addr} {l : List Value} (h : RowFrom lo w A l) (hb : Below w.heap.size w w') : RowFrom lo w' A l := fun hl => by
  obtain ⟨b, o, rfl, h1, hB, hc⟩ := h hl
  exact ⟨b, o, rfl, h1, Nat.lt_of_lt_of_le hB hb.size, fun i x hx => (hb.cell (p := ⟨b, o + i, none⟩) hB).trans (hc i x hx)⟩
theorem RowFrom.of_own {base n : Nat} {A : Option Addr} {c : Nat} {e : TypeId} {w : World} {l : List Value} (h : w.ownsRow base e 1 (.slice A n c) n l) : RowFrom base w A l := fun hl => by
  have hn : 0 < n := by have := h.1; omega
  obtain ⟨g, c', hv, hb, hlt⟩ := World.ownsRow.form h hn
  injection hv with hA _ _
  refine ⟨g, 0, hA, hb, hlt, fun i x hx => ?_⟩
  have := h.cells (g := g) (by rw [hA]; rfl) i x hx
  rwa [Addr.add_lit] at this

set_option maxHeartbeats 1600000 in
/-- slices.Clone of strings. -/
theorem cloneStr_any (l : List ByteArray) (A : Option Addr) (c : Nat) (w : World) (hR : RowIn w w.heap.size A (l.map sV)) (hl : l.length ≤ 100000) :
    Calls Try.prog 32 #[.slice A l.length c] w fun e w' => ∃ A' c', e = .returned (.slice A' l.length c') ∧ RowFrom w.heap.size w' A' (l.map sV) ∧ Below w.heap.size w w' := by
  have HR := Lib.hid hR
  obtain ⟨n, hn⟩ : ∃ n, n = l.length := ⟨_, rfl⟩
  have HN := Lib.hid hn
  rw [← hn]
  rw [← hn] at hl
  clear hR hn
  obtain ⟨i0, hi, hz0, hz1, hz2⟩ := info_parts infoStr
  have hne := fun w => Lib.run_eql_slice_nil (P := Try.prog) w 22 9 A n c 0 0 Try.underlying22
  cases A with
  | none =>
    have hz : n = 0 := by
      rcases Nat.eq_zero_or_pos n with h | h
      · exact h
      · obtain ⟨b, o, e, _⟩ := HR.out (by rw [List.length_map, ← HN.out]; exact h)
        cases e
    subst hz
    have hnil : l = [] := List.eq_nil_of_length_eq_zero HN.out.symm
    subst hnil
    simp only [Option.isNone_none] at hne
    go_enter Try.func32, Try.ntmps32
    go_wp2
    go_ret
    exact ⟨none, 0, rfl, fun h => absurd h (by simp), Below.refl _ _⟩
  | some ad =>
    simp only [Option.isNone_some] at hne
    have B0 : Hid (Below w.heap.size w (w.alloc (.cells #[] 9))) := Lib.hid ((Below.refl _ _).alloc (Nat.le_refl _) _)
    have OWN0 : Hid ((w.alloc (.cells #[] 9)).ownsRow w.heap.size 9 1 (.slice (some ⟨w.heap.size, 0, none⟩) 0 0) 0 []) := Lib.hid (World.ownsRow_made w #[] 0 (Nat.le_refl _) (by unfold maxLen; omega) rfl)
    have RD : Hid (Reads (w.alloc (.cells #[] 9)) w.heap.size 1 (some ad) n (l.map sV)) := by
      have := (HR.out.below B0.out).reads
      rwa [List.length_map, ← HN.out] at this
    have OD := Lib.hid (sV_one l)
    have y1 : 0 + n ≤ maxLen := by unfold maxLen; omega
    have y2 : (0 + n) * 16 ≤ 140737488355328 := by omega
    have yb : w.heap.size ≤ (w.alloc (.cells #[] 9)).heap.size := B0.out.size
    go_enter Try.func32, Try.ntmps32
    go_wp2_with (at_builtin; refine wpList_append_any _ rfl (.tmp 5) (.tmp 6) 22 rfl w.heap.size 9 i0 (.string ByteArray.empty) 1 16 Try.underlying22 hi hz0 hz1 hz2 rfl (by decide) _ 0 [] rfl OWN0.out w.heap.size (some ad) n c (l.map sV) rfl RD.out OD.out y1 y2 yb ?_; intro v7 w1 hown1 hg1 hat1)
    rw [Nat.zero_add, List.nil_append] at hown1
    obtain ⟨A', c', rfl⟩ := own_form hown1
    have B1 : Hid (Below w.heap.size w w1) := Lib.hid (B0.out.grown hg1 yb (fun j hj => by cases hj; exact Nat.le_refl _))
    have O1 := Lib.hid hown1
    clear hown1 hg1 hat1
    go_wp2_with fail
    go_ret
    exact ⟨A', c', rfl, RowFrom.of_own O1.out, B1.out⟩

/-- One is not less than another. -/
def geS (a b : ByteArray) : Bool := !(Op.bytesLess a.toList b.toList)
/-- What is wrong with first keys. -/
def dirE : Option ByteArray → List ByteArray → Int
  | _, [] => 0
  | p, s :: t => if keyB s = false then 120 else if (match p with | none => false | some q => geS q s) then 2 else dirE (some s) t
def dirErr (l : List ByteArray) : Int := if 8 ≤ l.length then 9 else dirE none l
def prevOf (l : List ByteArray) (i : Nat) : Option ByteArray := if i = 0 then none else l[i - 1]?
theorem dirE_key (l : List ByteArray) (i : Nat) (s : ByteArray) (h : l[i]? = some s) (hk : keyB s = false) (he : dirE (prevOf l i) (l.drop i) = dirE none l) : dirE none l = 120 := by
  have hi : i < l.length := (List.getElem?_eq_some_iff.1 h).1
  have hd : l.drop i = s :: l.drop (i + 1) := by
    rw [List.drop_eq_getElem_cons hi]
    rw [List.getElem?_eq_getElem hi] at h
    cases h
    rfl
  rw [← he, hd]
  unfold dirE
  rw [if_pos hk]
theorem dirE_ge (l : List ByteArray) (i : Nat) (s q : ByteArray) (h : l[i]? = some s) (hk : keyB s = true) (hq : prevOf l i = some q) (hg : geS q s = true) (he : dirE (prevOf l i) (l.drop i) = dirE none l) : dirE none l = 2 := by
  have hi : i < l.length := (List.getElem?_eq_some_iff.1 h).1
  have hd : l.drop i = s :: l.drop (i + 1) := by
    rw [List.drop_eq_getElem_cons hi]
    rw [List.getElem?_eq_getElem hi] at h
    cases h
    rfl
  rw [← he, hd, hq]
  unfold dirE
  rw [hk, if_neg (by decide), if_pos hg]
theorem dirE_on (l : List ByteArray) (i : Nat) (s : ByteArray) (h : l[i]? = some s) (hk : keyB s = true) (hg : ∀ q, prevOf l i = some q → geS q s = false) (he : dirE (prevOf l i) (l.drop i) = dirE none l) : dirE (prevOf l (i + 1)) (l.drop (i + 1)) = dirE none l := by
  have hi : i < l.length := (List.getElem?_eq_some_iff.1 h).1
  have hd : l.drop i = s :: l.drop (i + 1) := by
    rw [List.drop_eq_getElem_cons hi]
    rw [List.getElem?_eq_getElem hi] at h
    cases h
    rfl
  have hp : prevOf l (i + 1) = some s := by unfold prevOf; rw [if_neg (by omega)]; exact h
  rw [← he, hd, hp]
  conv => rhs; unfold dirE
  rw [hk, if_neg (by decide), if_neg]
  cases hq : prevOf l i with
  | none => exact Bool.false_ne_true
  | some q => show ¬ geS q s = true; rw [hg q hq]; exact Bool.false_ne_true
theorem dirE_end (l : List ByteArray) (i : Nat) (h : l.length ≤ i) (he : dirE (prevOf l i) (l.drop i) = dirE none l) : dirE none l = 0 := by
  rw [← he, List.drop_eq_nil_of_le h]
  cases prevOf l i <;> rfl

/-- What dir.New lays. -/
def DirAt (lo : Nat) (w : World) (D : Option Addr) (l : List ByteArray) : Prop :=
  ∃ p A c, D = some ⟨p, 0, none⟩ ∧ lo ≤ p ∧ p < w.heap.size ∧ w.cell? ⟨p, 0, none⟩ = some (.slice A l.length c) ∧ RowFrom lo w A (l.map sV)

set_option maxRecDepth 100000 in
set_option maxHeartbeats 3200000 in
theorem dirNew_any (l : List ByteArray) (A : Option Addr) (c : Nat) (w : World) (hR : RowIn w w.heap.size A (l.map sV)) :
    Calls Try.prog 20 #[.slice A l.length c] w fun e w' => ∃ D, e = .returned (.tuple #[.pointer D, .int .i64 (dirErr l)]) ∧ (dirErr l = 0 → DirAt w.heap.size w' D l) ∧ (dirErr l ≠ 0 → D = none) ∧ Below w.heap.size w w' := by
  have HR := Lib.hid hR
  have CL := Lib.hid (fun (hl : l.length ≤ 100000) w' (hb : Below w.heap.size w w') => cloneStr_any l A c w' ((hR.below hb).more hb.size) hl)
  obtain ⟨n, hn⟩ : ∃ n, n = l.length := ⟨_, rfl⟩
  have HN := Lib.hid hn
  rw [← hn] at CL ⊢
  by_cases h8 : 8 ≤ n
  · have hE : dirErr l = 9 := by unfold dirErr; rw [if_pos (by omega)]
    rw [hE]
    have h8' : (8 : Int) ≤ (n : Int) := by omega
    clear hR hn
    go_enter Try.func20, Try.ntmps20
    go_wp2
    refine bodyPost_ret (v := .tuple #[.pointer none, .int .i64 9]) (by simp [results, Try.results20, go_sem]) rfl ⟨none, rfl, (fun h => by cases h), (fun _ => rfl), Below.refl _ _⟩
  · have hE : dirErr l = dirE none l := by unfold dirErr; rw [if_neg (by omega)]
    rw [hE]
    have h8' : ¬ (8 : Int) ≤ (n : Int) := by omega
    have HE := Lib.hid hE
    clear hR hn hE
    go_enter Try.func20, Try.ntmps20
    go_wp2_with fail
    go_loopg [11] n (fun gk v11 wr => ∃ i : Nat, n - i = gk ∧ i ≤ n ∧ v11 = .int .i64 i ∧ Hid (dirE (prevOf l i) (l.drop i) = dirE none l) ∧ Hid (∃ q, wr = w.drewN q))
    case atStart => exact ⟨0, rfl, by omega, rfl, rfl, 0, (World.drewN_zero w).symm⟩
    case round =>
      obtain ⟨i, hg, hi, rfl, HD, HQ⟩ := hrel
      by_cases hlt : i < n
      · have hlt' : (i : Int) < (n : Int) := by omega
        obtain ⟨b, o, rfl, hb, hc⟩ := HR.out (by rw [List.length_map, ← HN.out]; omega)
        obtain ⟨s, hs⟩ : ∃ s, l[i]? = some s := ⟨_, List.getElem?_eq_getElem (by rw [← HN.out]; exact hlt)⟩
        obtain ⟨q, rfl⟩ := HQ.out
        have cs : (w.drewN q).cell? ⟨b, o + i, none⟩ = some (.string s) := hc i (.string s) (by rw [List.getElem?_map, hs]; rfl)
        have HS := Lib.hid hs
        have HC := Lib.hid hc
        clear hs hc
        cases hk : keyB s with
        | false =>
          have hr := dirE_key l i s HS.out hk HD.out
          have HRR := Lib.hid hr
          have KA := Lib.hid (key_any s)
          rw [hk] at KA
          clear hr hk
          as_aux_lemma =>
          go_wp2_with fail
          refine (KA.out _).mono ?_
          rintro e w1 ⟨rfl, rfl⟩
          go_wp2
          refine bodyPost_ret (v := .tuple #[.pointer none, .int .i64 120]) (by simp [results, Try.results20, go_sem]) rfl ⟨none, by rw [HRR.out], (fun h => by rw [HRR.out] at h; cases h), (fun _ => rfl), below_drewN (Below.refl _ _) _⟩
        | true =>
          have KA := Lib.hid (key_any s)
          rw [hk] at KA
          have HK := Lib.hid hk
          clear hk
          rcases Nat.eq_zero_or_pos i with hz | hp
          · subst hz
            rw [Nat.add_zero] at cs
            as_aux_lemma =>
            go_wp2_with fail
            refine (KA.out _).mono ?_
            rintro e w1 ⟨rfl, rfl⟩
            go_wp2_with fail
            go_roundg (n - 1)
            case measure => omega
            case rel => exact ⟨1, rfl, by omega, by go_num, dirE_on l 0 s HS.out HK.out (fun q hq => by cases hq) HD.out, _, rfl⟩
          · obtain ⟨j, rfl⟩ : ∃ j, i = j + 1 := ⟨i - 1, by omega⟩
            obtain ⟨p, hp⟩ : ∃ p, l[j]? = some p := ⟨_, List.getElem?_eq_getElem (by rw [← HN.out]; omega)⟩
            have cp : (w.drewN q).cell? ⟨b, o + j, none⟩ = some (.string p) := HC.out j (.string p) (by rw [List.getElem?_map, hp]; rfl)
            have HP : Hid (prevOf l (j + 1) = some p) := hp
            have jn : (j : Int) < (n : Int) := by omega
            clear hp
            cases hg : Op.bytesLess p.toList s.toList with
            | true =>
              have hgs : Hid (geS p s = false) := by show geS p s = false; unfold geS; rw [hg]; rfl
              as_aux_lemma =>
              go_wp2_with fail
              refine (KA.out _).mono ?_
              rintro e w1 ⟨rfl, rfl⟩
              go_wp2_with fail
              go_roundg (n - (j + 1 + 1))
              case measure => omega
              case rel => exact ⟨j + 1 + 1, rfl, by omega, by go_num, dirE_on l (j + 1) s HS.out HK.out (fun q hq => by rw [HP.out] at hq; cases hq; exact hgs.out) HD.out, _, rfl⟩
            | false =>
              have hr := dirE_ge l (j + 1) s p HS.out HK.out HP.out (by unfold geS; rw [hg]; rfl) HD.out
              have HRR := Lib.hid hr
              clear hr
              as_aux_lemma =>
              go_wp2_with fail
              refine (KA.out _).mono ?_
              rintro e w1 ⟨rfl, rfl⟩
              go_wp2
              refine bodyPost_ret (v := .tuple #[.pointer none, .int .i64 2]) (by simp [results, Try.results20, go_sem]) rfl ⟨none, by rw [HRR.out], (fun h => by rw [HRR.out] at h; cases h), (fun _ => rfl), below_drewN (Below.refl _ _) _⟩
      · obtain rfl : i = n := by omega
        obtain ⟨q, rfl⟩ := HQ.out
        have hr := dirE_end l i (by rw [← HN.out]; exact Nat.le_refl _) HD.out
        have HRR := Lib.hid hr
        have hnn : decide ((i : Int) < (i : Int)) = false := decide_eq_false (by omega)
        have CL1 := Lib.hid (CL.out (by omega) (w.drewN q) (below_drewN (Below.refl _ _) _))
        clear hr
        as_aux_lemma =>
        go_wp2_with fail
        refine CL1.out.mono ?_
        rintro e w1 ⟨A', c', rfl, hF, hb⟩
        have HF := Lib.hid hF
        have HB := Lib.hid ((below_drewN (Below.refl w.heap.size w) q).trans (hb.mono (Nat.le_refl _)))
        clear hF hb CL1
        go_wp2
        refine bodyPost_ret (v := .tuple #[.pointer (some ⟨w1.heap.size, 0, none⟩), .int .i64 0]) (by simp [results, Try.results20, go_sem]) rfl ⟨_, by rw [HRR.out], (fun _ => ⟨w1.heap.size, A', c', rfl, HB.out.size, by simp, by rw [← HN.out]; simp [go_sem], ?_⟩), (fun h => absurd HRR.out h), HB.out.alloc HB.out.size _⟩
        exact HF.out.below ((Below.refl _ _).alloc (Nat.le_refl _) _)
end Go.Proofs.Ytpaihfdmjkfegaa.Ck
