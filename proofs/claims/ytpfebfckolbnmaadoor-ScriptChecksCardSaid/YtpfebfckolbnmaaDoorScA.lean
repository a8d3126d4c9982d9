/- Leaves of a script's Check: within, the fields of a kind, has, a fault. -/
import Derived.Test.YtpfebfckolbnmaaDoorBaseM
namespace Go.Proofs.YtpfebfckolbnmaaDoor.Sc
open Go.RowKit Go.Lib Go.Proofs.YtpfebfckolbnmaaDoor.Sta Go.Proofs.YtpfebfckolbnmaaDoor.Rd

def within (n lo hi : Int) : Bool := decide (lo ≤ n) && decide (n ≤ hi)
theorem within_any (n lo hi : Int) (w : World) : Calls Tryd.prog 37 #[.int .i64 n, .int .i64 lo, .int .i64 hi] w fun e w' => e = .returned (.bool (within n lo hi)) ∧ w' = w := by
  unfold within
  by_cases h1 : lo ≤ n
  · by_cases h2 : n ≤ hi
    · rw [decide_eq_true h1, decide_eq_true h2]
      go_enter Tryd.func37, Tryd.ntmps37
      go_wp2
      go_ret
      exact ⟨rfl, rfl⟩
    · rw [decide_eq_true h1, decide_eq_false h2]
      go_enter Tryd.func37, Tryd.ntmps37
      go_wp2
      go_ret
      exact ⟨rfl, rfl⟩
  · rw [decide_eq_false h1]
    go_enter Tryd.func37, Tryd.ntmps37
    go_wp2
    go_ret
    exact ⟨rfl, rfl⟩
theorem refwithin_any (n lo hi : Int) (w : World) : Calls Tryd.prog 24 #[.int .i64 n, .int .i64 lo, .int .i64 hi] w fun e w' => e = .returned (.bool (within n lo hi)) ∧ w' = w := by
  unfold within
  by_cases h1 : lo ≤ n
  · by_cases h2 : n ≤ hi
    · rw [decide_eq_true h1, decide_eq_true h2]
      go_enter Tryd.func24, Tryd.ntmps24
      go_wp2
      go_ret
      exact ⟨rfl, rfl⟩
    · rw [decide_eq_true h1, decide_eq_false h2]
      go_enter Tryd.func24, Tryd.ntmps24
      go_wp2
      go_ret
      exact ⟨rfl, rfl⟩
  · rw [decide_eq_false h1]
    go_enter Tryd.func24, Tryd.ntmps24
    go_wp2
    go_ret
    exact ⟨rfl, rfl⟩

/-- The letters of a kind's fields. -/
def fieldsR (k : Int) : ByteArray :=
  if k = 1 ∨ k = 5 ∨ k = 6 ∨ k = 7 then ⟨#[67]⟩ else if k = 2 ∨ k = 4 then ⟨#[67, 75]⟩ else if k = 3 then ⟨#[67, 75, 86]⟩
  else if k = 8 ∨ k = 9 ∨ k = 10 ∨ k = 11 ∨ k = 16 then ⟨#[65, 88]⟩ else if k = 15 ∨ k = 17 ∨ k = 18 then ⟨#[65]⟩ else if k = 12 then ⟨#[78, 88]⟩
  else if k = 13 ∨ k = 14 then ⟨#[78]⟩ else ⟨#[]⟩
theorem kinds {k : Int} (h1 : 1 ≤ k) (h2 : k ≤ 18) : k = 1 ∨ k = 2 ∨ k = 3 ∨ k = 4 ∨ k = 5 ∨ k = 6 ∨ k = 7 ∨ k = 8 ∨ k = 9 ∨ k = 10 ∨ k = 11 ∨ k = 12 ∨ k = 13 ∨ k = 14 ∨ k = 15 ∨ k = 16 ∨ k = 17 ∨ k = 18 := by omega
/-- bursarref26.Fields, at a kind. -/
theorem fields_any (k : Int) (h1 : 1 ≤ k) (h2 : k ≤ 18) (w : World) : Calls Tryd.prog 40 #[.int .i64 k] w fun e w' => e = .returned (.string (fieldsR k)) ∧ w' = w := by
  rcases kinds h1 h2 with rfl | rfl | rfl | rfl | rfl | rfl | rfl | rfl | rfl | rfl | rfl | rfl | rfl | rfl | rfl | rfl | rfl | rfl
  all_goals
    clear h1 h2
    as_aux_lemma =>
    go_enter Tryd.func40, Tryd.ntmps40
    go_wp2
    go_ret
    exact ⟨rfl, rfl⟩
/-- Is a letter among them? -/
def hasB (s : ByteArray) (f : UInt8) : Bool := s.data.toList.any (· == f)
theorem hasB_yes {s : ByteArray} {f : UInt8} {i : Nat} (hi : i < s.size) (h : ((s[i]'hi).toNat : Int) = (f.toNat : Int)) : hasB s f = true := by
  unfold hasB
  rw [List.any_eq_true]
  refine ⟨s.data[i], Array.getElem_mem_toList _, ?_⟩
  rw [beq_iff_eq]
  exact UInt8.toNat_inj.1 (by have : (s[i]'hi) = s.data[i] := rfl; rw [← this]; omega)
theorem hasB_no {s : ByteArray} {f : UInt8} (h : ∀ (i : Nat) (hi : i < s.size), ((s[i]'hi).toNat : Int) ≠ (f.toNat : Int)) : hasB s f = false := by
  unfold hasB
  rw [List.any_eq_false]
  intro x hx
  obtain ⟨i, hi, rfl⟩ := List.mem_iff_getElem.1 hx
  have hi' : i < s.size := by simpa using hi
  intro he
  rw [beq_iff_eq] at he
  refine h i hi' ?_
  have e : (s[i]'hi') = s.data.toList[i] := by rw [Array.getElem_toList]; rfl
  rw [e, he]
/-- bursarref26.has. -/
theorem has_any (k : Int) (f : UInt8) (h1 : 1 ≤ k) (h2 : k ≤ 18) (w : World) : Calls Tryd.prog 23 #[.int .i64 k, .int .u8 f.toNat] w fun e w' => e = .returned (.bool (hasB (fieldsR k) f)) ∧ w' = w := by
  have FK := Lib.hid (fields_any k h1 h2)
  have hsz : (fieldsR k).size ≤ 3 := by rcases kinds h1 h2 with rfl | rfl | rfl | rfl | rfl | rfl | rfl | rfl | rfl | rfl | rfl | rfl | rfl | rfl | rfl | rfl | rfl | rfl <;> decide
  clear h1 h2
  generalize fieldsR k = s at FK hsz ⊢
  have hx : ∀ (i : Nat) (hi : i < s.size) (w : World), (Instr.index 9 (.string s) (.int .i64 i)).run Tryd.prog w = .ok (.int .u8 ((s[i]'hi).toNat)) w := by
    intro i hi w
    rw [run_index_string w 9 s .i64 i Tryd.underlying9, dif_pos ⟨by omega, by omega⟩]
    rfl
  have HX := Lib.hid hx
  obtain ⟨n, hn⟩ : ∃ n, n = s.size := ⟨_, rfl⟩
  obtain ⟨F, hF⟩ : ∃ F : Int, F = (f.toNat : Int) := ⟨_, rfl⟩
  have HF := Lib.hid hF
  have HN := Lib.hid hn
  have hlen : ∀ w : World, (Builtin.len_ #[9] 3 #[.string s]).run Tryd.prog w = .ok (.int .i64 n) w := by
    intro w
    rw [run_len_string w 9 3 s Tryd.underlying9, ← hn]
    rfl
  rw [← hF]
  rw [← hn] at hsz
  clear hx hn hF
  go_enter Tryd.func23, Tryd.ntmps23
  go_wp2_with fail
  refine (FK.out _).mono ?_
  rintro e w1 ⟨rfl, rfl⟩
  go_wp2_with fail
  go_loopg [6] n (fun gk v6 wr => ∃ i : Nat, n - i = gk ∧ i ≤ n ∧ v6 = .int .i64 i ∧ Hid (∀ (j : Nat) (hj : j < s.size), j < i → ((s[j]'hj).toNat : Int) ≠ F) ∧ wr = w1)
  case atStart => exact ⟨0, rfl, by omega, rfl, (fun j hj h => absurd h (by omega)), rfl⟩
  case round =>
    obtain ⟨i, hg, hi, rfl, HK, rfl⟩ := hrel
    by_cases hlt : i < n
    · have hlt' : (i : Int) < (n : Int) := by omega
      have hs : i < s.size := by rw [← HN.out]; exact hlt
      have ix := HX.out i hs
      obtain ⟨c, hc⟩ : ∃ c : Int, c = ((s[i]'hs).toNat : Int) := ⟨_, rfl⟩
      rw [← hc] at ix
      have HC := Lib.hid hc
      clear hc
      by_cases hcF : c = F
      · have er : hasB s f = true := hasB_yes (by rw [← HN.out]; exact hlt) (by rw [← HC.out, hcF, HF.out])
        have hcc : (c == F) = true := by rw [hcF]; exact beq_self_eq_true F
        clear hcF
        as_aux_lemma =>
        go_wp2_with fail
        go_ret
        exact ⟨by rw [er]; rfl, rfl⟩
      · have HCF := Lib.hid hcF
        as_aux_lemma =>
        go_wp2_with fail
        go_roundg (n - (i + 1))
        case measure => omega
        case rel =>
          refine ⟨i + 1, rfl, by omega, by go_num, (fun j hj h => ?_), rfl⟩
          rcases Nat.lt_or_ge j i with c' | c'
          · exact HK.out j hj c'
          · obtain rfl : j = i := by omega
            rw [← HC.out]
            exact HCF.out
    · obtain rfl : i = n := by omega
      have er : hasB s f = false := hasB_no (fun j hj => by rw [← HF.out]; exact HK.out j hj (by rw [HN.out]; exact hj))
      have hnn : decide ((i : Int) < (i : Int)) = false := decide_eq_false (by omega)
      as_aux_lemma =>
      go_wp2_with fail
      go_ret
      exact ⟨by rw [er]; rfl, rfl⟩

/-- script.fault: a new fault. -/
theorem fault_any (at_ e : Int) (w : World) : Calls Tryd.prog 19 #[.int .i64 at_, .int .i64 e] w fun ev w' => ev = .returned (.pointer (some ⟨w.heap.size, 0, none⟩)) ∧ w' = w.alloc (.cells #[.int .i64 at_, .iface 46 (.int .i64 e)] 54) := by
  go_enter Tryd.func19, Tryd.ntmps19
  go_wp2
  go_ret
  exact ⟨rfl, rfl⟩
end Go.Proofs.YtpfebfckolbnmaaDoor.Sc
