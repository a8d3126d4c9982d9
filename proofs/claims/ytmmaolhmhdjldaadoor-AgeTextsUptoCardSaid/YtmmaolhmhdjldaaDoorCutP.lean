/- Plain: what stands before and behind the point, and both numbers. -/
import Derived.Test.YtmmaolhmhdjldaaDoorNumText
import Derived.Lib.CutLaws
namespace Go.Proofs.YtmmaolhmhdjldaaDoor.NT
open Go.Lib

/-- The number beside Atoi's error or answer. -/
def numVal (l : List UInt8) : Int := match atoiAll l with | .ok v => v | .range => atoiSat l | _ => 0

theorem parse_val {l : List UInt8} {v : Int} (h : parse l = some v) : numVal l = v := by
  rw [parse_atoi] at h
  unfold numVal
  split at h
  · rename_i x hx
    rw [hx]
    split at h
    · exact Option.some.inj h
    · cases h
  · cases h

/-- Does a text spell two numbers with a point between? -/
def twoB (l : List UInt8) : Bool := (cut l [46]).2.2 && ((parse (cut l [46]).1).isSome && (parse (cut l [46]).2.1).isSome)

theorem index_go (b : List UInt8) : ∀ a : List UInt8, (∀ c ∈ a, c ≠ 46) → index (a ++ 46 :: b) [46] = (a.length : Int) := by
  intro a
  induction a with
  | nil => intro _; simp [index]
  | cons c a ih =>
    intro h
    have h0 : c ≠ 46 := h c (by simp)
    have h1 := ih (fun x hx => h x (by simp [hx]))
    have h2 : ((46 : UInt8) == c) = false := by rw [beq_eq_false_iff_ne]; exact fun e => h0 e.symm
    have h3 : (((a.length : Int)) == -1) = false := by rw [beq_eq_false_iff_ne]; omega
    rw [List.cons_append]
    unfold index
    rw [h1]
    simp [List.isPrefixOf, h2, h3]

theorem cut_go (a b : List UInt8) (h : ∀ c ∈ a, c ≠ 46) : cut (a ++ 46 :: b) [46] = (a, b, true) := by
  have h1 := index_go b a h
  unfold cut
  rw [h1, if_pos (by omega)]
  have e1 : ((a.length : Int)).toNat = a.length := by simp
  rw [e1]
  have e2 : (a ++ 46 :: b).take a.length = a := by rw [List.take_append_of_le_length (Nat.le_refl _), List.take_length]
  have e3 : (a ++ 46 :: b).drop (a.length + [(46 : UInt8)].length) = b := by simp [List.drop_append]
  rw [e2, e3]

theorem cut_back (l : List UInt8) (h : (cut l [46]).2.2 = true) : l = (cut l [46]).1 ++ 46 :: (cut l [46]).2.1 := by
  rcases index_spec l [46] with ⟨h1, _⟩ | ⟨i, h1, _, h3, _⟩
  · exfalso
    unfold cut at h
    rw [h1, if_neg (by decide)] at h
    cases h
  · have h5 := occAt_head (c := 46) (t := []) rfl h3
    unfold cut
    rw [h1, if_pos (by omega)]
    have e1 : ((i : Int)).toNat = i := by simp
    simp only [e1, List.length_cons, List.length_nil, Nat.zero_add]
    obtain ⟨hi, h6⟩ := List.getElem?_eq_some_iff.1 h5
    have e2 : l.drop i = 46 :: l.drop (i + 1) := by rw [List.drop_eq_getElem_cons hi, h6]
    rw [← e2, List.take_append_drop]

theorem itoa_no_point (n : Int) : ∀ c ∈ itoa n, c ≠ 46 := by
  have key : ∀ u, ∀ c ∈ decDigits u, c ≠ 46 := by
    intro u c hc e
    have := (dec_facts u).2.1 c hc
    subst e
    exact absurd this.1 (by decide)
  intro c hc
  unfold itoa at hc
  split at hc
  · simp only [List.mem_cons] at hc
    rcases hc with rfl | hc
    · decide
    · exact key _ c hc
  · exact key _ c hc

theorem two_text (n c : Int) : cut (itoa n ++ [46] ++ itoa c) [46] = (itoa n, itoa c, true) := by
  rw [List.append_assoc]
  exact cut_go _ _ (itoa_no_point n)

theorem twoB_text (n c : Int) (h1 : inI n) (h2 : inI c) : twoB (itoa n ++ [46] ++ itoa c) = true := by
  unfold twoB
  rw [two_text n c, parse_itoa n h1, parse_itoa c h2]
  rfl

/-- Both numbers of a text. -/
def fstN (l : List UInt8) : Int := numVal (cut l [46]).1
def sndN (l : List UInt8) : Int := numVal (cut l [46]).2.1

theorem fst_text (n c : Int) (h1 : inI n) : fstN (itoa n ++ [46] ++ itoa c) = n := by
  unfold fstN
  rw [two_text n c]
  exact parse_val (parse_itoa n h1)
theorem snd_text (n c : Int) (h2 : inI c) : sndN (itoa n ++ [46] ++ itoa c) = c := by
  unfold sndN
  rw [two_text n c]
  exact parse_val (parse_itoa c h2)

theorem two_back (l : List UInt8) (h : twoB l = true) : inI (fstN l) ∧ inI (sndN l) ∧ l = itoa (fstN l) ++ [46] ++ itoa (sndN l) := by
  unfold twoB at h
  simp only [Bool.and_eq_true] at h
  obtain ⟨h1, h2, h3⟩ := h
  obtain ⟨n, hn⟩ := Option.isSome_iff_exists.1 h2
  obtain ⟨c, hc⟩ := Option.isSome_iff_exists.1 h3
  have b1 := parse_back _ _ hn
  have b2 := parse_back _ _ hc
  have e1 : fstN l = n := parse_val hn
  have e2 : sndN l = c := parse_val hc
  rw [e1, e2]
  refine ⟨b1.1, b2.1, ?_⟩
  have := cut_back l h1
  rw [b1.2, b2.2] at this
  rw [List.append_assoc]
  exact this

theorem num_val_bounds (l : List UInt8) : inI (numVal l) := by
  unfold numVal
  cases h : atoiAll l with
  | ok v => exact atoi_bounds h
  | range => simp only [atoiSat]; unfold inI; split <;> omega
  | _ => simp only; unfold inI; omega
end Go.Proofs.YtmmaolhmhdjldaaDoor.NT
