/- BagParts: messages between addresses; Ready, walked. -/
import Derived.Test.YtmmaolhmhdjldaaBagL
import Derived.Deep.LoopGhost
import Derived.BigQuiet
import Derived.Deep.QuietTactic
import Derived.Deep.Cut
namespace Go.Proofs.Ytmmaolhmhdjldaa.BagS
open Go.RowKit Go.Proofs.Ytmmaolhmhdjldaa.MapF Go.Maps Go.Proofs.Ytmmaolhmhdjldaa.Rd

/-- A message with a number, a sender and one whom it is sent to. -/
def msgP (s : Int) (x y : Ad) : Array Value := #[.int .i64 0, .int .i64 x.1.1, .int .i64 x.1.2, .int .i64 y.1.1, .int .i64 y.1.2, .int .i64 0, .int .i64 0, .int .i64 0, .int .i64 0, .bool false, .slice none 0 0, .slice none 0 0,
   .int .i64 s, .int .i64 0, .int .i64 0, .int .i64 0, .string ⟨#[]⟩, .int .i64 0, .slice none 0 0, .slice none 0 0, .int .i64 0, .int .i64 0, .int .i64 0, .int .i64 0, .bool false, .string ⟨#[]⟩]
theorem nilP (s : Int) (x y : Ad) : NilC (msgP s x y) where
  size := rfl
  one := by
    intro u hu
    simp only [msgP, List.mem_cons, List.not_mem_nil, or_false] at hu
    rcases hu with rfl | rfl | rfl | rfl | rfl | rfl | rfl | rfl | rfl | rfl | rfl | rfl | rfl | rfl | rfl | rfl | rfl | rfl | rfl | rfl | rfl | rfl | rfl | rfl | rfl | rfl <;> rfl
  n10 := rfl
  n11 := rfl
  n18 := rfl
  n19 := rfl
theorem sentP (s : Int) (x y : Ad) : Sent (msgP s x y) x y := ⟨rfl, rfl, rfl, rfl⟩
/-- The i-th of some messages. -/
def pmsg (X Y : Nat → Ad) (i : Nat) : Array Value := msgP (i : Int) (X i) (Y i)
/-- Does it arrive? -/
def arr (f : Ad → Option Unit) (X Y : Nat → Ad) (i : Nat) : Bool := !(f (X i)).isSome && !(f (Y i)).isSome
def natV (i : Nat) : Value := .int .i64 (i : Int)
/-- Those of the first k that arrive. -/
def readyTo (r : Nat → Bool) (k : Nat) : List Nat := (List.range k).filter r
theorem readyTo_succ (r : Nat → Bool) (k : Nat) : readyTo r (k + 1) = readyTo r k ++ if r k then [k] else [] := by
  unfold readyTo
  rw [List.range_succ, List.filter_append]
  congr 1
  cases h : r k <;> simp [h]
theorem readyTo_len (r : Nat → Bool) (k : Nat) : (readyTo r k).length ≤ k := by
  have := List.length_filter_le r (List.range k)
  rw [List.length_range] at this
  exact this
def RelR (r : Nat → Bool) (n : Nat) (w0 : World) (g : Nat) (v3 v11 : Value) (wr : World) : Prop :=
  ∃ (k : Nat) (A3 : Option Addr) (c3 : Nat), k + g = n ∧ v3 = .slice A3 (readyTo r k).length c3 ∧ v11 = .int .i64 k ∧ Ints wr w0.heap.size A3 (readyTo r k).length c3 ((readyTo r k).map natV) ∧ Below w0.heap.size w0 wr

attribute [local go_sem ↓] loadMsg_eq storeMsg_eq buildMsg_eq
attribute [local go_sem] run_loadMsg run_storeMsg run_buildMsg

set_option maxRecDepth 100000 in
set_option maxHeartbeats 4000000 in
theorem ready_any (base p m K : Nat) (most : Int) (A : Option Addr) (n cap : Nat) (L : List (Array Value)) (f : Ad → Option Unit) (X Y : Nat → Ad) (w : World) (hB : BagAt w base p m most A n cap L) (hf : IsF adMap w m K f)
    (hL : ∀ i, i < n → ∃ C, L[i]? = some C ∧ Sent C (X i) (Y i)) :
    Calls Try.prog 61 #[.pointer (some ⟨p, 0, none⟩)] w fun e w' => ∃ A3 c3, e = .returned (.slice A3 (readyTo (arr f X Y) n).length c3) ∧ Ints w' w.heap.size A3 (readyTo (arr f X Y) n).length c3 ((readyTo (arr f X Y) n).map natV) ∧ Below w.heap.size w w' := by
  obtain ⟨ti, hi0, hz0, hz1, hz2⟩ := info_parts info3
  have hn256 : n ≤ 256 := by have := hB.hm; have := hB.hn; omega
  obtain ⟨r, hr⟩ : ∃ r, arr f X Y = r := ⟨_, rfl⟩
  have HB := Lib.hid hB
  have HF := Lib.hid hf
  have HL := Lib.hid hL
  have HR := Lib.hid hr
  have q1 : w.cell? ⟨p, 1, none⟩ = some (.slice A n cap) := hB.blk.cell 1
  rw [hr]
  clear hB hf hL hr
  go_enter Try.func61, Try.ntmps61
  go_wp2_with fail
  clear q1
  go_loopg [3, 11] n (RelR r n w)
  case atStart => exact ⟨0, none, 0, by omega, rfl, rfl, ⟨rfl, .inl ⟨rfl, rfl⟩⟩, Below.refl _ _⟩
  case round =>
    obtain ⟨g1, hg1⟩ : ∃ x, x = gk := ⟨_, rfl⟩
    rw [← hg1] at hrel
    obtain ⟨k, A3, c3, hk, rfl, rfl, hI, hBW⟩ := hrel
    have HG1 := Lib.hid hg1
    have HI := Lib.hid hI
    have BW := Lib.hid hBW
    have hRk := readyTo_len r k
    clear hg1 hI hBW
    by_cases hkn : k < n
    · have hkn' : (k : Int) < (n : Int) := by omega
      have hk0 : (0 : Int) ≤ (k : Int) := by omega
      have BB := Lib.hid (HB.out.below BW.out)
      obtain ⟨g, hA, hnc, hcm, hgl, _, _⟩ := BB.out.form (by omega)
      subst hA
      unfold maxLen at hcm
      obtain ⟨C, hC, hS⟩ := HL.out k hkn
      have hnil := BB.out.nil C (List.mem_of_getElem? hC)
      obtain ⟨r0, r1⟩ := msgAt_eq hnil.size (own_range BB.out.own BB.out.len BB.out.all26 hC)
      have hmc := hnil.msg
      have HN := Lib.hid hnil
      have HS := Lib.hid hS
      have rz : RoomMsg (wr.alloc (.cells zeroC 73)) wr.heap.size 0 := (Blk.new wr 73 zeroC).there
      unfold zeroC at rz
      clear hC hnil hS
      go_upto_region 5 with (fail)
      refine world_out (fun W2 hW2 => ?_)
      have B2 : Hid (Below wr.heap.size wr W2) := Lib.hid (by rw [hW2]; exact below_setCells ((Below.refl _ _).alloc (Nat.le_refl _) _) _ _ (Nat.le_refl _) _)
      have R2 : Hid (W2.rangeAt wr.heap.size 0 C.toList) := Lib.hid (by rw [hW2]; exact World.rangeAt_setCells_same _ _ _ _ (by rw [Array.length_toList, HN.out.size]; exact rz))
      clear hW2 rz r0 r1
      obtain ⟨r0, r1⟩ := msgAt_eq HN.out.size R2.out
      have AR := Lib.hid (arrives_any p m K most (some ⟨g, 0, none⟩) n cap f C (X k) (Y k) W2 (BB.out.below B2.out).blk HS.out (same_f HF.out ((BW.out.trans (B2.out.mono BW.out.size)).block m HF.out.lt)))
      have HR1 : Hid ((!(f (X k)).isSome && !(f (Y k)).isSome) = r k) := Lib.hid (by rw [← HR.out]; rfl)
      rw [HR1.out] at AR
      have hsc := readyTo_succ r k
      cases hrk : r k with
      | false =>
        rw [hrk] at AR hsc
        simp only [Bool.false_eq_true, if_false, List.append_nil] at hsc
        have HSC := Lib.hid hsc
        clear hsc hrk HR1
        go_wp2_with fail
        refine AR.out.mono ?_
        rintro e w3 ⟨rfl, hb3⟩
        have B3 : Hid (Below w.heap.size w w3) := Lib.hid ((BW.out.trans (B2.out.mono BW.out.size)).trans (hb3.mono (BW.out.trans (B2.out.mono BW.out.size)).size))
        have I3 : Hid (Ints w3 w.heap.size A3 (readyTo r k).length c3 ((readyTo r k).map natV)) := Lib.hid ((HI.out.below B2.out).below hb3)
        clear hb3 AR r0 r1
        go_wp2_with fail
        go_roundg (g1 - 1)
        case measure => have := HG1.out; omega
        case rel => exact ⟨k + 1, A3, c3, by omega, by rw [HSC.out], by go_num, by rw [HSC.out]; exact I3.out, B3.out⟩
      | true =>
        rw [hrk] at AR hsc
        simp only [if_true] at hsc
        have HSC := Lib.hid hsc
        clear hsc hrk HR1
        go_wp2_with fail
        refine AR.out.mono ?_
        rintro e w3 ⟨rfl, hb3⟩
        have B3 : Hid (Below w.heap.size w w3) := Lib.hid ((BW.out.trans (B2.out.mono BW.out.size)).trans (hb3.mono (BW.out.trans (B2.out.mono BW.out.size)).size))
        have I3 : Hid (Ints w3 w.heap.size A3 (readyTo r k).length c3 ((readyTo r k).map natV)) := Lib.hid ((HI.out.below B2.out).below hb3)
        clear hb3 AR r0 r1
        have OWN : Hid ((w3.alloc (.cells #[.int .i64 k] 3)).ownsRow w.heap.size 3 1 (.slice A3 (readyTo r k).length c3) (readyTo r k).length ((readyTo r k).map natV)) := Lib.hid (World.ownsRow.alloc I3.out _)
        have hba : w.heap.size ≤ (w3.alloc (.cells #[.int .i64 k] 3)).heap.size := by have := B3.out.size; simp; omega
        have hml : (readyTo r k).length + 1 ≤ maxLen := by unfold maxLen; omega
        go_wp2_with (at_builtin; refine wpList_append_lies _ rfl (.tmp 19) (.tmp 21) 71 rfl w.heap.size 3 ti (.int .i64 0) 1 8 Try.underlying71 hi0 hz0 hz1 hz2 rfl (by decide) _ (readyTo r k).length ((readyTo r k).map natV) rfl OWN.out ⟨w3.heap.size, 0, none⟩ 1 1 [.int .i64 k] rfl rfl (new_int w3 _) (one_int _) (by omega) hml (by omega) hba _ rfl ?_; intro g' cap' w4 hown hgrow hat hlt)
        have I4 : Hid (Ints w4 w.heap.size (some ⟨g', 0, none⟩) (readyTo r (k + 1)).length cap' ((readyTo r (k + 1)).map natV)) := Lib.hid (by rw [HSC.out, List.length_append, List.map_append]; exact hown)
        have B4 : Hid (Below w.heap.size w w4) := Lib.hid ((B3.out.alloc B3.out.size _).grown hgrow hba (fun j hj => (World.ownsRow.lt OWN.out j hj).1))
        clear hown hgrow hat hlt OWN hba
        go_wp2_with fail
        go_roundg (g1 - 1)
        case measure => have := HG1.out; omega
        case rel => exact ⟨k + 1, _, _, by omega, by rw [HSC.out, List.length_append]; rfl, by go_num, I4.out, B4.out⟩
    · obtain rfl : n = k := by omega
      have hnn : decide ((n : Int) < (n : Int)) = false := decide_eq_false (by omega)
      go_wp2_with fail
      go_ret
      exact ⟨A3, c3, rfl, HI.out, BW.out⟩
end Go.Proofs.Ytmmaolhmhdjldaa.BagS
