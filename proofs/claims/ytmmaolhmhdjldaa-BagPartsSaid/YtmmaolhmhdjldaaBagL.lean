/- BagCounts: what its walk uses. -/
import Derived.Test.YtmmaolhmhdjldaaBagK
import Derived.Test.YtmmaolhmhdjldaaReads
namespace Go.Proofs.Ytmmaolhmhdjldaa.BagS
open Go.RowKit Go.Proofs.Ytmmaolhmhdjldaa.MapF Go.Maps Go.Proofs.Ytmmaolhmhdjldaa.Rd

/-- A numbered message with its sender. -/
def msgOf (x : Int × Ad) : Array Value := msgS x.1 x.2.1.1 x.2.1.2
def seqV (x : Int × Ad) : Value := .int .i64 x.1
/-- A list of the call's own, of whole numbers. -/
def Ints (w : World) (base : Nat) (A : Option Addr) (n cap : Nat) (xs : List Value) : Prop := w.ownsRow base 3 1 (.slice A n cap) n xs

theorem seq_one (M : List (Int × Ad)) : ∀ u ∈ M.map seqV, u.oneCell' = true := by
  intro u hu
  obtain ⟨x, _, rfl⟩ := List.mem_map.1 hu
  rfl
theorem Ints.far {w w' : World} {base : Nat} {A : Option Addr} {n cap : Nat} {xs : List Value} (h : Ints w base A n cap xs) (hA : ∀ a, A = some a → w'.heap[a.block]? = w.heap[a.block]?) : Ints w' base A n cap xs := by
  refine ⟨h.1, ?_⟩
  rcases h.2 with h0 | ⟨g, c, cur, h1, h2, h3, h4⟩
  · exact .inl h0
  · simp only [Value.slice.injEq, true_and] at h1
    obtain ⟨rfl, rfl⟩ := h1
    exact .inr ⟨g, _, cur, rfl, h2, (hA _ rfl).trans h3, h4⟩
theorem Ints.blk {w : World} {base : Nat} {a : Addr} {n cap : Nat} {xs : List Value} (h : Ints w base (some a) n cap xs) : a.block < w.heap.size ∧ base ≤ a.block ∧ ∃ cur, w.heap[a.block]? = some (.cells cur 3 (0, 0)) := by
  have h1 := World.ownsRow.lt h a.block rfl
  rcases h.2 with ⟨h', _⟩ | ⟨g, c, cur, h', h2, h3, _⟩
  · cases h'
  · simp only [Value.slice.injEq, Option.some.injEq, true_and] at h'
    obtain ⟨rfl, _⟩ := h'
    exact ⟨h1.2, h1.1, cur, h3⟩
theorem Ints.below {w w' : World} {base : Nat} {A : Option Addr} {n cap : Nat} {xs : List Value} (h : Ints w base A n cap xs) (hB : Below w.heap.size w w') : Ints w' base A n cap xs :=
  h.far (fun a ha => by subst ha; exact hB.block _ h.blk.1)
theorem Ints.only {w w' : World} {base b2 p m : Nat} {most : Int} {A B : Option Addr} {n cap n2 cap2 : Nat} {xs : List Value} {L : List (Array Value)} (h : Ints w base A n cap xs) (hO : Only w w' p B) (hB : BagAt w b2 p m most B n2 cap2 L) : Ints w' base A n cap xs :=
  h.far (fun a ha => by
    subst ha
    obtain ⟨h1, _, cur, h3⟩ := h.blk
    refine hO.block _ h1 (fun e => ?_) (fun c hc e => ?_)
    · have := hB.blk
      unfold Blk at this
      rw [← e, h3] at this
      cases this
    · subst hc
      rcases hB.own.2 with ⟨h', _⟩ | ⟨g', cap', cur', h', _, hg, _⟩
      · cases h'
      · simp only [Value.slice.injEq, Option.some.injEq, true_and] at h'
        obtain ⟨rfl, _⟩ := h'
        have e' : g' = a.block := e
        rw [e', h3] at hg
        cases hg)
theorem Ints.turned {w w' : World} {base m k : Nat} {A : Option Addr} {n cap : Nat} {xs : List Value} {f : Ad → Option Unit} (h : Ints w base A n cap xs) (hf : IsF adMap w m k f) (ht : w.mapTurned w' m) : Ints w' base A n cap xs :=
  h.far (fun a ha => by
    subst ha
    obtain ⟨h1, _, cur, h3⟩ := h.blk
    refine turned_block ht (fun e => ?_)
    obtain ⟨D, ⟨es, clock, e1, _⟩, _⟩ := hf
    rw [e, e1] at h3
    cases h3)
/-- A bag where a row of whole numbers has turned. -/
theorem bag_ints {w w' : World} {base b2 p m : Nat} {most : Int} {A B : Option Addr} {n cap n2 cap2 : Nat} {xs : List Value} {L : List (Array Value)} (hB : BagAt w b2 p m most B n2 cap2 L) (h : Ints w base A n cap xs) (hg : w.grownBy w' (Value.slice A n cap).ownBlock) : BagAt w' b2 p m most B n2 cap2 L := by
  have key : ∀ (i : Nat) (t : TypeId) (cur : Array Value), w.heap[i]? = some (Obj.cells cur t (0, 0)) → t ≠ 3 → w'.heap[i]? = w.heap[i]? := by
    intro i t cur hi ht
    have hlt : i < w.heap.size := by
      rcases Nat.lt_or_ge i w.heap.size with h | h
      · exact h
      · rw [Array.getElem?_eq_none h] at hi; cases hi
    refine hg.block i hlt (fun e => ?_)
    cases A with
    | none => simp [Value.ownBlock] at e
    | some a =>
      obtain ⟨_, _, cur2, h3⟩ := h.blk
      have e' : i = a.block := by simpa [Value.ownBlock] using e
      rw [← e', hi] at h3
      injection h3 with h3
      injection h3 with _ h3
      exact ht h3
  refine hB.far hg.size (key _ _ _ hB.blk (by decide)) (fun a ha => ?_)
  subst ha
  rcases hB.own.2 with ⟨h', _⟩ | ⟨g', cap', cur', h', _, hg', _⟩
  · cases h'
  · simp only [Value.slice.injEq, Option.some.injEq, true_and] at h'
    obtain ⟨rfl, _⟩ := h'
    exact key _ _ _ hg' (by decide)
theorem isF_ints {w w' : World} {base m k : Nat} {A : Option Addr} {n cap : Nat} {xs : List Value} {f : Ad → Option Unit} (hf : IsF adMap w m k f) (h : Ints w base A n cap xs) (hg : w.grownBy w' (Value.slice A n cap).ownBlock) : IsF adMap w' m k f := by
  refine same_f hf (hg.block m hf.lt (fun e => ?_))
  cases A with
  | none => simp [Value.ownBlock] at e
  | some a =>
    obtain ⟨_, _, cur2, h3⟩ := h.blk
    have e' : m = a.block := by simpa [Value.ownBlock] using e
    obtain ⟨D, ⟨es, clock, e1, _⟩, _⟩ := hf
    rw [← e', e1] at h3
    cases h3

/-- What holds at a round's head. -/
def St (wr w0 : World) (base p m k : Nat) (A4 : Option Addr) (c4 : Nat) (M : List (Int × Ad)) : Prop :=
  ∃ A cap f K, BagAt wr base p m 256 A M.length cap (M.map msgOf) ∧ Ints wr w0.heap.size A4 M.length c4 (M.map seqV) ∧ IsF adMap wr m K f ∧ K ≤ k ∧ M.length ≤ k ∧ Below w0.heap.size w0 wr ∧ w0.heap.size ≤ base
theorem St.below {wr w' w0 : World} {base p m k c4 : Nat} {A4 : Option Addr} {M : List (Int × Ad)} (h : St wr w0 base p m k A4 c4 M) (hB : Below wr.heap.size wr w') : St w' w0 base p m k A4 c4 M := by
  obtain ⟨A, cap, f, K, h1, h2, h3, h4, h5, h6, h7⟩ := h
  exact ⟨A, cap, f, K, h1.below hB, h2.below hB, same_f h3 (hB.block _ h3.lt), h4, h5, h6.trans (hB.mono h6.size), h7⟩
theorem St.mono {wr w0 : World} {base p m k k' c4 : Nat} {A4 : Option Addr} {M : List (Int × Ad)} (h : St wr w0 base p m k A4 c4 M) (hk : k ≤ k') : St wr w0 base p m k' A4 c4 M := by
  obtain ⟨A, cap, f, K, h1, h2, h3, h4, h5, h6, h7⟩ := h
  exact ⟨A, cap, f, K, h1, h2, h3, by omega, by omega, h6, h7⟩
theorem St.big {wr w0 : World} {base p m k c4 : Nat} {A4 : Option Addr} {M : List (Int × Ad)} (h : St wr w0 base p m k A4 c4 M) : Below w0.heap.size w0 wr ∧ M.length ≤ k ∧ M.length ≤ 256 := by
  obtain ⟨A, cap, f, K, h1, h2, h3, h4, h5, h6, h7⟩ := h
  exact ⟨h6, h5, by have := h1.hn; omega⟩
/-- Half a round: a message more in the bag, the list not yet. -/
def StM (wr w0 : World) (base p m k : Nat) (A4 : Option Addr) (c4 : Nat) (M N : List (Int × Ad)) : Prop :=
  ∃ A cap f K, BagAt wr base p m 256 A N.length cap (N.map msgOf) ∧ Ints wr w0.heap.size A4 M.length c4 (M.map seqV) ∧ IsF adMap wr m K f ∧ K ≤ k ∧ M.length ≤ k ∧ Below w0.heap.size w0 wr ∧ w0.heap.size ≤ base
theorem StM.below {wr w' w0 : World} {base p m k c4 : Nat} {A4 : Option Addr} {M N : List (Int × Ad)} (h : StM wr w0 base p m k A4 c4 M N) (hB : Below wr.heap.size wr w') : StM w' w0 base p m k A4 c4 M N := by
  obtain ⟨A, cap, f, K, h1, h2, h3, h4, h5, h6, h7⟩ := h
  exact ⟨A, cap, f, K, h1.below hB, h2.below hB, same_f h3 (hB.block _ h3.lt), h4, h5, h6.trans (hB.mono h6.size), h7⟩
theorem St.half {wr w0 : World} {base p m k c4 : Nat} {A4 : Option Addr} {M : List (Int × Ad)} (h : St wr w0 base p m k A4 c4 M) : StM wr w0 base p m k A4 c4 M M := h

theorem map_snoc {α β : Type} (f : α → β) (M : List α) (x : α) : (M ++ [x]).map f = M.map f ++ [f x] := by simp

theorem stSend {wr w0 : World} {base p m k c4 : Nat} {A4 : Option Addr} {M : List (Int × Ad)} (h : St wr w0 base p m k A4 c4 M) (hM : M.length < 256) (s : Int) (x : Ad) :
    Calls Try.prog 43 #[.pointer (some ⟨p, 0, none⟩), .agg (msgS s x.1.1 x.1.2)] wr fun e w' => e = .returned (.bool true) ∧ StM w' w0 base p m k A4 c4 M (M ++ [(s, x)]) := by
  obtain ⟨A, cap, f, K, h1, h2, h3, h4, h5, h6, h7⟩ := h
  refine (send_room base p m 256 A _ cap _ (msgS s x.1.1 x.1.2) wr h1 (nilS _ _ _) (by omega)).mono ?_
  rintro e w' ⟨g, cap', rfl, hB, hO, _⟩
  refine ⟨rfl, some ⟨g, 0, none⟩, cap', f, K, ?_, h2.only hO h1, only_isF h1 hO h3, h4, h5, h6.trans ((hO.base h1).mono h7), h7⟩
  rw [List.length_append, map_snoc]
  exact hB
theorem stDouble {wr w0 : World} {base p m k c4 : Nat} {A4 : Option Addr} {M : List (Int × Ad)} (h : St wr w0 base p m k A4 c4 M) (hM : M.length < 256) (q : Nat) (x : Int × Ad) (hq : M[q]? = some x) :
    Calls Try.prog 45 #[.pointer (some ⟨p, 0, none⟩), .int .i64 q] wr fun e w' => e = .returned (.int .i64 0) ∧ StM w' w0 base p m k A4 c4 M (M ++ [x]) := by
  obtain ⟨A, cap, f, K, h1, h2, h3, h4, h5, h6, h7⟩ := h
  refine (double_room base p m 256 A _ cap _ q (msgOf x) wr h1 (by rw [List.getElem?_map, hq]; rfl) (by omega)).mono ?_
  rintro e w' ⟨g, cap', rfl, hB, hO, _⟩
  refine ⟨rfl, some ⟨g, 0, none⟩, cap', f, K, ?_, h2.only hO h1, only_isF h1 hO h3, h4, h5, h6.trans ((hO.base h1).mono h7), h7⟩
  rw [List.length_append, map_snoc]
  exact hB
theorem map_erase {α β : Type} (f : α → β) : ∀ (M : List α) (q : Nat), (M.eraseIdx q).map f = (M.map f).eraseIdx q
  | [], _ => rfl
  | _ :: _, 0 => rfl
  | x :: r, q + 1 => by
    show f x :: (r.eraseIdx q).map f = f x :: (r.map f).eraseIdx q
    rw [map_erase f r q]
theorem stDrop {wr w0 : World} {base p m k c4 : Nat} {A4 : Option Addr} {M : List (Int × Ad)} (h : St wr w0 base p m k A4 c4 M) (q : Nat) (x : Int × Ad) (hq : M[q]? = some x) :
    Calls Try.prog 46 #[.pointer (some ⟨p, 0, none⟩), .int .i64 q] wr fun e w' => e = .returned (.int .i64 0) ∧ StM w' w0 base p m k A4 c4 M (M.eraseIdx q) := by
  obtain ⟨A, cap, f, K, h1, h2, h3, h4, h5, h6, h7⟩ := h
  have hl : q < M.length := (List.getElem?_eq_some_iff.1 hq).1
  refine (drop_yes base p m K 256 A _ cap _ f q (msgOf x) x.2 ad0 wr h1 (by rw [List.getElem?_map, hq]; rfl) (sentS x.1 x.2) h3).mono ?_
  rintro e w' ⟨rfl, hB, hO⟩
  refine ⟨rfl, A, cap, f, K, ?_, h2.only hO h1, only_isF h1 hO h3, h4, h5, h6.trans ((hO.base h1).mono h7), h7⟩
  rw [List.length_eraseIdx, if_pos hl, map_erase]
  exact hB
theorem stTake {wr w0 : World} {base p m k c4 : Nat} {A4 : Option Addr} {M : List (Int × Ad)} (h : St wr w0 base p m k A4 c4 M) (q : Nat) (x : Int × Ad) (hq : M[q]? = some x) :
    Calls Try.prog 48 #[.pointer (some ⟨p, 0, none⟩), .int .i64 q] wr fun e w' => ∃ bb A, e = .returned (.tuple #[.agg (msgOf x), .bool bb, .int .i64 0]) ∧ StM w' w0 base p m k A4 c4 M (M.eraseIdx q) ∧ Only wr w' p A ∧ ∃ cap, BagAt wr base p m 256 A M.length cap (M.map msgOf) := by
  obtain ⟨A, cap, f, K, h1, h2, h3, h4, h5, h6, h7⟩ := h
  have hl : q < M.length := (List.getElem?_eq_some_iff.1 hq).1
  refine (take_yes base p m K 256 A _ cap _ f q (msgOf x) x.2 ad0 wr h1 (by rw [List.getElem?_map, hq]; rfl) (sentS x.1 x.2) h3).mono ?_
  rintro e w' ⟨rfl, hB, hO⟩
  refine ⟨_, A, rfl, ⟨A, cap, f, K, ?_, h2.only hO h1, only_isF h1 hO h3, h4, h5, h6.trans ((hO.base h1).mono h7), h7⟩, hO, cap, h1⟩
  rw [List.length_eraseIdx, if_pos hl, map_erase]
  exact hB
theorem stDoubleNo {wr w0 : World} {base p m k c4 : Nat} {A4 : Option Addr} {M : List (Int × Ad)} (h : St wr w0 base p m k A4 c4 M) (i : Int) (hi : ¬ (0 ≤ i ∧ i < (M.length : Int))) :
    Calls Try.prog 45 #[.pointer (some ⟨p, 0, none⟩), .int .i64 i] wr fun e w' => e = .returned (.int .i64 2) ∧ wr = w' := by
  obtain ⟨A, cap, f, K, h1, _⟩ := h
  exact double_no base p m 256 A _ cap _ i wr h1 hi
theorem stDropNo {wr w0 : World} {base p m k c4 : Nat} {A4 : Option Addr} {M : List (Int × Ad)} (h : St wr w0 base p m k A4 c4 M) (i : Int) (hi : ¬ (0 ≤ i ∧ i < (M.length : Int))) :
    Calls Try.prog 46 #[.pointer (some ⟨p, 0, none⟩), .int .i64 i] wr fun e w' => e = .returned (.int .i64 2) ∧ Below wr.heap.size wr w' := by
  obtain ⟨A, cap, f, K, h1, _⟩ := h
  exact drop_no base p m 256 A _ cap _ i wr h1 hi
theorem stTakeNo {wr w0 : World} {base p m k c4 : Nat} {A4 : Option Addr} {M : List (Int × Ad)} (h : St wr w0 base p m k A4 c4 M) (i : Int) (hi : ¬ (0 ≤ i ∧ i < (M.length : Int))) :
    Calls Try.prog 48 #[.pointer (some ⟨p, 0, none⟩), .int .i64 i] wr fun e w' => e = .returned (.tuple #[.agg zeroC, .bool false, .int .i64 2]) ∧ Below wr.heap.size wr w' := by
  obtain ⟨A, cap, f, K, h1, _⟩ := h
  exact take_no base p m 256 A _ cap _ i wr h1 hi
theorem stPart {wr w0 : World} {base p m k c4 : Nat} {A4 : Option Addr} {M : List (Int × Ad)} (h : St wr w0 base p m k A4 c4 M) (hk : k < maxLen) (x : Ad) (hm : w0.heap.size ≤ m) :
    Calls Try.prog 49 #[.pointer (some ⟨p, 0, none⟩), .agg #[.int .i64 x.1.1, .int .i64 x.1.2]] wr fun e w' => e = .returned (.tuple #[]) ∧ St w' w0 base p m (k + 1) A4 c4 M := by
  obtain ⟨A, cap, f, K, h1, h2, h3, h4, h5, h6, h7⟩ := h
  refine (part_any p m K 256 _ f x wr h1.blk h3 (by omega)).mono ?_
  rintro e w' ⟨rfl, w1, hb, ht, hf⟩
  have f1 : IsF adMap w1 m K f := same_f h3 (hb.block _ h3.lt)
  refine ⟨rfl, A, cap, _, K + 1, bag_turned (h1.below hb) f1 ht, (h2.below hb).turned f1 ht, hf, by omega, by omega, ?_, h7⟩
  exact (h6.trans (hb.mono h6.size)).trans (turned_below ht hm)
theorem stHeal {wr w0 : World} {base p m k c4 : Nat} {A4 : Option Addr} {M : List (Int × Ad)} (h : St wr w0 base p m k A4 c4 M) (x : Ad) (hm : w0.heap.size ≤ m) :
    Calls Try.prog 50 #[.pointer (some ⟨p, 0, none⟩), .agg #[.int .i64 x.1.1, .int .i64 x.1.2]] wr fun e w' => e = .returned (.tuple #[]) ∧ St w' w0 base p m (k + 1) A4 c4 M := by
  obtain ⟨A, cap, f, K, h1, h2, h3, h4, h5, h6, h7⟩ := h
  refine (heal_any p m K 256 _ f x wr h1.blk h3).mono ?_
  rintro e w' ⟨rfl, w1, hb, ht, hf⟩
  have f1 : IsF adMap w1 m K f := same_f h3 (hb.block _ h3.lt)
  refine ⟨rfl, A, cap, _, K, bag_turned (h1.below hb) f1 ht, (h2.below hb).turned f1 ht, hf, by omega, by omega, ?_, h7⟩
  exact (h6.trans (hb.mono h6.size)).trans (turned_below ht hm)
theorem stLen {wr w0 : World} {base p m k c4 : Nat} {A4 : Option Addr} {M : List (Int × Ad)} (h : St wr w0 base p m k A4 c4 M) : Calls Try.prog 47 #[.pointer (some ⟨p, 0, none⟩)] wr fun e w' => e = .returned (.int .i64 M.length) ∧ wr = w' := by
  obtain ⟨A, cap, f, K, h1, _⟩ := h
  exact len_any p m 256 A _ cap wr h1.blk
theorem stAt {wr w0 : World} {base p m k c4 : Nat} {A4 : Option Addr} {M : List (Int × Ad)} (h : St wr w0 base p m k A4 c4 M) (q : Nat) (x : Int × Ad) (hq : M[q]? = some x) :
    Calls Try.prog 51 #[.pointer (some ⟨p, 0, none⟩), .int .i64 q] wr fun e w' => e = .returned (.tuple #[.agg (msgOf x), .int .i64 0]) ∧ Below wr.heap.size wr w' := by
  obtain ⟨A, cap, f, K, h1, _⟩ := h
  exact at_yes base p m 256 A _ cap _ q (msgOf x) wr h1 (by rw [List.getElem?_map, hq]; rfl)
/-- The list has followed. -/
theorem StM.done {wr w' w0 : World} {base p m k k' c4 g' cap' : Nat} {A4 : Option Addr} {M N : List (Int × Ad)} (h : StM wr w0 base p m k A4 c4 M N) (hO : w'.ownsRow w0.heap.size 3 1 (.slice (some ⟨g', 0, none⟩) N.length cap') N.length (N.map seqV)) (hG : wr.grownBy w' (Value.slice A4 M.length c4).ownBlock) (hk : k ≤ k') (hN : N.length ≤ k') :
    St w' w0 base p m k' (some ⟨g', 0, none⟩) cap' N := by
  obtain ⟨A, cap, f, K, h1, h2, h3, h4, h5, h6, h7⟩ := h
  refine ⟨A, cap, f, K, bag_ints h1 h2 hG, hO, isF_ints h3 h2 hG, by omega, hN, h6.grown hG h6.size (fun j hj => (World.ownsRow.lt h2 j hj).1), h7⟩
/-- The list has been laid anew. -/
theorem StM.fresh {wr w' w0 : World} {base p m k k' c4 cap' : Nat} {A4 A' : Option Addr} {M N : List (Int × Ad)} (h : StM wr w0 base p m k A4 c4 M N) (hB : Below wr.heap.size wr w') (hO : Ints w' w0.heap.size A' N.length cap' (N.map seqV)) (hk : k ≤ k') (hN : N.length ≤ k') :
    St w' w0 base p m k' A' cap' N := by
  obtain ⟨A, cap, f, K, h1, h2, h3, h4, h5, h6, h7⟩ := h.below hB
  exact ⟨A, cap, f, K, h1, hO, h3, by omega, hN, h6, h7⟩
theorem StM.ints {wr w0 : World} {base p m k c4 : Nat} {A4 : Option Addr} {M N : List (Int × Ad)} (h : StM wr w0 base p m k A4 c4 M N) : Ints wr w0.heap.size A4 M.length c4 (M.map seqV) ∧ w0.heap.size ≤ wr.heap.size := by
  obtain ⟨A, cap, f, K, h1, h2, h3, h4, h5, h6, h7⟩ := h
  exact ⟨h2, h6.size⟩
theorem Ints.form {w : World} {base : Nat} {A : Option Addr} {n cap : Nat} {xs : List Value} (h : Ints w base A n cap xs) (hn : 0 < n) : ∃ g, A = some ⟨g, 0, none⟩ ∧ n ≤ cap ∧ cap ≤ maxLen ∧ g < w.heap.size := by
  obtain ⟨g, c, hv, _, _⟩ := World.ownsRow.form h hn
  simp only [Value.slice.injEq, true_and] at hv
  obtain ⟨rfl, rfl⟩ := hv
  have hb := own_bounds h
  exact ⟨g, rfl, hb.2.2.1, hb.2.2.2, hb.2.1⟩
theorem Ints.at_ {w : World} {base g n cap q : Nat} {M : List (Int × Ad)} {x : Int × Ad} (h : Ints w base (some ⟨g, 0, none⟩) n cap (M.map seqV)) (hx : M[q]? = some x) (hn : M.length = n) : w.cell? ⟨g, q, none⟩ = some (.int .i64 x.1) := by
  have hl : q < M.length := (List.getElem?_eq_some_iff.1 hx).1
  rw [World.ownsRow.cellAt h q (by omega), List.getElem?_map, hx]
  rfl
theorem own_form {w : World} {base : Nat} {e : TypeId} {size n : Nat} {v : Value} {xs : List Value} (h : w.ownsRow base e size v n xs) : ∃ A c, v = .slice A n c := by
  rcases h.2 with ⟨h', rfl⟩ | ⟨g, c, _, h', _⟩
  · exact ⟨none, 0, h'⟩
  · exact ⟨_, _, h'⟩
theorem info3 : (Try.prog.info? 3).map (fun i => (i.zero, i.size, i.bytes)) = some (some (.int .i64 0), 1, 8) := by kernel_rfl
theorem one_int (k : Int) : ∀ u ∈ [Value.int .i64 k], u.oneCell' = true := by
  intro u hu
  rw [List.mem_singleton] at hu
  subst hu
  rfl
theorem new_int (w : World) (u : Value) : ∀ j v, [u][j]? = some v → (w.alloc (.cells #[u] 3)).cell? ((⟨w.heap.size, 0, none⟩ : Addr).add j) = some v := by
  intro j v h
  match j, h with
  | 0, h => cases h; simp [go_sem, Addr.add]
theorem num_s (e : Int) (w : World) : Calls Try.prog 44 #[.int .i64 e] w fun r w' => r = .returned (.int .i64 e) ∧ w' = w := (num_any e w).mono fun _ _ ⟨h1, h2⟩ => ⟨h1, h2.symm⟩
theorem erase_seq (M : List (Int × Ad)) (q : Nat) : (M.eraseIdx q).map seqV = (M.map seqV).take q ++ (M.map seqV).drop (q + 1) := by
  rw [map_erase, List.eraseIdx_eq_take_drop_succ]
/-- The two parts that are joined when a number is struck. -/
theorem reads_take {w : World} {base g n cap : Nat} {xs : List Value} (h : Ints w base (some ⟨g, 0, none⟩) n cap xs) {q : Nat} (hq : q ≤ n) : Reads w w.heap.size 1 (some ⟨g, 0, none⟩) q (xs.take q) := by
  have hl := h.1
  refine ⟨by rw [List.length_take]; omega, fun _ => ⟨_, rfl, (own_bounds h).2.1, fun j u hu => ?_⟩⟩
  rw [List.getElem?_take] at hu
  split at hu
  · exact h.cells (g := g) rfl j u hu
  · cases hu
theorem reads_drop {w : World} {base g n cap : Nat} {xs : List Value} (h : Ints w base (some ⟨g, 0, none⟩) n cap xs) {q : Nat} (hq : q + 1 ≤ n) :
    ∃ A2 : Addr, (if cap = q + 1 then some (⟨g, 0, none⟩ : Addr) else some ⟨g, q + 1, none⟩) = some A2 ∧ Reads w w.heap.size 1 (some A2) (n - (q + 1)) (xs.drop (q + 1)) := by
  have hl := h.1
  have hb := own_bounds h
  have key : 0 < n - (q + 1) → ∀ j u, (xs.drop (q + 1))[j]? = some u → w.cell? ((⟨g, q + 1, none⟩ : Addr).add j) = some u := fun _ j u hu => by
    rw [List.getElem?_drop] at hu
    have := h.cells (g := g) rfl (q + 1 + j) u hu
    rw [Addr.add_lit, Nat.zero_add] at this
    rw [Addr.add_lit]
    exact this
  by_cases hc : cap = q + 1
  · refine ⟨⟨g, 0, none⟩, by rw [if_pos hc], by rw [List.length_drop]; omega, fun hn => absurd hn (by omega)⟩
  · exact ⟨⟨g, q + 1, none⟩, by rw [if_neg hc], by rw [List.length_drop]; omega, fun hn => ⟨_, rfl, hb.2.1, key hn⟩⟩
theorem there_only {w w' : World} {p b o n : Nat} {A : Option Addr} (h : w.there b o n) (hb : b < w.heap.size) (hp : b ≠ p) (hA : Apart A b) (hO : Only w w' p A) : w'.there b o n := fun j hj => by
  have e := hO.block b hb hp hA
  exact ⟨by rw [World.cell?_of_block (a := ⟨b, o + j, none⟩) e]; exact (h j hj).1, by rw [World.frozen?_of_block (a := ⟨b, o + j, none⟩) e]; exact (h j hj).2⟩
/-- Take, into a variable that lies behind. -/
theorem stTake2 {wr W2 w0 : World} {base p m k c4 : Nat} {A4 : Option Addr} {M : List (Int × Ad)} (h : St wr w0 base p m k A4 c4 M) (hB : Below wr.heap.size wr W2) (ht : W2.there wr.heap.size 0 26) (hlt : wr.heap.size < W2.heap.size) (q : Nat) (x : Int × Ad) (hq : M[q]? = some x) :
    Calls Try.prog 48 #[.pointer (some ⟨p, 0, none⟩), .int .i64 q] W2 fun e w' => ∃ bb, e = .returned (.tuple #[.agg (msgOf x), .bool bb, .int .i64 0]) ∧ RoomMsg w' wr.heap.size 0 ∧ StM (w'.setCells wr.heap.size 0 (msgOf x).toList) w0 base p m k A4 c4 M (M.eraseIdx q) ∧
      (w'.setCells wr.heap.size 0 (msgOf x).toList).cell? ⟨wr.heap.size, 12, none⟩ = some (.int .i64 x.1) := by
  obtain ⟨A, cap, f, K, h1, h2, h3, h4, h5, h6, h7⟩ := h
  have hl : q < M.length := (List.getElem?_eq_some_iff.1 hq).1
  have hp := h1.blk.lt
  have hm := h3.lt
  have hA : Apart A wr.heap.size := fun a ha => by
    subst ha
    have := (h1.own.lt a.block rfl).2
    omega
  refine (take_yes base p m K 256 A _ cap _ f q (msgOf x) x.2 ad0 W2 (h1.below hB) (by rw [List.getElem?_map, hq]; rfl) (sentS x.1 x.2) (same_f h3 (hB.block _ hm))).mono ?_
  rintro e w' ⟨rfl, hB', hO⟩
  have rm : RoomMsg w' wr.heap.size 0 := there_only ht hlt (by omega) hA hO
  have b2 := h1.below hB
  have i3 : Ints w' w0.heap.size A4 M.length c4 (M.map seqV) := (h2.below hB).only hO b2
  have f3 : IsF adMap w' m K f := only_isF b2 hO (same_f h3 (hB.block _ hm))
  have hw0 : w0.heap.size ≤ wr.heap.size := h6.size
  refine ⟨_, rfl, rm, ⟨A, cap, f, K, ?_, ?_, ?_, h4, h5, ?_, h7⟩, ?_⟩
  · rw [List.length_eraseIdx, if_pos hl, map_erase]
    exact bag_setCells hB' _ _ (by omega) hA _
  · exact i3.far (fun a ha => by
      subst ha
      exact setCells_heap (by have := h2.blk.1; omega) _ _ _)
  · exact same_f f3 (setCells_heap (by omega) _ _ _)
  · exact below_setCells ((h6.trans (hB.mono hw0)).trans (hO.base b2 |>.mono h7)) _ _ hw0 _
  · exact World.rangeAt_setCells_same w' wr.heap.size 0 (msgOf x).toList rm 12 _ rfl
end Go.Proofs.Ytmmaolhmhdjldaa.BagS
