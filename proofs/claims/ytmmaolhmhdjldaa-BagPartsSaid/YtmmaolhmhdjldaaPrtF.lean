/- BagParts: what its walk holds to. -/
import Derived.Test.YtmmaolhmhdjldaaPrtA
import Derived.Test.YtmmaolhmhdjldaaPrtE
namespace Go.Proofs.Ytmmaolhmhdjldaa.BagS
open Go.RowKit Go.Proofs.Ytmmaolhmhdjldaa.MapF Go.Maps

/-- Maps from addresses to whole numbers. -/
noncomputable def cutMap : MapTy Try.prog 67 Ad Int where
  kv := adMap.kv
  kl := adMap.kl
  ev a := .int .i64 a
  ed a := .lit (.int .i64 a)
  ok _ := True
  law := adMap.law
  hkey := adMap.hkey
  kinj := adMap.kinj
  einj _ _ h := by cases h; rfl
  vinj _ _ h := by cases h; rfl
theorem zero3 (w : World) : (zeroValue 3).run Try.prog w = .ok (cutMap.ev 0) w := by
  show (zeroValue 3).run Try.prog w = .ok (.int .i64 0) w
  kernel_rfl

/-- A map's block stays. -/
theorem same_c {w w' : World} {b n : Nat} {g : Ad → Option Int} (h : IsF cutMap w b n g) (hb : w'.heap[b]? = w.heap[b]?) : IsF cutMap w' b n g := by
  obtain ⟨D, ⟨es, clock, e1, e2, e3, e4⟩, h2, h3⟩ := h
  exact ⟨D, ⟨es, clock, hb.trans e1, e2, e3, e4⟩, h2, h3⟩
theorem cut_only {w w' : World} {base p m c k : Nat} {most : Int} {A : Option Addr} {n cap : Nat} {L : List (Array Value)} {g : Ad → Option Int} (hB : BagAt w base p m most A n cap L) (hO : Only w w' p A) (hf : IsF cutMap w c k g) : IsF cutMap w' c k g := by
  have hc := hf.lt
  obtain ⟨D, ⟨es, clock, e1, e2⟩, h2⟩ := hf
  refine same_c ⟨D, ⟨es, clock, e1, e2⟩, h2⟩ (hO.block c hc (fun e => ?_) (fun a ha e => ?_))
  · have := hB.blk
    unfold Blk at this
    rw [← e, e1] at this
    cases this
  · subst ha
    rcases hB.own.2 with ⟨h', _⟩ | ⟨g', cap', cur', h', _, hg, _⟩
    · cases h'
    · simp only [Value.slice.injEq, Option.some.injEq, true_and] at h'
      obtain ⟨rfl, _⟩ := h'
      have e' : g' = c := e
      rw [e', e1] at hg
      cases hg
theorem bag_turnedC {w w' : World} {base p m c : Nat} {most : Int} {A : Option Addr} {n cap : Nat} {L : List (Array Value)} {k : Nat} {g : Ad → Option Int} (h : BagAt w base p m most A n cap L) (hf : IsF cutMap w c k g) (ht : w.mapTurned w' c) : BagAt w' base p m most A n cap L := by
  obtain ⟨D, ⟨es, clock, e1, _⟩, _⟩ := hf
  refine h.far (Nat.le_of_eq (turned_size ht).1.symm) ?_ ?_
  · refine turned_block ht (fun e => ?_)
    have := h.blk
    unfold Blk at this
    rw [e, e1] at this
    cases this
  · rintro a rfl
    refine turned_block ht (fun e => ?_)
    rcases h.own.2 with ⟨h', _⟩ | ⟨g', cap', cur, h', _, hg, _⟩
    · cases h'
    · simp only [Value.slice.injEq, Option.some.injEq, true_and] at h'
      obtain ⟨rfl, _⟩ := h'
      have e' : g' = c := e
      rw [e', e1] at hg
      cases hg

/-- How many entries a map has. -/
theorem isF_size {α : Type} {M : MapTy Try.prog 67 Ad α} (hkl : M.kl = adMap.kl) (hok : ∀ x, M.ok x) {w : World} {b n : Nat} {f : Ad → Option α} (h : IsF M w b n f) (ss : List Ad) (hn : ss.Nodup) (hs : ∀ x, x ∈ ss ↔ (f x).isSome = true) {t e : TypeId} (ht : Try.prog.underlying t = some (.map 67 e)) (ty : TypeId) :
    (Builtin.len_ #[t] ty #[.map (some b)]).run Try.prog w = .ok (.int .i64 ss.length) w := by
  obtain ⟨D, hown, hh, _⟩ := h
  rw [hown.len ht ty]
  have hsz : Maps.size D = ss.length := by
    obtain ⟨es, hD, hpw, _⟩ := hown.entries M.law
    obtain ⟨es', hD', hko⟩ := hown.keysOf
    obtain rfl : es = es' := by rw [hD] at hD'; simpa using hD'
    subst hD
    have hk : ∀ p ∈ es, ∃ x : Ad, p.1 = adMap.kl x := fun p hp => by
      obtain ⟨v, hv⟩ := hko p hp
      obtain ⟨x, rfl⟩ := adKeyOf_inv hv
      exact ⟨x, adKl x hv⟩
    have hp : (ss.map adMap.kl).Perm (es.map (·.1)) := by
      refine (List.perm_ext_iff_of_nodup (List.pairwise_map.2 (hn.imp fun hne e => hne (adMap.kinj _ _ e))) (List.pairwise_map.2 hpw)).2 fun l => ?_
      rw [List.mem_map, List.mem_map]
      constructor
      · rintro ⟨x, hx, rfl⟩
        have h1 := hh x (hok x)
        rw [(hs x).1 hx, hkl, Maps.has_eq, List.any_eq_true] at h1
        obtain ⟨p, hp, hq⟩ := h1
        obtain ⟨y, hy⟩ := hk p hp
        rw [hy, adSame] at hq
        have : y = x := of_decide_eq_true hq
        subst this
        exact ⟨p, hp, hy⟩
      · rintro ⟨p, hp, rfl⟩
        obtain ⟨y, hy⟩ := hk p hp
        refine ⟨y, (hs y).2 ?_, hy.symm⟩
        rw [← hh y (hok y), hkl, Maps.has_eq, List.any_eq_true]
        exact ⟨p, hp, by rw [hy, adSame]; simp⟩
    have := hp.length_eq
    rw [List.length_map, List.length_map] at this
    rw [this]
    rfl
  rw [hsz]

/-- A bag of these messages, so much parted; old memory as it was. -/
def StP (wr w0 : World) (base p m : Nat) (f : Ad → Option Unit) (K : Nat) (L : List (Array Value)) : Prop :=
  ∃ A cap, BagAt wr base p m 256 A L.length cap L ∧ IsF adMap wr m K f ∧ Below w0.heap.size w0 wr ∧ w0.heap.size ≤ base ∧ w0.heap.size ≤ m
theorem StP.below {wr w' w0 : World} {base p m K : Nat} {f : Ad → Option Unit} {L : List (Array Value)} (h : StP wr w0 base p m f K L) (hB : Below wr.heap.size wr w') : StP w' w0 base p m f K L := by
  obtain ⟨A, cap, h1, h2, h3, h4, h5⟩ := h
  exact ⟨A, cap, h1.below hB, same_f h2 (hB.block _ h2.lt), h3.trans (hB.mono h3.size), h4, h5⟩
theorem StP.old {wr w0 : World} {base p m K : Nat} {f : Ad → Option Unit} {L : List (Array Value)} (h : StP wr w0 base p m f K L) : Below w0.heap.size w0 wr ∧ L.length ≤ 256 := by
  obtain ⟨A, cap, h1, h2, h3, h4, h5⟩ := h
  exact ⟨h3, by have := h1.hn; omega⟩
theorem spSend {wr w0 : World} {base p m K : Nat} {f : Ad → Option Unit} {L : List (Array Value)} (h : StP wr w0 base p m f K L) (hL : L.length < 256) (C : Array Value) (hC : NilC C) :
    Calls Try.prog 43 #[.pointer (some ⟨p, 0, none⟩), .agg C] wr fun e w' => e = .returned (.bool true) ∧ StP w' w0 base p m f K (L ++ [C]) := by
  obtain ⟨A, cap, h1, h2, h3, h4, h5⟩ := h
  refine (send_room base p m 256 A _ cap _ C wr h1 hC (by omega)).mono ?_
  rintro e w' ⟨g, cap', rfl, hB, hO, _⟩
  refine ⟨rfl, some ⟨g, 0, none⟩, cap', ?_, only_isF h1 hO h2, h3.trans ((hO.base h1).mono h4), h4, h5⟩
  rw [List.length_append]
  exact hB
/-- .. and the second map. -/
def StC (wr w0 : World) (base p m c : Nat) (f : Ad → Option Unit) (g : Ad → Option Int) (K : Nat) (L : List (Array Value)) : Prop :=
  StP wr w0 base p m f K L ∧ IsF cutMap wr c K g ∧ c ≠ m ∧ w0.heap.size ≤ c
theorem StC.below {wr w' w0 : World} {base p m c K : Nat} {f : Ad → Option Unit} {g : Ad → Option Int} {L : List (Array Value)} (h : StC wr w0 base p m c f g K L) (hB : Below wr.heap.size wr w') : StC w' w0 base p m c f g K L :=
  ⟨h.1.below hB, same_c h.2.1 (hB.block _ h.2.1.lt), h.2.2⟩
theorem scPart {wr w0 : World} {base p m c K : Nat} {f : Ad → Option Unit} {g : Ad → Option Int} {L : List (Array Value)} (h : StC wr w0 base p m c f g K L) (hK : K < 1000) (x : Ad) :
    Calls Try.prog 49 #[.pointer (some ⟨p, 0, none⟩), .agg #[.int .i64 x.1.1, .int .i64 x.1.2]] wr fun e w' => e = .returned (.tuple #[]) ∧ StP w' w0 base p m (upd f x (some ())) (K + 1) L ∧ IsF cutMap w' c K g := by
  obtain ⟨⟨A, cap, h1, h2, h3, h4, h5⟩, hc, hne, hc0⟩ := h
  refine (part_any p m K 256 _ f x wr h1.blk h2 (by unfold maxLen; omega)).mono ?_
  rintro e w' ⟨rfl, w1, hb, ht, hf⟩
  have f1 : IsF adMap w1 m K f := same_f h2 (hb.block _ h2.lt)
  refine ⟨rfl, ⟨A, cap, bag_turned (h1.below hb) f1 ht, hf, (h3.trans (hb.mono h3.size)).trans (turned_below ht h5), h4, h5⟩, ?_⟩
  exact same_c (same_c hc (hb.block _ hc.lt)) (turned_block ht hne)
theorem scStore {wr w' w0 : World} {base p m c K : Nat} {f : Ad → Option Unit} {g g' : Ad → Option Int} {L : List (Array Value)} (h : StP wr w0 base p m f (K + 1) L) (hg : IsF cutMap wr c K g) (hne : c ≠ m) (hc0 : w0.heap.size ≤ c) (hg' : IsF cutMap w' c (K + 1) g') (ht : wr.mapTurned w' c) : StC w' w0 base p m c f g' (K + 1) L := by
  obtain ⟨A, cap, h1, h2, h3, h4, h5⟩ := h
  exact ⟨⟨A, cap, bag_turnedC h1 hg ht, same_f h2 (turned_block ht (Ne.symm hne)), h3.trans (turned_below ht hc0), h4, h5⟩, hg', hne, hc0⟩
theorem spHeal {wr w0 : World} {base p m K : Nat} {f : Ad → Option Unit} {L : List (Array Value)} (h : StP wr w0 base p m f K L) (x : Ad) :
    Calls Try.prog 50 #[.pointer (some ⟨p, 0, none⟩), .agg #[.int .i64 x.1.1, .int .i64 x.1.2]] wr fun e w' => e = .returned (.tuple #[]) ∧ StP w' w0 base p m (upd f x none) K L := by
  obtain ⟨A, cap, h1, h2, h3, h4, h5⟩ := h
  refine (heal_any p m K 256 _ f x wr h1.blk h2).mono ?_
  rintro e w' ⟨rfl, w1, hb, ht, hf⟩
  have f1 : IsF adMap w1 m K f := same_f h2 (hb.block _ h2.lt)
  exact ⟨rfl, A, cap, bag_turned (h1.below hb) f1 ht, hf, (h3.trans (hb.mono h3.size)).trans (turned_below ht h5), h4, h5⟩
theorem spTake {wr w0 : World} {base p m K : Nat} {f : Ad → Option Unit} {C : Array Value} {L : List (Array Value)} (h : StP wr w0 base p m f K (C :: L)) (x y : Ad) (hS : Sent C x y) (hf : ∀ z, f z = none) :
    Calls Try.prog 48 #[.pointer (some ⟨p, 0, none⟩), .int .i64 0] wr fun e w' => e = .returned (.tuple #[.agg C, .bool true, .int .i64 0]) ∧ StP w' w0 base p m f K L := by
  obtain ⟨A, cap, h1, h2, h3, h4, h5⟩ := h
  refine (take_yes base p m K 256 A _ cap _ f 0 C x y wr h1 rfl hS h2).mono ?_
  rintro e w' ⟨rfl, hB, hO⟩
  refine ⟨by rw [hf x, hf y]; rfl, A, cap, ?_, only_isF h1 hO h2, h3.trans ((hO.base h1).mono h4), h4, h5⟩
  exact hB
theorem spLen {wr w0 : World} {base p m K : Nat} {f : Ad → Option Unit} {L : List (Array Value)} (h : StP wr w0 base p m f K L) : Calls Try.prog 47 #[.pointer (some ⟨p, 0, none⟩)] wr fun e w' => e = .returned (.int .i64 L.length) ∧ wr = w' := by
  obtain ⟨A, cap, h1, _⟩ := h
  exact len_any p m 256 A _ cap wr h1.blk
theorem spParted {wr w0 : World} {base p m K : Nat} {f : Ad → Option Unit} {L : List (Array Value)} (h : StP wr w0 base p m f K L) (hK : K ≤ 1000) :
    Calls Try.prog 60 #[.pointer (some ⟨p, 0, none⟩)] wr fun e w' => ∃ (A : Option Addr) (c : Nat) (ss : List Ad), e = .returned (.slice A ss.length c) ∧ (ss.Nodup ∧ ∀ x, x ∈ ss ↔ (f x).isSome = true) ∧ ss.length ≤ K ∧ Below wr.heap.size wr w' := by
  obtain ⟨A, cap, h1, h2, _⟩ := h
  exact parted_any p m K 256 _ f wr h1.blk h2 hK
theorem spReady {wr w0 : World} {base p m K n : Nat} {f : Ad → Option Unit} {L : List (Array Value)} (h : StP wr w0 base p m f K L) (X Y : Nat → Ad) (hn : L.length = n) (hL : ∀ i, i < n → ∃ C, L[i]? = some C ∧ Sent C (X i) (Y i)) :
    Calls Try.prog 61 #[.pointer (some ⟨p, 0, none⟩)] wr fun e w' => ∃ A3 c3, e = .returned (.slice A3 (readyTo (arr f X Y) n).length c3) ∧ Ints w' wr.heap.size A3 (readyTo (arr f X Y) n).length c3 ((readyTo (arr f X Y) n).map natV) ∧ Below wr.heap.size wr w' := by
  obtain ⟨A, cap, h1, h2, _⟩ := h
  subst hn
  exact ready_any base p m K 256 A _ cap L f X Y wr h1 h2 hL
end Go.Proofs.Ytmmaolhmhdjldaa.BagS
