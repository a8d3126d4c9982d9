/- BagParts: what reads as an address's key is an address; the iterator over a map's addresses, walked. -/
import Derived.Test.YtmmaolhmhdjldaaBagK
import Derived.RangeFuncNested
import Derived.RangeFuncLeaves
import Derived.Sort.MapsRangeIn
import Derived.Sort.KeysCollected
import Derived.Shelf.Abstract
import Derived.Shelf.RegionOpen
import Derived.WalkKit
import Derived.OwnWalkIn
import Derived.TacticsInMore
import Derived.LoopNIn
import Derived.LoopIn
namespace Go.Proofs.Ytmmaolhmhdjldaa.BagS
open Go.RowKit Go.Proofs.Ytmmaolhmhdjldaa.MapF Go.Maps

theorem adFields : ∃ fs, Try.prog.underlying 67 = some (.struct fs) ∧ fs.toList.map (fun f => (f.type, f.offset)) = [(3, 0), (3, 1)] := ⟨_, Try.underlying67, rfl⟩

set_option maxRecDepth 100000 in
theorem adKeyOf_inv {v : Value} {l : Lit} (h : keyOf Try.prog 67 v = some l) : ∃ x : Ad, v = adV x := by
  obtain ⟨d, hd⟩ := adSize
  unfold keyOf at h
  rw [Try.underlying67] at h
  by_cases hf : (Try.prog.keyType 67 && v.formed Try.prog 67) = true
  · simp only [hf, if_true, hd] at h
    rw [Bool.and_eq_true] at hf
    have h2 := hf.2
    clear hf
    cases v with
    | agg cs =>
      simp only [Value.formed, Try.underlying67, adCells67, beq_iff_eq] at h2
      obtain ⟨a, b, hab⟩ : ∃ a b, cs = #[a, b] := ⟨cs[0], cs[1], by
        apply Array.ext
        · simp [h2]
        · intro i h1 h3
          rcases (show i = 0 ∨ i = 1 by omega) with rfl | rfl <;> rfl⟩
      subst hab
      simp only [Value.cells] at h
      cases hk : Try.prog.keyLits (d + 2) 67 [a, b] with
      | none => rw [hk] at h; cases h
      | some ls =>
        clear h
        simp [Program.keyLits, Try.underlying67, Try.underlying3, adCells67, adCells3] at hk
        cases a with
        | int qa na =>
          by_cases ha : qa = .i64 ∧ (Lit.int .i64 na).wf = true
          · obtain ⟨rfl, ha⟩ := ha
            cases b with
            | int qb nb =>
              by_cases hb : qb = .i64 ∧ (Lit.int .i64 nb).wf = true
              · obtain ⟨rfl, hb⟩ := hb
                exact ⟨⟨(na, nb), ha, hb⟩, rfl⟩
              · simp [ha, hb] at hk
            | _ => simp [ha] at hk
          · simp [ha] at hk
        | _ => simp at hk
    | _ => simp [Value.formed, Try.underlying67] at h2
  · simp only [hf] at h
    cases h
theorem adKl (x : Ad) {l : Lit} (h : keyOf Try.prog 67 (adV x) = some l) : l = adMap.kl x := by
  have := adMap.hkey x trivial
  rw [show adMap.kv x = adV x from rfl, h] at this
  exact Option.some.inj this
theorem adV_inj {x y : Ad} (h : adV x = adV y) : x = y := by
  obtain ⟨⟨x1, x2⟩, hx⟩ := x
  obtain ⟨⟨y1, y2⟩, hy⟩ := y
  simp [adV] at h
  obtain ⟨rfl, rfl⟩ := h
  rfl
set_option maxRecDepth 100000 in
theorem adKl_str (x : Ad) : ∃ s, adMap.kl x = .string s := by
  have h := adMap.hkey x trivial
  unfold keyOf at h
  rw [Try.underlying67] at h
  by_cases hf : (Try.prog.keyType 67 && (adMap.kv x).formed Try.prog 67) = true
  · simp only [hf, if_true] at h
    cases hk : Try.prog.keyLits (Try.prog.types.size + 1) 67 (adMap.kv x).cells.toList with
    | none => rw [hk] at h; cases h
    | some ls => rw [hk] at h; exact ⟨_, (Option.some.inj h).symm⟩
  · simp only [hf] at h
    cases h
theorem adSame (x y : Ad) : (adMap.kl x).sameKey (adMap.kl y) = decide (x = y) := by
  obtain ⟨s, hs⟩ := adKl_str x
  obtain ⟨t, ht⟩ := adKl_str y
  by_cases h : x = y
  · subst h
    rw [hs]
    simp [Lit.sameKey]
  · have h' : adMap.kl x ≠ adMap.kl y := fun e => h (adMap.kinj x y e)
    rw [decide_eq_false h]
    rw [hs, ht] at h' ⊢
    simp only [Lit.sameKey, beq_eq_false_iff_ne, ne_eq]
    exact fun e => h' (by rw [e])

/-- No key twice; just those of the map that are no longer to come. -/
def CollA {H : Type} (D0 : DataW H) (left : Lit → Bool) (ss : List Ad) : Prop := ss.Nodup ∧ ∀ x, x ∈ ss ↔ (Maps.has D0 (adMap.kl x) = true ∧ left (adMap.kl x) = false)
theorem CollA.start {H : Type} (D0 : DataW H) : CollA D0 (Maps.has D0) [] := ⟨List.nodup_nil, fun x => by cases Maps.has D0 (adMap.kl x) <;> simp⟩
theorem CollA.step {H : Type} {D0 : DataW H} {left : Lit → Bool} {ss : List Ad} (h : CollA D0 left ss) {x : Ad} {y : DataW H} (hlk : left (adMap.kl x) = true) (hat : ∀ zd, D0.atKey (adMap.kl x) zd = y) : CollA D0 (fun z => left z && !z.sameKey (adMap.kl x)) (ss ++ [x]) := by
  have hhas : Maps.has D0 (adMap.kl x) = true := Maps.has_true_of_atKey hat
  have hnew : x ∉ ss := fun hx => by have := ((h.2 x).1 hx).2; rw [hlk] at this; cases this
  refine ⟨List.nodup_append.2 ⟨h.1, by simp, fun a ha b hb => by simp at hb; subst hb; exact fun e => hnew (e ▸ ha)⟩, fun y => ?_⟩
  by_cases hy : y = x
  · subst hy; simp [hhas, adSame]
  · simp [h.2 y, hy, adSame]

set_option maxRecDepth 100000 in
set_option maxHeartbeats 1000000 in
/-- The iterator, for every loop body. -/
theorem keysA_in (F : Fence) (n : Nat) (h145 : F.fn 145) (hro : F.round = none) (hn : 1 ≤ n) (l Bm b nn : Nat) (D0 : DataW Unit) (J Jx : List Ad → World → Prop)
    (hY : ∀ pre x W, J pre W → pre.length < Maps.size D0 → YieldAt F (n - 1) Try.prog l #[.agg #[.int .i64 x.1.1, .int .i64 x.1.2]] W fun e W' =>
      (e = .returned (.bool true) ∧ J (pre ++ [x]) W' ∧ KeepsWalks W W') ∨ (e = .returned (.bool false) ∧ Jx (pre ++ [x]) W'))
    (W : World) (hJ : AbidesFrom W.heap.size J) (hm : W.cell? ⟨Bm, 0, none⟩ = some (.map (some b))) (hown : W.ownsMap Try.prog 67 adMap.R b nn D0) (h0 : J [] W) :
    CallsIn F n Try.prog 145 #[.func (.yield l) #[] #[], .pointer (some ⟨Bm, 0, none⟩)] W fun e W' => (∃ v, e = .returned v) ∧
      ((∃ ss : List Ad, ((ss.Nodup ∧ ∀ x, x ∈ ss ↔ Maps.has D0 (adMap.kl x) = true) ∧ ss.length ≤ Maps.size D0) ∧ J ss W') ∨ (∃ pre : List Ad, True ∧ Jx pre W')) := by
  refine callsIn_of_wp Try.func145 rfl h145 ?_ hro
  simp only [Try.ntmps145, List.size_toArray, List.length_cons, List.length_nil, Nat.reduceAdd, Nat.reduceSub, Array.replicate_succ, Array.replicate_zero, List.push_toArray, List.append_toArray, List.nil_append, List.cons_append]
  gi_wp2_with (first
    | (gi_at_range; refine wpListIn_range_own _ rfl _ 146 rfl 67 152 adMap.law Try.underlying146 adMap.R b nn _ rfl hown ?_; intro w0 hrg0 hg0 hs0)
    | gi_in)
  go_frame
  gi_loopw [3] (fun _ wr => ∃ (left : Lit → Bool) (cnt : Nat) (ss : List Ad), wr.ranges Try.prog 67 adMap.R b W.heap.size nn D0 left cnt ∧ ss.length + cnt ≤ Maps.size D0 ∧ CollA D0 left ss ∧ J ss wr)
    (fun _ wr => wr.rangeLeft b W.heap.size)
  case atStart =>
    exact ⟨_, _, [], hrg0, by simp, CollA.start D0, hJ [] W w0 none h0 hg0 (fun r e => by cases e)⟩
  case round =>
    obtain ⟨left, cnt, ss, hrg, hcs, hC, hJs⟩ := hrel
    gi_wp2_with (first
      | (gi_at_next; refine wpListIn_next_ranges _ rfl _ rfl 67 adMap.law adMap.R (fun x : Ad => .agg #[.int .i64 x.1.1, .int .i64 x.1.2]) adMap.ev (fun key kl hk => adKeyOf_inv hk) (fun v _ hv => by obtain ⟨a, ha, _⟩ := adMap.R_inv hv; exact ⟨a, ha⟩) b W.heap.size nn _ _ _ rfl hrg ?_ ?_
         rotate_left
         intro x c kl yd w2 cnt2 hkey hlk hv hat hrg2 hlt hg2 hs2 hen
         obtain rfl := adKl x hkey
         have hJ2 : J ss w2 := hJ ss wr w2 (some W.heap.size) hJs hg2 (fun r e => by cases e; exact ⟨Nat.le_refl _, hrg.iter_walk⟩)
         have hC2 := hC.step hlk hat
         have hJ3 : J ss (w2.alloc (.cells #[.int .i64 x.1.1, .int .i64 x.1.2] 67)) := hJ ss w2 _ none hJ2 (World.grownBy_alloc _ _ _) (fun r e => by cases e)
         obtain ⟨fn, tmps, assign, body, hy, hR⟩ := hY ss x _ hJ3 (by omega)
         clear hs2
         rotate_left)
      | gi_in)
    · intro hc0 hl0
      gi_wp2
      go_end0
      exact ⟨⟨_, rfl⟩, .inl ⟨ss, ⟨⟨hC.1, fun x => by rw [hC.2 x, hl0]; simp⟩, by omega⟩, hJs⟩⟩
    · refine hR.mono ?_
      rintro e W3 (⟨rfl, hJ4, hk3⟩ | ⟨rfl, hJx3⟩)
      · gi_wp2
        have hrg3 := hrg2.of_walks ((KeepsWalks.alloc w2 _).trans hk3)
        go_roundw
        case rel => exact ⟨_, cnt2, ss ++ [x], hrg3, by simp; omega, hC2, hJ4⟩
        case measure => rw [hrg3.left_eq, hrg.left_eq]; exact hlt
      · gi_wp2
        refine bodyPost_ret (results_none rfl _ _ _) rfl ?_
        exact ⟨⟨_, rfl⟩, .inr ⟨ss ++ [x], trivial, hJx3⟩⟩

/-- What the iterator over a map of addresses gives. -/
theorem keysA_stops (F : Fence) (n : Nat) (h145 : F.fn 145) (hro : F.round = none) (hn : 1 ≤ n) (Bm m k : Nat) (f : Ad → Option Unit) (w : World) (hBm : Bm < w.heap.size) (hm : w.cell? ⟨Bm, 0, none⟩ = some (.map (some m))) (hf : IsF adMap w m k f) :
    SeqStopsK F n Try.prog 145 #[.pointer (some ⟨Bm, 0, none⟩)] (fun x : Ad => #[.agg #[.int .i64 x.1.1, .int .i64 x.1.2]]) KeepsWalks (fun ss => (ss.Nodup ∧ ∀ x, x ∈ ss ↔ (f x).isSome = true) ∧ ss.length ≤ k) (fun _ => True) k w := fun l J Jx W hW hJ _ hY h0 => by
  obtain ⟨D, hown, hh, _⟩ := hf
  have hsz := hown.size_le
  have hown' : W.ownsMap Try.prog 67 adMap.R m k D := by
    have hbl := hown.lt
    obtain ⟨es, clock, hb, Ft, hs, hD⟩ := hown
    exact ⟨es, clock, (hW.block m hbl).trans hb, Ft, hs, hD⟩
  refine (keysA_in F n h145 hro hn l Bm m k D J Jx (fun pre x W1 h1 h2 => hY pre x W1 h1 (by omega)) W hJ ((hW.cell (p := ⟨Bm, 0, none⟩) hBm).trans hm) hown' h0).mono ?_
  rintro e W' ⟨hv, ⟨ss, ⟨⟨hn, hs⟩, hl'⟩, hJ'⟩ | h⟩
  · exact ⟨hv, .inl ⟨ss, ⟨⟨hn, fun x => by rw [hs x, hh x trivial]⟩, by omega⟩, hJ'⟩⟩
  · exact ⟨hv, .inr h⟩

set_option maxHeartbeats 1000000 in
/-- maps.Keys. -/
theorem keysOf_in (F : Fence) (n : Nat) (h93 : F.fn 93) (hro : F.round = none) (mb : Option Nat) (w : World) :
    CallsIn F n Try.prog 93 #[.map mb] w fun e w' => e = .returned (.func (.func 145) #[] #[.pointer (some ⟨w.heap.size, 0, none⟩)]) ∧ w' = w.alloc (.cells #[.map mb] 146) := by
  refine callsIn_of_wp Try.func93 rfl h93 ?_ hro
  simp only [Try.ntmps93, List.size_toArray, List.length_cons, List.length_nil, Nat.reduceAdd, Nat.reduceSub, Array.replicate_succ, Array.replicate_zero, List.push_toArray, List.append_toArray, List.nil_append, List.cons_append]
  gi_wp2
  go_ret
  exact ⟨rfl, rfl⟩
end Go.Proofs.Ytmmaolhmhdjldaa.BagS
