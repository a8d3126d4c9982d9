/- BagParts: slices.AppendSeq, slices.Collect over whatever iterator over addresses, walked. -/
import Derived.Test.YtmmaolhmhdjldaaPrtB
import Derived.RangeFuncBox
import Derived.RangeFuncBound
import Derived.RangeFuncCalls
import Derived.Maps.AppendAt
namespace Go.Proofs.Ytmmaolhmhdjldaa.BagS
open Go.RowKit Go.Proofs.Ytmmaolhmhdjldaa.MapF Go.Maps Go.Shelf

attribute [local go_sem] Oper.semAt_some

/-- Addresses, cell by cell. -/
def adCells : List Ad → List Value
  | [] => []
  | x :: r => .int .i64 x.1.1 :: .int .i64 x.1.2 :: adCells r
theorem adCells_snoc : ∀ (ss : List Ad) (x : Ad), adCells (ss ++ [x]) = adCells ss ++ [.int .i64 x.1.1, .int .i64 x.1.2]
  | [], _ => rfl
  | y :: r, x => by show _ :: _ :: adCells (r ++ [x]) = _; rw [adCells_snoc r x]; rfl
theorem adCells_len : ∀ ss : List Ad, (adCells ss).length = ss.length * 2
  | [] => rfl
  | y :: r => by show (adCells r).length + 1 + 1 = _; rw [adCells_len r]; simp; omega

/-- Block B is an address's box. -/
def Boxed2 (W : World) (B : Nat) (x : Ad) : Prop := W.heap[B]? = some (.cells #[.int .i64 x.1.1, .int .i64 x.1.2] 67 (0, 0))

theorem info67 : (Try.prog.info? 67).map (fun i => (i.zero, i.size, i.bytes)) = some (some (.agg #[.int .i64 0, .int .i64 0]), 2, 16) := by kernel_rfl
theorem two_new (w : World) (x : Ad) : ∀ j u, [Value.int .i64 x.1.1, .int .i64 x.1.2][j]? = some u → (w.alloc (.cells #[.int .i64 x.1.1, .int .i64 x.1.2] 67)).cell? (Addr.add ⟨w.heap.size, 0, none⟩ j) = some u := by
  intro j u h
  rcases j with _ | _ | j
  · simp at h; subst h; simp [Addr.add]
  · simp at h; subst h; simp [Addr.add]
  · simp at h

set_option maxRecDepth 100000 in
set_option maxHeartbeats 4000000 in
theorem appendSeqA_in (F : Fence) (n : Nat) (h174 : F.fn 174) (hro : F.round = none) (hn : 2 ≤ n) (g : Nat) (lb : Array Value) (hFg : F.fn g) (eg : ∀ args w, (callFunc g args).run Try.prog w = .ok (.enter g args) w)
    (S Sp : List Ad → Prop) (N : Nat) (hN : N ≤ maxLen) (hNb : N * 16 ≤ 140737488355328) (w : World) (hseq : SeqStopsK F (n - 1) Try.prog g lb (fun x : Ad => #[.agg #[.int .i64 x.1.1, .int .i64 x.1.2]]) KeepsWalks S Sp N w) :
    CallsIn F n Try.prog 174 #[.slice none 0 0, .func (.func g) #[] lb] w fun e w' => ∃ (v : Value) (ss : List Ad), e = .returned v ∧ S ss ∧ w'.ownsRow w.heap.size 67 2 v ss.length (adCells ss) ∧ (v = .slice none 0 0 ↔ ss = []) ∧ Below w.heap.size w w' := by
  have h1 : 1 ≤ n := by omega
  obtain ⟨i0, hi, hz0, hz1, hz2⟩ := info_parts info67
  refine callsIn_of_wp_marks Try.func174 rfl h174 ?_ hro
  simp only [Try.ntmps174, List.size_toArray, List.length_cons, List.length_nil, Nat.reduceAdd, Nat.reduceSub, Array.replicate_succ, Array.replicate_zero, List.push_toArray, List.append_toArray, List.nil_append, List.cons_append]
  gi_wp2
  have bS := Boxed.new w 100 (.slice none 0 0)
  have hB0 : Below w.heap.size w (w.alloc (.cells #[.slice none 0 0] 100)) := (Below.refl _ w).alloc (Nat.le_refl _) _
  have hsz : (w.alloc (.cells #[.slice none 0 0] 100)).heap.size = w.heap.size + 1 := by simp
  obtain ⟨W0, hW0⟩ : ∃ W0, w.alloc (.cells #[.slice none 0 0] 100) = W0 := ⟨_, rfl⟩
  rw [hW0] at bS hB0 hsz ⊢
  clear hW0
  refine wpIn_rangeFunc_ownH hro h1 (gf := g) (lb := lb) rfl hFg eg
    hseq walksK_t walksK_b hB0 (fun _ => rfl)
    (fun pre W => (∃ v, Boxed W w.heap.size 100 v ∧ W.ownsRow w.heap.size 67 2 v pre.length (adCells pre) ∧ (v = .slice none 0 0 ↔ pre = [])) ∧ Below w.heap.size w W)
    (fun _ _ _ => False)
    (OwnFrom.and (Own.from (holdsRow_own w.heap.size w.heap.size 100 67 2 (fun pre : List Ad => pre.length) adCells (fun pre v => (v = .slice none 0 0 ↔ pre = []))) _) (ownFrom_below (Nat.le_refl _) (by omega)))
    (fun _ _ _ _ _ hs _ _ => hs)
    ⟨⟨_, bS, World.ownsRow_nil _ _ _ _, by simp⟩, hB0⟩
    (fun x a' W => ∃ Bx, w.heap.size < Bx ∧ Boxed2 W Bx x ∧ a' = { tmps := #[.slice none 0 0, .func (.func g) #[] lb, .pointer (some ⟨w.heap.size, 0, none⟩), undef, .slice none 0 0, .pointer (some ⟨Bx, 0, none⟩), .func (.func g) #[] lb, .agg #[.int .i64 x.1.1, .int .i64 x.1.2], undef, undef, undef, undef, undef], defers := [] })
    (fun x a' _ X Y row hs hg hr => by
      obtain ⟨Bx, h1, h2, h3⟩ := hs
      refine ⟨Bx, h1, ?_, h3⟩
      refine (hg.block Bx (Array.getElem?_eq_some_iff.1 h2).1 ?_).trans h2
      intro e'
      obtain ⟨_, o, ho, hc⟩ := hr Bx e'.symm
      rw [show X.heap[Bx]? = _ from h2] at ho; cases ho; cases hc)
    ?assign ?body ?done ?stop
  case assign =>
    rintro l pre x W K ⟨⟨v, bS1, hr1, hnl⟩, hB1⟩ hK
    gi_wp2
    exact hK _ _ ((KeepsOthers.alloc _ _).from _) (KeepsWalks.alloc _ _) ⟨⟨_, bS1.alloc _, hr1.alloc _, hnl⟩, hB1.alloc hB1.size _⟩ ⟨W.heap.size, bS1.lt, World.alloc_heap_new _ _, rfl⟩
  case body =>
    rintro l pre x a' W hl ⟨r, hr⟩ ⟨⟨v, bS1, hr1, hnl⟩, hB1⟩ ⟨Bx, hBx, bX, rfl⟩ hlt
    have cS := bS1.cell
    have fS := bS1.frozen
    have c0 : W.cell? ⟨Bx, 0, none⟩ = some (.int .i64 x.1.1) := by unfold Boxed2 at bX; simp [World.cell?, bX]
    have c1 : W.cell? ⟨Bx, 1, none⟩ = some (.int .i64 x.1.2) := by unfold Boxed2 at bX; simp [World.cell?, bX]
    have hsW := hB1.size
    gi_wp2_with (gi_at_builtin; refine wpListIn_append_own _ rfl _ _ 100 rfl w.heap.size 67 i0 (.agg #[.int .i64 0, .int .i64 0]) 2 16 Try.underlying100 hi hz0 hz1 hz2 rfl (by decide) _ pre.length (adCells pre) rfl (hr1.alloc _) ⟨W.heap.size, 0, none⟩ 1 1 [.int .i64 x.1.1, .int .i64 x.1.2] rfl rfl (two_new W x) (by simp [Value.oneCell']) (by omega) (by omega) (by simp; omega) ?_; intro v' w1 hown' hgrow _; obtain ⟨g', cap', rfl⟩ := ownsRow_succ hown'; obtain ⟨hv1, hv2, hr2, hk2, hb2⟩ := bS1.appended (by decide) hr1 hsW (Nat.le_refl _) hown' hgrow; have hc1 := hv1.cell; have hf1 := hv1.frozen)
    exact ⟨hk2.from _, hk2.walks, ⟨⟨_, hv2, by rw [adCells_snoc, List.length_append]; exact hr2, by simp⟩, hB1.trans hb2⟩⟩
  case done =>
    rintro D ss W hD hS ⟨⟨v, bS1, hr1, hnl⟩, hB1⟩ hK
    have cS := bS1.cell
    gi_wp2
    refine ⟨by simp, .inl ⟨_, _, rfl, run_takeDeferred hK, ?_⟩⟩
    exact ⟨_, results_tmp rfl _ _ _, v, ss, rfl, hS, ownsRow_putObj hr1 _ hK rfl, hnl, hB1.trans (belowK_b (w := w) (Nat.le_refl _) W D _ _ (by omega) hK rfl rfl)⟩
  case stop =>
    rintro D c pre W _ _ h _
    exact h.elim

set_option maxHeartbeats 1000000 in
/-- slices.Collect. -/
theorem collectA_in (F : Fence) (n : Nat) (h143 : F.fn 143) (h174 : F.fn 174) (hro : F.round = none) (hn : 3 ≤ n) (g : Nat) (lb : Array Value) (hFg : F.fn g) (eg : ∀ args w, (callFunc g args).run Try.prog w = .ok (.enter g args) w)
    (S Sp : List Ad → Prop) (N : Nat) (hN : N ≤ maxLen) (hNb : N * 16 ≤ 140737488355328) (w : World) (hseq : SeqStopsK F (n - 1 - 1) Try.prog g lb (fun x : Ad => #[.agg #[.int .i64 x.1.1, .int .i64 x.1.2]]) KeepsWalks S Sp N w) :
    CallsIn F n Try.prog 143 #[.func (.func g) #[] lb] w fun e w' => ∃ (v : Value) (ss : List Ad), e = .returned v ∧ S ss ∧ w'.ownsRow w.heap.size 67 2 v ss.length (adCells ss) ∧ (v = .slice none 0 0 ↔ ss = []) ∧ Below w.heap.size w w' := by
  have h1 : 1 ≤ n := by omega
  have c := appendSeqA_in F (n - 1) h174 hro (by omega) g lb hFg eg S Sp N hN hNb w hseq
  refine callsIn_of_wp Try.func143 rfl h143 ?_ hro
  simp only [Try.ntmps143, List.size_toArray, List.length_cons, List.length_nil, Nat.reduceAdd, Nat.reduceSub, Array.replicate_succ, Array.replicate_zero, List.push_toArray, List.append_toArray, List.nil_append, List.cons_append]
  gi_wp2_with (gi_at_call 174; refine c.mono ?_; rintro e w' ⟨v, ss, rfl, hS, hrow, hnl, hb⟩)
  go_ret
  exact ⟨v, ss, rfl, hS, hrow, hnl, hb⟩
end Go.Proofs.Ytmmaolhmhdjldaa.BagS
