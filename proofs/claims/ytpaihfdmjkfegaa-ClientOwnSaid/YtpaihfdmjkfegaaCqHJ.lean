/- How many keys a map has; an entry that comes out of a range. -/
import Derived.Test.YtpaihfdmjkfegaaCqAD
import Derived.Maps.RangeWalk
import Derived.Sort.KeysCollected
import Derived.Test.YtpaihfdmjkfegaaWrShelf
import Derived.Shelf.SlSortCmp.NoneTotal
import Derived.Shelf.SlSortCmp.InsertionK
import Derived.Sort.Walk0
import Derived.Deep.LoopGhost
/- How many keys a map has; an entry that comes out of a range. -/
namespace Go.Proofs.Ytpaihfdmjkfegaa.Cl
open Go.RowKit Go.Lib Go.Maps Go.Proofs.Ytpaihfdmjkfegaa.MapF Go.Proofs.Ytpaihfdmjkfegaa.Msg

theorem keyOf_str_inv {key : Value} {kl : Lit} (h : keyOf Try.prog 9 key = some kl) : ∃ s, key = .string s ∧ kl = .string s.data.toList ∧ okS s := by
  rw [keyOf_string Try.underlying9] at h
  unfold mapKey at h
  rw [Try.underlying9] at h
  cases key <;> simp at h
  rename_i s
  exact ⟨s, rfl, h.2.symm, h.1⟩
theorem sameKey_str (a b : ByteArray) : (Lit.string a.data.toList).sameKey (Lit.string b.data.toList) = decide (a = b) := by
  simp only [Lit.sameKey]
  by_cases h : a = b
  · subst h
    simp
  · rw [decide_eq_false h]
    rw [beq_eq_false_iff_ne]
    intro e
    obtain ⟨⟨a⟩⟩ := a
    obtain ⟨⟨b⟩⟩ := b
    simp at e
    exact h (by rw [e])

section
variable {α : Type} {M : MapTy Try.prog 9 ByteArray α} {w : World} {b n : Nat} {f : ByteArray → Option α}
/-- How many entries a map has. -/
theorem isF_len (hkl : ∀ s, M.kl s = .string s.data.toList) (hok : ∀ s, M.ok s ↔ okS s) (h : IsF M w b n f) (ss : List ByteArray) (hn : ss.Nodup) (hss : ∀ x ∈ ss, okS x) (hs : ∀ x, x ∈ ss ↔ (f x).isSome = true) {t e : TypeId} (ht : Try.prog.underlying t = some (.map 9 e)) (ty : TypeId) :
    (Builtin.len_ #[t] ty #[.map (some b)]).run Try.prog w = .ok (.int .i64 ss.length) w := by
  obtain ⟨D, hown, hh, _⟩ := h
  rw [hown.len ht ty]
  have hsz : Maps.size D = ss.length := by
    obtain ⟨es, hD, hpw, _⟩ := hown.entries M.law
    obtain ⟨es', hD', hko⟩ := hown.keysOf
    obtain rfl : es = es' := by rw [hD] at hD'; simpa using hD'
    subst hD
    have hk : ∀ p ∈ es, ∃ x : ByteArray, p.1 = M.kl x ∧ okS x := fun p hp => by
      obtain ⟨v, hv⟩ := hko p hp
      obtain ⟨x, _, h2, h3⟩ := keyOf_str_inv hv
      exact ⟨x, h2.trans (hkl x).symm, h3⟩
    have hp : (ss.map M.kl).Perm (es.map (·.1)) := by
      refine (List.perm_ext_iff_of_nodup (List.pairwise_map.2 (hn.imp fun hne e => hne (M.kinj _ _ e))) (List.pairwise_map.2 hpw)).2 fun l => ?_
      rw [List.mem_map, List.mem_map]
      constructor
      · rintro ⟨x, hx, rfl⟩
        have h1 := hh x ((hok x).2 (hss x hx))
        rw [(hs x).1 hx, Maps.has_eq, List.any_eq_true] at h1
        obtain ⟨p, hp, hq⟩ := h1
        obtain ⟨y, hy, _⟩ := hk p hp
        rw [hy, hkl, hkl, sameKey_str, decide_eq_true_eq] at hq
        subst hq
        exact ⟨p, hp, hy⟩
      · rintro ⟨p, hp, rfl⟩
        obtain ⟨y, hy, hyo⟩ := hk p hp
        refine ⟨y, (hs y).2 ?_, hy.symm⟩
        rw [← hh y ((hok y).2 hyo), Maps.has_eq, List.any_eq_true]
        exact ⟨p, hp, by rw [hy, hkl, sameKey_str]; simp⟩
    have := hp.length_eq
    rw [List.length_map, List.length_map] at this
    rw [this]
    rfl
  rw [hsz]
end

/-- What a range over a transaction's writes has handed out. -/
structure Out (la : ByteArray → Option WrV) (left : Lit → Bool) (ds : List WrV) : Prop where
  nodup : ds.Nodup
  of : ∀ x ∈ ds, la x.1 = some x
  left_ : ∀ k, okS k → left (.string k.data.toList) = true → (la k).isSome = true ∧ ∀ x ∈ ds, x.1 ≠ k
  rest : ∀ k, okS k → (la k).isSome = true → left (.string k.data.toList) = false → ∃ x ∈ ds, x.1 = k
theorem Out.start {la : ByteArray → Option WrV} {D : DataW Unit} (h1 : ∀ x, okS x → Maps.has D (.string x.data.toList) = (la x).isSome) : Out la (Maps.has D) [] :=
  ⟨List.nodup_nil, fun x hx => (nomatch hx), fun k hk h => ⟨by rw [← h1 k hk]; exact h, fun x hx => (nomatch hx)⟩, fun k hk h1' h2 => by rw [h1 k hk, h1'] at h2; cases h2⟩
theorem Out.step {la : ByteArray → Option WrV} {left : Lit → Bool} {ds : List WrV} (h : Out la left ds) (hk : ∀ k y, la k = some y → y.1 = k) {k : ByteArray} {c : WrV} (ok : okS k) (hl : left (.string k.data.toList) = true) (hc : la k = some c) :
    Out la (fun z => left z && !z.sameKey (.string k.data.toList)) (ds ++ [c]) := by
  have e : c.1 = k := hk k c hc
  refine ⟨?_, fun x hx => ?_, fun j hj hlj => ?_, fun j hj hs hlj => ?_⟩
  · rw [List.nodup_append]
    refine ⟨h.nodup, by simp, fun a ha b hb => ?_⟩
    simp only [List.mem_singleton] at hb
    rintro rfl
    exact (h.left_ k ok hl).2 a ha (hb ▸ e)
  · rcases List.mem_append.1 hx with hx | hx
    · exact h.of x hx
    · simp only [List.mem_singleton] at hx
      rw [hx, e]
      exact hc
  · simp only [Bool.and_eq_true, sameKey_str, Bool.not_eq_true', decide_eq_false_iff_not] at hlj
    obtain ⟨h1, h2⟩ := h.left_ j hj hlj.1
    refine ⟨h1, fun x hx => ?_⟩
    rcases List.mem_append.1 hx with hx | hx
    · exact h2 x hx
    · simp only [List.mem_singleton] at hx
      rw [hx, e]
      exact fun e' => hlj.2 e'.symm
  · by_cases hjk : j = k
    · exact ⟨c, by simp, by rw [e, hjk]⟩
    · have hlf : left (.string j.data.toList) = false := by
        cases hlv : left (.string j.data.toList) with
        | false => rfl
        | true => simp only [hlv, sameKey_str, decide_eq_false hjk] at hlj; cases hlj
      obtain ⟨x, hx, hx'⟩ := h.rest j hj hs hlf
      exact ⟨x, by simp [hx], hx'⟩
/-- At the end each write has come out, once. -/
theorem Out.done {la : ByteArray → Option WrV} {left : Lit → Bool} {ds : List WrV} (h : Out la left ds) (hl : ∀ kl, left kl = false) {ls : List ByteArray} (hn : ls.Nodup) (hok : ∀ k ∈ ls, okS k) (hs : ∀ k, k ∈ ls ↔ (la k).isSome = true) : (ds.map (·.1)).Perm ls := by
  refine (List.perm_ext_iff_of_nodup (List.pairwise_map.2 (h.nodup.imp_of_mem fun {a b} ha hb hne e => hne (by
    have h1 := h.of a ha
    have h2 := h.of b hb
    rw [e, h2] at h1
    exact (Option.some.inj h1).symm))) hn).2 fun k => ?_
  · rw [List.mem_map]
    constructor
    · rintro ⟨x, hx, rfl⟩
      rw [hs, h.of x hx]
      rfl
    · intro hk
      exact h.rest k (hok k hk) ((hs k).1 hk) (hl _)
end Go.Proofs.Ytpaihfdmjkfegaa.Cl

/- slices.SortFunc of Writes by their keys: what it leaves. -/
namespace Go.Proofs.Ytpaihfdmjkfegaa.Cl
open Go.RowKit Go.Sort Go.Lib Go.Shelf Go.Proofs.Ytpaihfdmjkfegaa.Msg

theorem wrC_at (x : WrV) (r : Nat) (h : r < 3) : (wrC x)[r]? = some ((wrC x)[r]!) := by
  rcases (show r = 0 ∨ r = 1 ∨ r = 2 by omega) with rfl | rfl | rfl <;> rfl
theorem wrCells_flat (l : List WrV) (t : Nat) (h : t < l.length * 3) : (wrCells l)[t]? = some ((flatK wrC 3 l.toArray)[t]!) := by
  have hi : t / 3 < l.length := by omega
  rw [get_flatK _ _ _ _ (by simpa using h)]
  have := wrCells_at l (t / 3) (t % 3) _ (List.getElem?_eq_getElem hi) (by omega)
  rw [show t / 3 * 3 + t % 3 = t by omega] at this
  rw [this, getElem!_pos l.toArray (t / 3) (by simpa using hi)]
  rw [wrC_at _ _ (by omega)]
  simp
theorem wr_holds {w : World} {base g cap : Nat} {l : List WrV} (h : w.ownsRow base 63 3 (.slice (some ⟨g, 0, none⟩) l.length cap) l.length (wrCells l)) : HoldsK wrC 3 w g 0 l.toArray := by
  intro j hj
  rw [size_flatK] at hj
  simp only [List.size_toArray] at hj
  refine ⟨?_, World.ownsRow.frozenAt h _⟩
  rw [Nat.zero_add, World.ownsRow.cellAt h j hj]
  exact wrCells_flat l j hj
theorem wr_sorted {w : World} {base g n cap : Nat} {xs : List Value} (h : w.ownsRow base 63 3 (.slice (some ⟨g, 0, none⟩) n cap) n xs) (l : List WrV) (hl : l.length = n) (m : Nat) (os : Array Obj) :
    (sortWorldK wrC 3 w g 0 m l.toArray os).ownsRow base 63 3 (.slice (some ⟨g, 0, none⟩) n cap) n (wrCells l) ∧ w.grownBy (sortWorldK wrC 3 w g 0 m l.toArray os) (some g) := by
  rcases h.2 with ⟨h', _⟩ | ⟨g', cap', cur, h', hb, hg, h2, h3, h4, h5⟩
  · simp at h'
  · simp only [Value.slice.injEq, Option.some.injEq, Addr.mk.injEq, and_true, true_and] at h'
    obtain ⟨rfl, rfl⟩ := h'
    have hlt : g < w.heap.size := (Array.getElem?_eq_some_iff.1 hg).1
    have hsz : (putRowK wrC 3 (Sort.ahead w m) g 0 l.toArray).heap.size = w.heap.size := by simp [putRowK, putRow, mapBlock, Sort.ahead]
    refine ⟨⟨by rw [wrCells_len, hl], .inr ⟨g, cap, putCells id 0 (flatK wrC 3 l.toArray) cur, rfl, hb, ?_, h2, h3, by simpa [putCells] using h4, ?_⟩⟩, ⟨rfl, rfl, rfl, ?_, ?_⟩⟩
    · show ((putRowK wrC 3 (Sort.ahead w m) g 0 l.toArray).heap ++ os)[g]? = _
      rw [Array.getElem?_append_left (by rw [hsz]; exact hlt)]
      simp [putRowK, putRow, mapBlock, Sort.ahead, Array.getElem?_modify, hg, onCells]
    · apply List.ext_getElem?
      intro j
      rw [List.getElem?_take, Array.getElem?_toList]
      by_cases hj : j < n * 3
      · have hjc : j < cur.size := by
          have : n * 3 ≤ cap * 3 := Nat.mul_le_mul_right _ h2
          omega
        rw [if_pos hj]
        simp only [putCells, Array.getElem?_mapIdx, Array.getElem?_eq_getElem hjc, Option.map_some]
        rw [if_pos (by rw [size_flatK]; simp only [List.size_toArray]; omega), Nat.sub_zero]
        rw [wrCells_flat l j (by rw [hl]; exact hj)]
        rfl
      · rw [if_neg hj, List.getElem?_eq_none (by rw [wrCells_len]; omega)]
    · show w.heap.size ≤ ((putRowK wrC 3 (Sort.ahead w m) g 0 l.toArray).heap ++ os).size
      rw [Array.size_append, hsz]; omega
    · intro k hk hne
      show ((putRowK wrC 3 (Sort.ahead w m) g 0 l.toArray).heap ++ os)[k]? = _
      rw [Array.getElem?_append_left (by rw [hsz]; exact hk)]
      simp [putRowK, putRow, mapBlock, Sort.ahead, Array.getElem?_modify, show g ≠ k from fun e => hne (by rw [e])]

def keyLt (x y : WrV) : Bool := Op.bytesLess x.1.toList y.1.toList
def wrOrd (x y : WrV) : Int := if keyLt x y then -1 else 1
theorem lt_wr (x y : WrV) : ltOf wrOrd x y = keyLt x y := by
  unfold ltOf wrOrd
  cases keyLt x y <;> rfl
theorem keyLt_eq (x y : WrV) : keyLt x y = decide (x.1.toList < y.1.toList) := bytesLess_eq _ _
theorem swo_wr : SWO (ltOf wrOrd) where
  irrefl x := by rw [lt_wr, keyLt_eq]; simp
  trans x y z h1 h2 := by
    rw [lt_wr, keyLt_eq, decide_eq_true_eq] at *
    exact List.lt_trans h1 h2
  ntrans x y z h1 h2 := by
    rw [lt_wr, keyLt_eq, decide_eq_false_iff_not, List.not_lt] at *
    exact List.le_trans h2 h1

theorem grow_two (w : World) (o o' : Obj) : (w.alloc o).alloc o' = grow (w.drewN 0) #[o, o'] := by
  rw [alloc_eq_grow, alloc_eq_grow, grow_grow]
  rfl
/-- The comparison that a commit hands to SortFunc. -/
theorem endCmp_any (x y : WrV) (w : World) : Calls Try.prog 53 #[.agg (wrC x).toArray, .agg (wrC y).toArray] w fun e w' => e = .returned (.int .i64 (wrOrd x y)) ∧ ∃ q os', w' = grow (w.drewN q) os' := by
  obtain ⟨bb, hbb⟩ : ∃ b, b = keyLt x y := ⟨_, rfl⟩
  have h1 : wrOrd x y = if bb then -1 else 1 := by rw [hbb]; rfl
  rw [h1]
  have h2 : Op.bytesLess x.1.toList y.1.toList = bb := hbb.symm
  clear hbb h1
  unfold wrC
  go_enter Try.func53, Try.ntmps53
  cases bb with
  | true =>
    go_wp2_with fail
    go_ret
    exact ⟨rfl, 0, _, grow_two w _ _⟩
  | false =>
    go_wp2_with fail
    go_ret
    exact ⟨rfl, 0, _, grow_two w _ _⟩

theorem perm_list {d d' : Array WrV} (h : PermIn 0 d.size d d') : d'.toList.Perm d.toList := by
  obtain ⟨hs, _, hp⟩ := h
  have e1 : d.extract 0 d.size = d := by simp
  have e2 : d'.extract 0 d.size = d' := by rw [← hs]; simp
  rwa [e1, e2] at hp
theorem sorted_list {d' : Array WrV} {n : Nat} (hn : d'.size = n) (h : SortedIn (ltOf wrOrd) 0 n d') : d'.toList.Pairwise (fun x y => keyLt y x = false) := by
  rw [List.pairwise_iff_getElem]
  intro i j hi hj hij
  have hi' : i < d'.size := by simpa using hi
  have hj' : j < d'.size := by simpa using hj
  have := h i j (Nat.zero_le _) hij (by omega)
  rw [lt_wr, getElem!_pos d' j hj', getElem!_pos d' i hi'] at this
  simpa using this

/-- slices.SortFunc of a row of Writes of one's own. -/
theorem sortW_any (l : List WrV) (base : Nat) (v : Value) (hl : l.length ≤ 1000) (w : World) (h : w.ownsRow base 63 3 v l.length (wrCells l)) :
    Calls Try.prog 52 #[v, .func (.func 53) #[] #[]] w fun e w' => e = .returned (.tuple #[]) ∧ ∃ l', l'.Perm l ∧ l'.Pairwise (fun x y => keyLt y x = false) ∧ w'.ownsRow base 63 3 v l'.length (wrCells l') ∧ w.grownBy w' v.ownBlock := by
  rcases h.2 with ⟨rfl, hz⟩ | ⟨g, cap, cur, rfl, hbase, hg, _⟩
  · obtain rfl : l = [] := List.length_eq_zero_iff.1 hz
    refine (AnyF.slices_SortFunc_none Try.sortWr none 0 (.func (.func 53) #[] #[]) w).mono ?_
    rintro e w' ⟨rfl, rfl⟩
    exact ⟨rfl, [], List.Perm.refl _, List.Pairwise.nil, h, World.grownBy.refl _ _⟩
  · have eg : ∀ args w, (callFunc 53 args).run Try.prog w = .ok (.enter 53 args) w := enters_of Try.func53 (by kernel_rfl) rfl
    have hcmp : CmpLays Try.prog 53 #[] wrC 3 wrOrd g 0 l.toArray.size w := fun m os dk hs x y => endCmp_any x y _
    have hcon := AnyQ.slices_SortFunc Try.sortWr 3 Try.isAgg63 Try.sizeOf63 wrC (fun _ => rfl) (fun x v hv => by simp [wrC] at hv; rcases hv with rfl | rfl | rfl <;> rfl) wrOrd swo_wr 53 #[] g 0 cap l.toArray w eg hcmp (wr_holds h) (Array.getElem?_eq_some_iff.1 hg).1 (by simp only [List.size_toArray]; omega)
    change Calls Try.prog 52 _ _ _ at hcon
    rw [List.size_toArray] at hcon
    refine hcon.mono ?_
    rintro e w' ⟨rfl, d', m, os, hp, hs, rfl⟩
    have hsz : d'.size = l.length := by have := hp.1; simpa using this
    have hrow := wr_sorted h d'.toList (by simpa using hsz) m os
    rw [Array.toArray_toList] at hrow
    refine ⟨rfl, d'.toList, by have := perm_list (d := l.toArray) (d' := d') (by rw [List.size_toArray]; exact hp); simpa using this, sorted_list hsz hs, ?_, hrow.2⟩
    rw [show d'.toList.length = l.length by simpa using hsz]
    exact hrow.1
end Go.Proofs.Ytpaihfdmjkfegaa.Cl

/- end, at an abort and where nothing was asked for: walked. -/
namespace Go.Proofs.Ytpaihfdmjkfegaa.Cl
open Go.RowKit Go.Lib Go.Maps Go.Proofs.Ytpaihfdmjkfegaa.MapF Go.Proofs.Ytpaihfdmjkfegaa.Msg Go.Proofs.Ytpaihfdmjkfegaa.Cls Go.Proofs.Ytpaihfdmjkfegaa.Ck

attribute [local go_sem ↓] loadMsg_eq storeMsg_eq buildMsg_eq
attribute [local go_sem] run_loadMsg run_storeMsg run_buildMsg
attribute [local go_sem ↓] loadAct_eq storeAct_eq storeCall_eq loadCall_eq
attribute [local go_sem] run_loadAct run_storeAct run_storeCall run_loadCall

/-- The message that ends a transaction. -/
def endM (kind : Int) (v18 v19 : Value) : Array Value := #[.int .i64 kind, .int .i64 0, .int .i64 0, .int .i64 0, .int .i64 0, .int .i64 0, .int .i64 0, .int .i64 0, .int .i64 0, .bool false, .slice none 0 0, .slice none 0 0,
   .int .i64 0, .int .i64 0, .int .i64 0, .int .i64 0, .string ⟨#[]⟩, .int .i64 0, v18, v19, .int .i64 0, .int .i64 0, .int .i64 0, .int .i64 0, .bool false, .string ⟨#[]⟩]
theorem endM_ok (kind : Int) (A18 A19 : Option Addr) (n18 c18 n19 c19 : Nat) : MsgC (endM kind (.slice A18 n18 c18) (.slice A19 n19 c19)) := ⟨rfl, by simp [endM, Value.oneCell']⟩
/-- What an end's asking leaves. -/
structure Ended (p : Nat) (c : Client) (n cc : Int) (k : Nat) (node : Int) (kind : Int) (ws : List WrV) (gi : List Int) (a : ActV) (w w' : World) (mb : Nat) : Prop where
  hb : w.heap.size ≤ mb
  it : ∃ mid u18 u19 v18 v19, w.heap.size ≤ mid ∧ mid ≤ mb ∧ Blk w' mb 55 (((aimedM (reqM (endM kind v18 v19) (c.seq + 1) n cc c.num) k node).setIfInBounds 18 u18).setIfInBounds 19 u19) ∧
    ClAt w' p { c with seq := c.seq + 1, waits := true, hinted := false, grp := k, M := reqM (endM kind v18 v19) (c.seq + 1) n cc c.num, act := a } ∧
    SlIn (fun j => mid ≤ j ∧ j < mb) w' u18 ws.length (wrCells ws) ∧ SlIn (fun j => mid ≤ j ∧ j < mb) w' u19 gi.length (inC gi) ∧
    SlIn (fun j => w.heap.size ≤ j ∧ j < mid) w' v18 ws.length (wrCells ws) ∧ SlIn (fun j => w.heap.size ≤ j ∧ j < mid) w' v19 gi.length (inC gi)
  chg : Chg (fun b => b = p) w w'

set_option maxRecDepth 100000 in
set_option maxHeartbeats 4000000 in
theorem end_abort (p : Nat) (c : Client) (A0 : Nat → Prop) (x : TxB) (t : TxS) (gb gn cap k : Nat) (node : Int) (a : ActV) (w : World) (hC : ClAt w p c) (ht : c.vt = .pointer (some ⟨x.tb, 0, none⟩)) (hT : TxAt A0 w x t) (hks : t.ks ≠ []) (hkl : t.ks.length ≤ 1000) (hgl : t.gr.length ≤ 1000) (hcall : a.call = 6)
    (hg : c.vg = .slice (some ⟨gb, 0, none⟩) gn cap) (hkn : k < gn) (hhome : t.home = (k : Int)) (hpg : p ≠ gb) (hx : w.cell? ⟨gb, k, none⟩ = some (.int .i64 node)) (hs : 0 ≤ c.seq ∧ c.seq < 1000000) :
    Calls Try.prog 42 #[.pointer (some ⟨p, 0, none⟩), .agg a.cs] w fun e w' => ∃ mb, e = .returned (callV (.slice (some ⟨mb, 0, none⟩) 1 1) a false) ∧ Ended p c t.n t.c k node 8 [] t.gr a w w' mb := by
  have H := Lib.hid hC
  have HT := Lib.hid hT
  have hp := hC.blk.lt
  have tl := hT.blk.lt
  have pt : p ≠ x.tb := hC.blk.ne_ hT.blk (by decide)
  have HX := Lib.hid hx
  have gbl : gb < w.heap.size := World.block_lt_of_cell? w _ hx
  have LN := Lib.hid (fun (v : World) (hv : Below w.heap.size w v) => isF_len (M := mB) (fun _ => rfl) (fun _ => Iff.rfl) ((hT.keep hv).k1) t.ks hT.ksN.1 hT.ksN.2 (fun y => by unfold setF; by_cases h : y ∈ t.ks <;> simp [h]) Try.underlying107 3)
  have c7 := hC.vt
  rw [ht] at c7
  have SG : Hid (SlIn (fun j => j < w.heap.size) w x.vs t.gr.length (inC t.gr)) := Lib.hid (by
    rcases hT.gr.2 with ⟨h1, h2⟩ | ⟨g, cap', cur, h1, _⟩
    · rw [h1, h2]
      have : t.gr = [] := List.length_eq_zero_iff.1 h2
      rw [this]
      exact SlIn.nil _ _
    · have hh := hT.gr
      rw [h1] at hh ⊢
      have h3 := SlIn.of_own hh
      obtain ⟨A, cp, e1, e2, e3⟩ := h3
      refine ⟨A, cp, e1, e2, fun hx => ?_⟩
      obtain ⟨b, o, e4, _, e5⟩ := e3 hx
      exact ⟨b, o, e4, World.block_lt_of_cell? w _ (e5 0 _ (List.getElem?_eq_getElem hx)), e5⟩)
  obtain ⟨D, hD⟩ : ∃ D, D = a.cs := ⟨_, rfl⟩
  have d1 : D[1]? = some (.int .i64 6) := by rw [hD]; simp [ActV.cs, hcall]
  have DC : Hid (CellsN 11 D) := Lib.hid (hD ▸ a.cells)
  have ED := Lib.hid hD
  rw [← hD]
  have hl0 : ¬ (t.ks.length : Int) = 0 := by
    have : 0 < t.ks.length := List.length_pos_iff.2 hks
    omega
  obtain ⟨nk, hnk⟩ : ∃ nk, nk = t.ks.length := ⟨_, rfl⟩
  rw [← hnk] at LN hl0
  have HTT := Lib.hid ht
  have HHO := Lib.hid hhome
  clear hC ht hT hx hD hks hnk hcall hhome
  go_enter Try.func42, Try.ntmps42
  go_upto_region 2 with (fail)
  refine world_out (fun W hW => ?_)
  obtain ⟨b1, hb1⟩ : ∃ b, b = w.heap.size := ⟨_, rfl⟩
  have BW : Hid (Below w.heap.size w W) := Lib.hid (by rw [hW]; exact ((Below.refl _ _).alloc (Nat.le_refl _) _).alloc (by simp) _)
  have A1 : Hid (Blk W b1 43 D) := Lib.hid (by rw [hW, hb1]; exact (Blk.new w 43 D).alloc _)
  have R1 : Hid (∃ Z, Blk W (b1 + 1) 102 Z ∧ Z.size = 13) := Lib.hid ⟨_, by rw [hW, hb1]; exact Blk.new2 w 43 D 102 _, rfl⟩
  have hbw : w.heap.size ≤ b1 := Nat.le_of_eq hb1.symm
  have hbw' : b1 ≤ w.heap.size := Nat.le_of_eq hb1
  rw [← hb1]
  clear hW hb1 c7
  have T1 := Lib.hid (HT.out.keep BW.out)
  have t4 : W.cell? ⟨x.tb, 4, none⟩ = some (.map (some x.m1)) := T1.out.blk.cell 4
  have t3 : W.cell? ⟨x.tb, 3, none⟩ = some x.vs := T1.out.blk.cell 3
  have ln := LN.out W BW.out
  go_upto_region 5 with (fail)
  have CG := Lib.hid (cloneI_any _ x.vs t.gr hgl W (SG.out.keep BW.out))
  have a1 : W.cell? ⟨b1, 1, none⟩ = some (.int .i64 6) := by rw [A1.out.cell]; exact d1
  have F : Hid (∀ v, Below W.heap.size W v → v.cell? ⟨b1, 1, none⟩ = some (.int .i64 6)) := Lib.hid (fun v hv => (hv.cell (p := ⟨b1, 1, none⟩) A1.out.lt).trans a1)
  go_upto_region 6 with (go_at_call 47; go_loud (refine CG.out.mono ?_; rintro e w4 ⟨_, rfl, ⟨A19, c19, rfl, z19, r19⟩, hb4⟩; have K4 : Hid (SlIn (fun j => W.heap.size ≤ j) w4 (.slice A19 t.gr.length c19) t.gr.length (inC t.gr) ∧ Below W.heap.size W w4) := Lib.hid ⟨⟨A19, c19, rfl, z19, r19⟩, hb4⟩; have mc := endM_ok 8 none A19 0 0 t.gr.length c19; unfold endM at mc; have rz := room_new w4 zeroC rfl; unfold zeroC at rz; clear z19 r19 hb4))
  refine world_out (fun V hV => ?_)
  obtain ⟨b6, hb6⟩ : ∃ b, b = w4.heap.size := ⟨_, rfl⟩
  have BV : Hid (Below W.heap.size W V) := Lib.hid (by rw [hV]; exact below_setCells (K4.out.2.alloc (by have := K4.out.2.size; omega) _) _ _ (by have := K4.out.2.size; omega) _)
  have M6 : Hid (Blk V b6 55 (endM 8 (.slice none 0 0) (.slice A19 t.gr.length c19))) := Lib.hid (by
    rw [hV, hb6]
    exact blk_fill (Blk.new w4 55 _) (C := endM 8 (.slice none 0 0) (.slice A19 t.gr.length c19)) rfl)
  have Q4 : Hid (SlIn (fun j => W.heap.size ≤ j ∧ j < b6) V (.slice A19 t.gr.length c19) t.gr.length (inC t.gr)) := Lib.hid (by
    have kv : Chg (fun j => j = w4.heap.size) w4 V := by rw [hV]; exact Chg.sets _ _ _ ((Chg.refl _ _).alloc _) (.inr rfl)
    obtain ⟨A, cp, e1, e2, e3⟩ := K4.out.1
    refine ⟨A, cp, e1, e2, fun hx => ?_⟩
    obtain ⟨b, o, e4, e5, e6⟩ := e3 hx
    have hlt : b < w4.heap.size := World.block_lt_of_cell? w4 _ (e6 0 _ (List.getElem?_eq_getElem hx))
    exact ⟨b, o, e4, ⟨e5, by omega⟩, fun i y hi => kv.cell (e6 i y hi) (Nat.ne_of_lt hlt)⟩)
  have sb6 : W.heap.size ≤ b6 := by have := K4.out.2.size; omega
  have a1 := F.out V BV.out
  have lW : b1 + 1 < W.heap.size := by obtain ⟨Z, h1, _⟩ := R1.out; exact h1.lt
  rw [← hb6]
  clear hV hb6 mc rz K4 CG ln t4 t3 F
  go_upto_region 13 with (fail)
  have A3 := Lib.hid (A1.out.below BV.out A1.out.lt)
  have R3 : Hid (∃ Z, Blk V (b1 + 1) 102 Z ∧ Z.size = 13) := Lib.hid (by obtain ⟨Z, h1, h2⟩ := R1.out; exact ⟨Z, h1.below BV.out h1.lt, h2⟩)
  have BWV : Hid (Below w.heap.size w V) := Lib.hid (BW.out.trans (BV.out.mono BW.out.size))
  have T3 := Lib.hid (HT.out.keep BWV.out)
  have C3 := Lib.hid (H.out.below BWV.out hp)
  have RQ : Hid (Calls Try.prog 54 #[.pointer (some ⟨p, 0, none⟩), .int .i64 (k : Int), .agg (endM 8 (.slice none 0 0) (.slice A19 t.gr.length c19)), .agg a.cs] V.drew fun e w' => ∃ b u18 u19, e = .returned (.slice (some ⟨b, 0, none⟩) 1 1) ∧ V.heap.size ≤ b ∧ Blk w' b 55 (((aimedM (reqM (endM 8 (.slice none 0 0) (.slice A19 t.gr.length c19)) (c.seq + 1) t.n t.c c.num) k node).setIfInBounds 18 u18).setIfInBounds 19 u19) ∧ SlIn (fun j => V.heap.size ≤ j ∧ j < b) w' u18 0 (wrCells []) ∧ SlIn (fun j => V.heap.size ≤ j ∧ j < b) w' u19 t.gr.length (inC t.gr) ∧
      ClAt w' p { c with seq := c.seq + 1, waits := true, hinted := false, grp := k, M := reqM (endM 8 (.slice none 0 0) (.slice A19 t.gr.length c19)) (c.seq + 1) t.n t.c c.num, act := a } ∧ Chg (fun b => b = p) V w') := Lib.hid (by
    have h := request_gen p c x.tb _ t.n t.c gb 0 gn cap k node (endM 8 (.slice none 0 0) (.slice A19 t.gr.length c19)) a V.drew ⟨C3.out.blk.drew, C3.out.msg⟩ HTT.out T3.out.blk.drew rfl rfl hg hkn hpg (by rw [Nat.zero_add]; exact (BWV.out.cell (p := ⟨gb, k, none⟩) gbl).trans HX.out) (endM_ok _ _ _ _ _ _ _) (fun j => W.heap.size ≤ j ∧ j < b6) (fun j hj => by omega) _ _ [] t.gr (Nat.zero_le _) hgl rfl rfl (SlIn.nil _ _) Q4.out hs
    exact h.mono (fun e w' ⟨b, u18, u19, r1, r2, r3, r4, r5, r6, r7⟩ => ⟨b, u18, u19, r1, r2, r3, r4, r5, r6, ((Chg.refl _ V).drew).on r7⟩))
  have FS : Hid (∀ v, Chg (fun j => j = p ∨ j = b1 + 1) V v → v.cell? ⟨x.tb, 2, none⟩ = some (.int .i64 (k : Int)) ∧ HasMsg v b6 0 ∧ msgAt v b6 0 = endM 8 (.slice none 0 0) (.slice A19 t.gr.length c19) ∧ HasN 11 v b1 0 ∧ valN 11 v b1 0 = #[.int .i64 a.who, .int .i64 a.call, .int .i64 a.n, .int .i64 a.c, .string a.key, .string a.value, .bool a.found, .int .i64 a.code, .int .i64 a.stamp, .int .i64 a.from_, .int .i64 a.to]) := Lib.hid (fun v hv => by
    have g1 := A3.out.chg hv (by omega)
    have g2 := T3.out.blk.chg hv (by omega)
    have g3 := M6.out.chg hv (by omega)
    have g4 := blk_has g3 rfl
    have g5 := blkN_has g1 DC.out.1
    exact ⟨by rw [g2.cell]; simp [HHO.out], g4.1, g4.2, g5.1, by rw [g5.2, ED.out, ActV.cs_eq]⟩)
  have EM : Hid (MsgC (endM 8 (.slice none 0 0) (.slice A19 t.gr.length c19))) := Lib.hid (endM_ok _ _ _ _ _ _ _)
  obtain ⟨MM, hMM⟩ : ∃ MM, MM = endM 8 (.slice none 0 0) (.slice A19 t.gr.length c19) := ⟨_, rfl⟩
  rw [← hMM] at RQ FS M6 EM
  have EMM := Lib.hid hMM
  have S0 := Lib.hid (FS.out V (Chg.refl _ _))
  have S0d := Lib.hid (FS.out V.drew ((Chg.refl _ _).drew))
  have pb1 : p < b1 := by omega
  clear hMM a1
  go_region_held3 (fun v => v.cell? ⟨x.tb, 2, none⟩ = some (.int .i64 (k : Int)) ∧ HasMsg v b6 0 ∧ msgAt v b6 0 = MM ∧ HasN 11 v b1 0 ∧ valN 11 v b1 0 = #[.int .i64 a.who, .int .i64 a.call, .int .i64 a.n, .int .i64 a.c, .string a.key, .string a.value, .bool a.found, .int .i64 a.code, .int .i64 a.stamp, .int .i64 a.from_, .int .i64 a.to]) (first | with_reducible exact S0.out | with_reducible exact S0d.out | with_reducible exact S1.out | with_reducible exact S2.out _) (first
    | (go_at_call 54; refine RQ.out.mono ?_; rintro e w12 ⟨b, u18, u19, rfl, hb1, hb2, hb3, hb4, hb5, hb6⟩
       have B12 := Lib.hid (And.intro hb1 (And.intro hb2 (And.intro hb3 (And.intro hb4 (And.intro hb5 hb6)))))
       have S1 := Lib.hid (FS.out w12 (hb6.more (fun _ _ e => .inl e)))
       have S2 := Lib.hid (fun C : Array Value => FS.out (putN w12 (b1 + 1) 0 C) (putN_chg (hb6.more (fun _ _ e => .inl e)) (.inr (.inr rfl)) 0 C))
       have R12 : Hid (∃ Z', Blk w12 (b1 + 1) 102 Z' ∧ Z'.size = 13) := Lib.hid (Exists.elim R3.out (fun Z' h => ⟨Z', h.1.chg hb6 (Nat.ne_of_gt (Nat.lt_succ_of_lt pb1)), h.2⟩))
       have rm : RoomN 13 w12 (b1 + 1) 0 := Exists.elim R12.out (fun Z' h => blkN_room h.1 h.2)
       have cw : CellsN 13 (#[.slice (some ⟨b, 0, none⟩) 1 1, .int .i64 a.who, .int .i64 a.call, .int .i64 a.n, .int .i64 a.c, .string a.key, .string a.value, .bool a.found, .int .i64 a.code, .int .i64 a.stamp, .int .i64 a.from_, .int .i64 a.to, .bool false]) := ⟨rfl, (by simp [Value.oneCell'])⟩
       clear hb1 hb2 hb3 hb4 hb5 hb6))
  have CS : Hid ((#[.slice (some ⟨b, 0, none⟩) 1 1, .int .i64 a.who, .int .i64 a.call, .int .i64 a.n, .int .i64 a.c, .string a.key, .string a.value, .bool a.found, .int .i64 a.code, .int .i64 a.stamp, .int .i64 a.from_, .int .i64 a.to, .bool false] : Array Value).size = 13) := Lib.hid rfl
  have CV : Hid (callV (.slice (some ⟨b, 0, none⟩) 1 1) a false = .agg #[.slice (some ⟨b, 0, none⟩) 1 1, .int .i64 a.who, .int .i64 a.call, .int .i64 a.n, .int .i64 a.c, .string a.key, .string a.value, .bool a.found, .int .i64 a.code, .int .i64 a.stamp, .int .i64 a.from_, .int .i64 a.to, .bool false]) := Lib.hid (by simp [callV, ActV.cs])
  clear S0 S0d S1 S2 FS rm cw RQ
  generalize (#[.slice (some ⟨b, 0, none⟩) 1 1, .int .i64 a.who, .int .i64 a.call, .int .i64 a.n, .int .i64 a.c, .string a.key, .string a.value, .bool a.found, .int .i64 a.code, .int .i64 a.stamp, .int .i64 a.from_, .int .i64 a.to, .bool false] : Array Value) = C at CS CV ⊢
  obtain ⟨q1, q2, q3, q4, q5, q6⟩ := B12.out
  obtain ⟨A18, e18, rfl, z18, r18⟩ := q3
  have lV : b1 + 1 < V.heap.size := by have := BV.out.size; omega
  have sV := BV.out.size
  have sW := BW.out.size
  have KP : Hid (Chg (fun j => j = b1 + 1) w12 (putN w12 (b1 + 1) 0 C)) := Lib.hid (putN_chg (S := fun j => j = b1 + 1) (Chg.refl _ w12) (.inr rfl) 0 C)
  have RF : Hid (Blk (putN w12 (b1 + 1) 0 C) (b1 + 1) 102 C) := Lib.hid (by obtain ⟨Z', h1, h2⟩ := R12.out; exact putN_fill h1 (h2.trans CS.out.symm))
  have EF : Hid (Ended p c t.n t.c k node 8 [] t.gr a w (putN w12 (b1 + 1) 0 C) b) := Lib.hid (by
    rw [EMM.out] at q2 q5
    refine ⟨by omega, ⟨V.heap.size, .slice A18 0 e18, u19, .slice none 0 0, .slice A19 t.gr.length c19, by omega, q1, ?_, ⟨putN_far q5.blk (by omega), q5.msg⟩, ?_, q4.chg KP.out (fun j _ hj => by omega), SlIn.nil _ _, ?_⟩, ?_⟩
    · exact putN_far q2 (by omega)
    · exact SlIn.chg ⟨A18, e18, rfl, z18, r18⟩ KP.out (fun j _ hj => by omega)
    · exact (((Q4.out.chg q6 (fun j _ hj => by omega)).chg KP.out (fun j _ hj => by omega)).more (fun j hj => by have := M6.out.lt; omega))
    · exact ((Chg.of BWV.out).on q6).trans KP.out (fun j hj e => by omega))
  have hl := load_call CS.out RF.out.range
  go_wp2_with fail
  exact bodyPost_ret (v := .agg C) (by simp [results, Try.results42, asAddr, hl]) rfl ⟨b, by rw [CV.out], EF.out⟩
end Go.Proofs.Ytpaihfdmjkfegaa.Cl

/- end, at a commit: walked (printed by end_mk.py). -/
namespace Go.Proofs.Ytpaihfdmjkfegaa.Cl
open Go.RowKit Go.Lib Go.Maps Go.Proofs.Ytpaihfdmjkfegaa.MapF Go.Proofs.Ytpaihfdmjkfegaa.Msg Go.Proofs.Ytpaihfdmjkfegaa.Cls Go.Proofs.Ytpaihfdmjkfegaa.Ck

attribute [local go_sem ↓] loadMsg_eq storeMsg_eq buildMsg_eq
attribute [local go_sem] run_loadMsg run_storeMsg run_buildMsg
attribute [local go_sem ↓] loadAct_eq storeAct_eq storeCall_eq loadCall_eq
attribute [local go_sem] run_loadAct run_storeAct run_storeCall run_loadCall

theorem _root_.Go.Proofs.Ytpaihfdmjkfegaa.Msg.Blk.grown' {w w' : World} {g : Nat} {t : TypeId} {cs : Array Value} {row : Option Nat} (h : Blk w g t cs) (k : w.grownBy w' row) (hg : some g ≠ row) : Blk w' g t cs := h.grown k hg
theorem _root_.Go.Proofs.Ytpaihfdmjkfegaa.Msg.Blk.new2' (w : World) (o : Obj) (t' : TypeId) (D : Array Value) : Blk ((w.alloc o).alloc (.cells D t')) (w.heap.size + 1) t' D := by
  have h := Blk.new (w.alloc o) t' D
  simpa using h
theorem blk_row {w w' : World} {g : Nat} {t : TypeId} {cs : Array Value} {v : Value} (h : Blk w g t cs) (hg : w.grownBy w' v.ownBlock) (ho : v.ownBlock = none ∨ v.ownBlock ≠ some g) : Blk w' g t cs :=
  h.grown hg (fun e => by rcases ho with ho | ho; (· rw [ho] at e; cases e); exact ho e.symm)
theorem SlIn.lt {B : Nat → Prop} {w : World} {v : Value} {n : Nat} {xs : List Value} (h : SlIn B w v n xs) : SlIn (fun j => B j ∧ j < w.heap.size) w v n xs := by
  obtain ⟨A, cp, h1, h0, h2⟩ := h
  refine ⟨A, cp, h1, h0, fun hx => ?_⟩
  obtain ⟨b, o, h3, h4, h5⟩ := h2 hx
  exact ⟨b, o, h3, ⟨h4, World.block_lt_of_cell? w _ (h5 0 _ (List.getElem?_eq_getElem hx))⟩, h5⟩
theorem grown_set (w : World) (g i : Nat) (u : Value) : w.grownBy (w.setCell ⟨g, i, none⟩ u) (some g) := ⟨rfl, rfl, rfl, by simp, fun j hj hne => Below.heap_setCell _ _ _ _ (fun e => hne (by rw [e]))⟩
theorem Chg.row {S : Nat → Prop} {a b c : World} {row : Option Nat} (h : Chg S a b) (k : b.grownBy c row) (hr : ∀ r, row = some r → a.heap.size ≤ r ∨ S r) : Chg S a c :=
  ⟨k.os.trans h.os, k.tape.trans h.tape, k.output.trans h.output, Nat.le_trans h.size k.size, fun j hj hn => (k.block j (Nat.lt_of_lt_of_le hj h.size) (fun e => by rcases hr j e.symm with h' | h'; (· omega); exact hn h')).trans (h.block j hj hn)⟩
theorem news3 (w : World) (c : WrV) (o : Obj) : ∀ j u, (wrC c)[j]? = some u → ((w.alloc o).alloc (.cells #[.string c.1, .string c.2.1, .bool c.2.2] 63)).cell? ((⟨w.heap.size + 1, 0, none⟩ : Addr).add j) = some u := by
  intro j u h
  have hb := (Blk.new2' w o 63 #[.string c.1, .string c.2.1, .bool c.2.2]).cell j
  rw [Addr.add_lit, Nat.zero_add, hb]
  simpa [wrC] using h
theorem wrC_one (c : WrV) : ∀ u ∈ wrC c, u.oneCell' = true := by
  intro u hu
  simp [wrC] at hu
  rcases hu with rfl | rfl | rfl <;> rfl
theorem bound_len {n : Nat} (h : n ≤ 1000) : n + 1 ≤ maxLen := by unfold maxLen; omega
theorem bound_bytes {n : Nat} (h : n ≤ 1000) : (n + 1) * 40 ≤ 140737488355328 := by omega
/-- A row of one's own lies behind what was there. -/
theorem own_off {w : World} {base n size : Nat} {e : TypeId} {v : Value} {xs : List Value} (h : w.ownsRow base e size v n xs) : ∀ r, r < base → v.ownBlock = none ∨ v.ownBlock ≠ some r := fun r hr => by
  cases hv : v.ownBlock with
  | none => exact .inl rfl
  | some b => exact .inr (fun e => by have := (h.lt b hv).1; injection e; omega)
theorem base_le {S : Nat → Prop} {w0 wr w1 : World} {o o' : Obj} (h : Chg S w0 wr) (hs : w1.heap.size = wr.heap.size) : w0.heap.size ≤ ((w1.alloc o).alloc o').heap.size := by
  have := h.size
  simp
  omega
/-- What the range's loop holds. -/
def LoopR (la : ByteArray → Option WrV) (m4 N : Nat) (D : DataW Unit) (r b6 : Nat) (v19 : Value) (w0 : World) (_v8 : Value) (wr : World) : Prop :=
  ∃ (left : Lit → Bool) (cnt : Nat) (ds : List WrV) (v18 : Value), wr.ranges Try.prog 9 mW.R m4 r N D left cnt ∧ ds.length + cnt ≤ Maps.size D ∧ Out la left ds ∧ Blk wr b6 55 (endM 7 v18 v19) ∧ wr.ownsRow w0.heap.size 63 3 v18 ds.length (wrCells ds) ∧ Chg (fun j => j = b6 ∨ j = r) w0 wr
set_option maxRecDepth 100000 in
set_option maxHeartbeats 4000000 in
theorem end_commit (p : Nat) (c : Client) (A0 : Nat → Prop) (x : TxB) (t : TxS) (gb gn cap k : Nat) (node : Int) (a : ActV) (w : World) (hC : ClAt w p c) (ht : c.vt = .pointer (some ⟨x.tb, 0, none⟩)) (hT : TxAt A0 w x t) (hks : t.ks ≠ []) (hkl : t.ks.length ≤ 1000) (hgl : t.gr.length ≤ 1000) (hcall : a.call = 5) (hN : x.N ≤ 1000)
    (hg : c.vg = .slice (some ⟨gb, 0, none⟩) gn cap) (hkn : k < gn) (hhome : t.home = (k : Int)) (hpg : p ≠ gb) (hx : w.cell? ⟨gb, k, none⟩ = some (.int .i64 node)) (hs : 0 ≤ c.seq ∧ c.seq < 1000000) :
    Calls Try.prog 42 #[.pointer (some ⟨p, 0, none⟩), .agg a.cs] w fun e w' => ∃ mb ws, e = .returned (callV (.slice (some ⟨mb, 0, none⟩) 1 1) a false) ∧ (ws.map (·.1)).Perm t.ls ∧ (∀ y ∈ ws, t.la y.1 = some y) ∧ ws.Pairwise (fun y z => keyLt z y = false) ∧ Ended p c t.n t.c k node 7 ws t.gr a w w' mb := by
  have H := Lib.hid hC
  have HT := Lib.hid hT
  have hp := hC.blk.lt
  have tl := hT.blk.lt
  have pt : p ≠ x.tb := hC.blk.ne_ hT.blk (by decide)
  have HX := Lib.hid hx
  have gbl : gb < w.heap.size := World.block_lt_of_cell? w _ hx
  have LN := Lib.hid (fun (v : World) (hv : Below w.heap.size w v) => isF_len (M := mB) (fun _ => rfl) (fun _ => Iff.rfl) ((hT.keep hv).k1) t.ks hT.ksN.1 hT.ksN.2 (fun y => by unfold setF; by_cases h : y ∈ t.ks <;> simp [h]) Try.underlying107 3)
  have c7 := hC.vt
  rw [ht] at c7
  have SG : Hid (SlIn (fun j => j < w.heap.size) w x.vs t.gr.length (inC t.gr)) := Lib.hid (by
    rcases hT.gr.2 with ⟨h1, h2⟩ | ⟨g, cap', cur, h1, _⟩
    · rw [h1, h2]
      have : t.gr = [] := List.length_eq_zero_iff.1 h2
      rw [this]
      exact SlIn.nil _ _
    · have hh := hT.gr
      rw [h1] at hh ⊢
      have h3 := SlIn.of_own hh
      obtain ⟨A, cp, e1, e2, e3⟩ := h3
      refine ⟨A, cp, e1, e2, fun hx => ?_⟩
      obtain ⟨b, o, e4, _, e5⟩ := e3 hx
      exact ⟨b, o, e4, World.block_lt_of_cell? w _ (e5 0 _ (List.getElem?_eq_getElem hx)), e5⟩)
  obtain ⟨D, hD⟩ : ∃ D, D = a.cs := ⟨_, rfl⟩
  have d1 : D[1]? = some (.int .i64 5) := by rw [hD]; simp [ActV.cs, hcall]
  have DC : Hid (CellsN 11 D) := Lib.hid (hD ▸ a.cells)
  have ED := Lib.hid hD
  rw [← hD]
  have hl0 : ¬ (t.ks.length : Int) = 0 := by
    have : 0 < t.ks.length := List.length_pos_iff.2 hks
    omega
  obtain ⟨nk, hnk⟩ : ∃ nk, nk = t.ks.length := ⟨_, rfl⟩
  rw [← hnk] at LN hl0
  have HTT := Lib.hid ht
  have HHO := Lib.hid hhome
  clear hC ht hT hx hD hks hnk hcall hhome
  go_enter Try.func42, Try.ntmps42
  go_upto_region 2 with (fail)
  refine world_out (fun W hW => ?_)
  obtain ⟨b1, hb1⟩ : ∃ b, b = w.heap.size := ⟨_, rfl⟩
  have BW : Hid (Below w.heap.size w W) := Lib.hid (by rw [hW]; exact ((Below.refl _ _).alloc (Nat.le_refl _) _).alloc (by simp) _)
  have A1 : Hid (Blk W b1 43 D) := Lib.hid (by rw [hW, hb1]; exact (Blk.new w 43 D).alloc _)
  have R1 : Hid (∃ Z, Blk W (b1 + 1) 102 Z ∧ Z.size = 13) := Lib.hid ⟨_, by rw [hW, hb1]; exact Blk.new2 w 43 D 102 _, rfl⟩
  have hbw : w.heap.size ≤ b1 := Nat.le_of_eq hb1.symm
  have hbw' : b1 ≤ w.heap.size := Nat.le_of_eq hb1
  rw [← hb1]
  clear hW hb1 c7
  have T1 := Lib.hid (HT.out.keep BW.out)
  have t4 : W.cell? ⟨x.tb, 4, none⟩ = some (.map (some x.m1)) := T1.out.blk.cell 4
  have t3 : W.cell? ⟨x.tb, 3, none⟩ = some x.vs := T1.out.blk.cell 3
  have ln := LN.out W BW.out
  go_upto_region 5 with (fail)
  have CG := Lib.hid (cloneI_any _ x.vs t.gr hgl W (SG.out.keep BW.out))
  have a1 : W.cell? ⟨b1, 1, none⟩ = some (.int .i64 5) := by rw [A1.out.cell]; exact d1
  have F : Hid (∀ v, Below W.heap.size W v → v.cell? ⟨b1, 1, none⟩ = some (.int .i64 5)) := Lib.hid (fun v hv => (hv.cell (p := ⟨b1, 1, none⟩) A1.out.lt).trans a1)
  go_upto_region 6 with (go_at_call 47; go_loud (refine CG.out.mono ?_; rintro e w4 ⟨_, rfl, ⟨A19, c19, rfl, z19, r19⟩, hb4⟩; have K4 : Hid (SlIn (fun j => W.heap.size ≤ j) w4 (.slice A19 t.gr.length c19) t.gr.length (inC t.gr) ∧ Below W.heap.size W w4) := Lib.hid ⟨⟨A19, c19, rfl, z19, r19⟩, hb4⟩; have mc := endM_ok 8 none A19 0 0 t.gr.length c19; unfold endM at mc; have rz := room_new w4 zeroC rfl; unfold zeroC at rz; clear z19 r19 hb4))
  refine world_out (fun V hV => ?_)
  obtain ⟨b6, hb6⟩ : ∃ b, b = w4.heap.size := ⟨_, rfl⟩
  have BV : Hid (Below W.heap.size W V) := Lib.hid (by rw [hV]; exact below_setCells (K4.out.2.alloc (by have := K4.out.2.size; omega) _) _ _ (by have := K4.out.2.size; omega) _)
  have M6 : Hid (Blk V b6 55 (endM 8 (.slice none 0 0) (.slice A19 t.gr.length c19))) := Lib.hid (by
    rw [hV, hb6]
    exact blk_fill (Blk.new w4 55 _) (C := endM 8 (.slice none 0 0) (.slice A19 t.gr.length c19)) rfl)
  have Q4 : Hid (SlIn (fun j => W.heap.size ≤ j ∧ j < b6) V (.slice A19 t.gr.length c19) t.gr.length (inC t.gr)) := Lib.hid (by
    have kv : Chg (fun j => j = w4.heap.size) w4 V := by rw [hV]; exact Chg.sets _ _ _ ((Chg.refl _ _).alloc _) (.inr rfl)
    obtain ⟨A, cp, e1, e2, e3⟩ := K4.out.1
    refine ⟨A, cp, e1, e2, fun hx => ?_⟩
    obtain ⟨b, o, e4, e5, e6⟩ := e3 hx
    have hlt : b < w4.heap.size := World.block_lt_of_cell? w4 _ (e6 0 _ (List.getElem?_eq_getElem hx))
    exact ⟨b, o, e4, ⟨e5, by omega⟩, fun i y hi => kv.cell (e6 i y hi) (Nat.ne_of_lt hlt)⟩)
  have sb6 : W.heap.size ≤ b6 := by have := K4.out.2.size; omega
  have a1 := F.out V BV.out
  have lW : b1 + 1 < W.heap.size := by obtain ⟨Z, h1, _⟩ := R1.out; exact h1.lt
  rw [← hb6]
  clear hV hb6 mc rz K4 CG ln t4 t3 F
  have m0 : V.cell? ⟨b6, 0, none⟩ = some (.int .i64 8) := M6.out.cell 0
  have fm0 := M6.out.frozen 0
  go_upto_region 8 with (fail)
  refine world_out (fun V1 hV1 => ?_)
  have K1 : Hid (Chg (fun j => j = b6) V V1) := Lib.hid (by rw [hV1]; exact (Chg.refl _ _).set1 0 _)
  have N1 : Hid (Blk V1 b6 55 (endM 7 (.slice none 0 0) (.slice A19 t.gr.length c19))) := Lib.hid (by rw [hV1]; exact M6.out.set_ 0 _)
  have BWV : Hid (Below w.heap.size w V) := Lib.hid (BW.out.trans (BV.out.mono BW.out.size))
  have T2 := Lib.hid (HT.out.keep BWV.out)
  have x7 : V1.cell? ⟨x.tb, 7, none⟩ = some (.map (some x.m4)) := K1.out.cell (T2.out.blk.cell 7) (by show x.tb ≠ b6; omega)
  have m4l : x.m4 < w.heap.size := HT.out.k4.lt
  have F1 : Hid (IsF mW V1 x.m4 x.N t.la) := Lib.hid (isF_same T2.out.k4 (K1.out.block _ T2.out.k4.lt (by omega)))
  clear hV1 m0 fm0 a1
  have FC := Lib.hid F1.out
  obtain ⟨DD, hown, hhas, hat⟩ := F1.out
  have HAS := Lib.hid (And.intro hhas hat)
  have OWN := Lib.hid hown
  obtain ⟨i0, hi, hz0, hz1, hz2⟩ := info_parts infoWr
  clear hown hhas hat
  have sizeD : Hid (Maps.size DD ≤ x.N) := Lib.hid OWN.out.size_le
  go_wp2_with (at_range; refine wpList_range_own _ rfl _ 46 rfl 9 63 mW.law Try.underlying46 mW.R x.m4 x.N DD rfl OWN.out ?_; intro w0 hrg0 hg0 hs0)
  go_frame
  have RG := Lib.hid hrg0
  have KG : Hid (Below V1.heap.size V1 w0 ∧ w0.heap.size = V1.heap.size + 1) := Lib.hid ⟨⟨hg0.os, hg0.tape, hg0.output, hg0.size, fun k hk => hg0.block k hk (by simp)⟩, hs0⟩
  clear hrg0 hg0 hs0
  obtain ⟨r, hr⟩ : ∃ r, r = V1.heap.size := ⟨_, rfl⟩
  rw [← hr] at RG KG ⊢
  have hr1 : V1.heap.size ≤ r := Nat.le_of_eq hr.symm
  have hr2 : r ≤ V1.heap.size := Nat.le_of_eq hr
  clear hr
  go_loopw [8] (LoopR t.la x.m4 x.N DD r b6 (.slice A19 t.gr.length c19) w0) (fun _ wr => wr.rangeLeft x.m4 r)
  case atStart =>
    have hb6l := N1.out.lt
    exact ⟨_, _, [], .slice none 0 0, RG.out, by simp, Out.start (fun y hy => HAS.out.1 y hy), N1.out.below KG.out.1 (by omega), World.ownsRow_nil _ _ _ _, Chg.refl _ _⟩
  case round =>
    obtain ⟨left, cnt, ds, v18, hrg, hcs, hout, hN6, hrow, hK⟩ := hrel
    have NR := Lib.hid hN6
    have RW := Lib.hid hrow
    have KR := Lib.hid hK
    have OU := Lib.hid hout
    clear hN6 hrow hK hout
    have n18 : wr.cell? ⟨b6, 18, none⟩ = some v18 := NR.out.cell 18
    have hbr : b6 ≠ r := by have := N1.out.lt; omega
    have rw0 : r < w0.heap.size := by have := KG.out.2; omega
    have b6w0 : b6 < w0.heap.size := by have := N1.out.lt; omega
    have LD : Hid (ds.length ≤ 1000) := Lib.hid (by have := sizeD.out; omega)
    have OB := Lib.hid (own_off RW.out)
    have SRT := Lib.hid (sortW_any ds w0.heap.size v18 LD.out wr RW.out)
    go_upto_region 12 with (first
      | (at_next; refine wpList_next_ranges _ rfl _ rfl 9 mW.law mW.R (fun s : ByteArray => Value.string s) mW.ev (fun key kl h => Exists.elim (keyOf_str_inv h) (fun s h => ⟨s, h.1⟩)) (fun v y h => Exists.elim (mW.R_inv h) (fun a h => ⟨a, h.1⟩)) x.m4 r x.N DD left cnt rfl hrg ?_ ?_
         intro hc0 hl0
         rotate_left
         intro ky c0 kl y w1 cnt1 hkey hlk hv hat1 hrg1 hlt hg1 hs1 hen
         have hen' : (Instr.entry (.pointer (some ⟨r, 0, none⟩))).run Try.prog w1 = .ok (.tuple #[.string ky, .agg #[.string c0.1, .string c0.2.1, .bool c0.2.2]]) w1 := hen
         have NR1 := Lib.hid (NR.out.grown hg1 (fun e => hbr (Option.some.inj e)))
         have n18 : w1.cell? ⟨b6, 18, none⟩ = some v18 := NR1.out.cell 18
         have f18 := NR1.out.frozen 18
         have lb6 := NR1.out.lt
         have RW1 := Lib.hid (RW.out.kept hg1 (OB.out r rw0))
         have S1 := Lib.hid (And.intro hkey (And.intro hlk (And.intro hv (And.intro hat1 (And.intro hrg1 (And.intro hlt (And.intro hg1 hs1)))))))
         clear hen hkey hlk hv hat1 hrg1 hlt hg1 hs1
         rotate_left)
      | (at_builtin; refine wpList_append_own _ rfl _ _ 53 rfl w0.heap.size 63 i0 (.agg #[.string ByteArray.empty, .string ByteArray.empty, .bool false]) 3 40 Try.underlying53 hi hz0 hz1 hz2 rfl (by decide) v18 ds.length (wrCells ds) rfl ((RW1.out.alloc _).alloc _) ⟨w1.heap.size + 1, 0, none⟩ 1 1 (wrC c0) rfl rfl (news3 w1 c0 _) (wrC_one c0) (bound_len LD.out) (bound_bytes LD.out) (base_le KR.out S1.out.2.2.2.2.2.2.2) ?_
         intro v20 w3 hown3 hg3 hnil3
         obtain ⟨g3, cap3, rfl, hbg3, hlt3⟩ := World.ownsRow.form hown3 (Nat.succ_pos _)
         have N3 := Lib.hid (blk_row ((NR1.out.alloc _).alloc _) hg3 (OB.out b6 b6w0))
         have S3 := Lib.hid (And.intro hown3 hg3)
         have f18b := N3.out.frozen 18
         have n18b : w3.cell? ⟨b6, 18, none⟩ = some v18 := N3.out.cell 18
         clear hown3 hg3 hnil3))
    · go_upto_region 13 with (go_at_call 52; go_loud (refine SRT.out.mono ?_; rintro e w5 ⟨rfl, ds', hperm, hsort, hrow5, hg5⟩; have SO := Lib.hid (And.intro hperm (And.intro hsort (And.intro hrow5 hg5))); clear hperm hsort hrow5 hg5))
      obtain ⟨hperm, hsort, hrow5, hg5⟩ := SO.out
      have LD' : Hid (ds'.length ≤ 1000) := Lib.hid (by rw [hperm.length_eq]; exact LD.out)
      have OD : Hid ((ds'.map (·.1)).Perm t.ls ∧ (∀ y ∈ ds', t.la y.1 = some y) ∧ ds'.Pairwise (fun y z => keyLt z y = false)) := Lib.hid ⟨(hperm.map _).trans (OU.out.done hl0 HT.out.lsN.1 HT.out.lsN.2.1 HT.out.lsN.2.2.1), fun y hy => OU.out.of y (hperm.mem_iff.1 hy), hsort⟩
      have KV5 : Hid (Chg (fun j => b6 ≤ j) V w5) := Lib.hid (by
        have k0 : Chg (fun j => b6 ≤ j) V w0 := ((K1.out.more (fun _ _ e => Nat.le_of_eq e.symm)).then (KG.out.1.mono hr1))
        have k1 := k0.on (KR.out.more (fun j _ e => by have := N1.out.lt; omega))
        have hbw0 : b6 ≤ w0.heap.size := Nat.le_of_lt b6w0
        refine k1.row hg5 (fun r' e => .inr ?_)
        rcases Nat.lt_or_ge r' w0.heap.size with h | h
        · rcases OB.out r' h with e' | e'
          · rw [e'] at e; cases e
          · exact absurd e e'
        · omega)
      have BV5 : Hid (Below W.heap.size W w5) := Lib.hid ((((Chg.of BV.out).on (KV5.out.more (S' := fun j => W.heap.size ≤ j) (fun _ _ e => Nat.le_trans sb6 e))).below (Nat.le_refl _) (fun _ e => e)))
      have N5' := blk_row NR.out hg5 (OB.out b6 b6w0)
      have Q5 : Hid (SlIn (fun j => W.heap.size ≤ j ∧ j < b6) w5 (.slice A19 t.gr.length c19) t.gr.length (inC t.gr)) := Lib.hid (Q4.out.chg KV5.out (fun j _ hj e => by omega))
      obtain ⟨A18, c18, hv18⟩ : ∃ A c, v18 = .slice A ds'.length c := by
        rcases hrow5.2 with ⟨h1, h2⟩ | ⟨g', cp, cur, h1, _⟩
        · exact ⟨none, 0, by rw [h1, h2]⟩
        · exact ⟨_, cp, h1⟩
      rw [hv18] at N5' hrow5
      have N5 := Lib.hid N5'
      have S18 : Hid (SlIn (fun j => W.heap.size ≤ j) w5 (.slice A18 ds'.length c18) ds'.length (wrCells ds')) := Lib.hid ((SlIn.of_own hrow5).more (fun j hj => by have := b6w0; have := N1.out.lt; omega))
      clear hperm hsort hrow5 hg5 N5' hv18
      have A3 := Lib.hid (A1.out.below BV5.out A1.out.lt)
      have R3 : Hid (∃ Z, Blk w5 (b1 + 1) 102 Z ∧ Z.size = 13) := Lib.hid (by obtain ⟨Z, h1, h2⟩ := R1.out; exact ⟨Z, h1.below BV5.out h1.lt, h2⟩)
      have BW5 : Hid (Below w.heap.size w w5) := Lib.hid (BW.out.trans (BV5.out.mono BW.out.size))
      have T3 := Lib.hid (HT.out.keep BW5.out)
      have C3 := Lib.hid (H.out.below BW5.out hp)
      have RQ : Hid (Calls Try.prog 54 #[.pointer (some ⟨p, 0, none⟩), .int .i64 (k : Int), .agg (endM 7 (.slice A18 ds'.length c18) (.slice A19 t.gr.length c19)), .agg a.cs] w5.drew fun e w' => ∃ b u18 u19, e = .returned (.slice (some ⟨b, 0, none⟩) 1 1) ∧ w5.heap.size ≤ b ∧ Blk w' b 55 (((aimedM (reqM (endM 7 (.slice A18 ds'.length c18) (.slice A19 t.gr.length c19)) (c.seq + 1) t.n t.c c.num) k node).setIfInBounds 18 u18).setIfInBounds 19 u19) ∧ SlIn (fun j => w5.heap.size ≤ j ∧ j < b) w' u18 ds'.length (wrCells ds') ∧ SlIn (fun j => w5.heap.size ≤ j ∧ j < b) w' u19 t.gr.length (inC t.gr) ∧
          ClAt w' p { c with seq := c.seq + 1, waits := true, hinted := false, grp := k, M := reqM (endM 7 (.slice A18 ds'.length c18) (.slice A19 t.gr.length c19)) (c.seq + 1) t.n t.c c.num, act := a } ∧ Chg (fun b => b = p) w5 w') := Lib.hid (by
        have h := request_gen p c x.tb _ t.n t.c gb 0 gn cap k node (endM 7 (.slice A18 ds'.length c18) (.slice A19 t.gr.length c19)) a w5.drew ⟨C3.out.blk.drew, C3.out.msg⟩ HTT.out T3.out.blk.drew rfl rfl hg hkn hpg (by rw [Nat.zero_add]; exact (BW5.out.cell (p := ⟨gb, k, none⟩) gbl).trans HX.out) (endM_ok _ _ _ _ _ _ _) (fun j => W.heap.size ≤ j) (fun j hj => by omega) _ _ ds' t.gr LD'.out hgl rfl rfl S18.out (Q5.out.more (fun j hj => hj.1)) hs
        exact h.mono (fun e w' ⟨b, u18, u19, r1, r2, r3, r4, r5, r6, r7⟩ => ⟨b, u18, u19, r1, r2, r3, r4, r5, r6, ((Chg.refl _ w5).drew).on r7⟩))
      have FS : Hid (∀ v, Chg (fun j => j = p ∨ j = b1 + 1) w5 v → v.cell? ⟨x.tb, 2, none⟩ = some (.int .i64 (k : Int)) ∧ HasMsg v b6 0 ∧ msgAt v b6 0 = endM 7 (.slice A18 ds'.length c18) (.slice A19 t.gr.length c19) ∧ HasN 11 v b1 0 ∧ valN 11 v b1 0 = #[.int .i64 a.who, .int .i64 a.call, .int .i64 a.n, .int .i64 a.c, .string a.key, .string a.value, .bool a.found, .int .i64 a.code, .int .i64 a.stamp, .int .i64 a.from_, .int .i64 a.to]) := Lib.hid (fun v hv => by
        have g1 := A3.out.chg hv (by omega)
        have g2 := T3.out.blk.chg hv (by omega)
        have g3 := N5.out.chg hv (by omega)
        have g4 := blk_has g3 rfl
        have g5 := blkN_has g1 DC.out.1
        exact ⟨by rw [g2.cell]; simp [HHO.out], g4.1, g4.2, g5.1, by rw [g5.2, ED.out, ActV.cs_eq]⟩)
      have EM : Hid (MsgC (endM 7 (.slice A18 ds'.length c18) (.slice A19 t.gr.length c19))) := Lib.hid (endM_ok _ _ _ _ _ _ _)
      obtain ⟨MM, hMM⟩ : ∃ MM, MM = endM 7 (.slice A18 ds'.length c18) (.slice A19 t.gr.length c19) := ⟨_, rfl⟩
      rw [← hMM] at RQ FS N5 EM
      have EMM := Lib.hid hMM
      have S0 := Lib.hid (FS.out w5 (Chg.refl _ _))
      have S0d := Lib.hid (FS.out w5.drew ((Chg.refl _ _).drew))
      have pb1 : p < b1 := by omega
      clear hMM a1
      go_region_held3 (fun v => v.cell? ⟨x.tb, 2, none⟩ = some (.int .i64 (k : Int)) ∧ HasMsg v b6 0 ∧ msgAt v b6 0 = MM ∧ HasN 11 v b1 0 ∧ valN 11 v b1 0 = #[.int .i64 a.who, .int .i64 a.call, .int .i64 a.n, .int .i64 a.c, .string a.key, .string a.value, .bool a.found, .int .i64 a.code, .int .i64 a.stamp, .int .i64 a.from_, .int .i64 a.to]) (first | with_reducible exact S0.out | with_reducible exact S0d.out | with_reducible exact S1.out | with_reducible exact S2.out _) (first
        | (go_at_call 54; refine RQ.out.mono ?_; rintro e w12 ⟨b, u18, u19, rfl, hb1, hb2, hb3, hb4, hb5, hb6⟩
           have B12 := Lib.hid (And.intro hb1 (And.intro hb2 (And.intro hb3 (And.intro hb4 (And.intro hb5 hb6)))))
           have S1 := Lib.hid (FS.out w12 (hb6.more (fun _ _ e => .inl e)))
           have S2 := Lib.hid (fun C : Array Value => FS.out (putN w12 (b1 + 1) 0 C) (putN_chg (hb6.more (fun _ _ e => .inl e)) (.inr (.inr rfl)) 0 C))
           have R12 : Hid (∃ Z', Blk w12 (b1 + 1) 102 Z' ∧ Z'.size = 13) := Lib.hid (Exists.elim R3.out (fun Z' h => ⟨Z', h.1.chg hb6 (Nat.ne_of_gt (Nat.lt_succ_of_lt pb1)), h.2⟩))
           have rm : RoomN 13 w12 (b1 + 1) 0 := Exists.elim R12.out (fun Z' h => blkN_room h.1 h.2)
           have cw : CellsN 13 (#[.slice (some ⟨b, 0, none⟩) 1 1, .int .i64 a.who, .int .i64 a.call, .int .i64 a.n, .int .i64 a.c, .string a.key, .string a.value, .bool a.found, .int .i64 a.code, .int .i64 a.stamp, .int .i64 a.from_, .int .i64 a.to, .bool false]) := ⟨rfl, (by simp [Value.oneCell'])⟩
           clear hb1 hb2 hb3 hb4 hb5 hb6))
      have CS : Hid ((#[.slice (some ⟨b, 0, none⟩) 1 1, .int .i64 a.who, .int .i64 a.call, .int .i64 a.n, .int .i64 a.c, .string a.key, .string a.value, .bool a.found, .int .i64 a.code, .int .i64 a.stamp, .int .i64 a.from_, .int .i64 a.to, .bool false] : Array Value).size = 13) := Lib.hid rfl
      have CV : Hid (callV (.slice (some ⟨b, 0, none⟩) 1 1) a false = .agg #[.slice (some ⟨b, 0, none⟩) 1 1, .int .i64 a.who, .int .i64 a.call, .int .i64 a.n, .int .i64 a.c, .string a.key, .string a.value, .bool a.found, .int .i64 a.code, .int .i64 a.stamp, .int .i64 a.from_, .int .i64 a.to, .bool false]) := Lib.hid (by simp [callV, ActV.cs])
      clear S0 S0d S1 S2 FS rm cw RQ
      generalize (#[.slice (some ⟨b, 0, none⟩) 1 1, .int .i64 a.who, .int .i64 a.call, .int .i64 a.n, .int .i64 a.c, .string a.key, .string a.value, .bool a.found, .int .i64 a.code, .int .i64 a.stamp, .int .i64 a.from_, .int .i64 a.to, .bool false] : Array Value) = C at CS CV ⊢
      obtain ⟨q1, q2, q3, q4, q5, q6⟩ := B12.out
      have lV : b1 + 1 < w5.heap.size := by have := BV5.out.size; omega
      have sV := BV5.out.size
      have sW := BW.out.size
      have KP : Hid (Chg (fun j => j = b1 + 1) w12 (putN w12 (b1 + 1) 0 C)) := Lib.hid (putN_chg (S := fun j => j = b1 + 1) (Chg.refl _ w12) (.inr rfl) 0 C)
      have RF : Hid (Blk (putN w12 (b1 + 1) 0 C) (b1 + 1) 102 C) := Lib.hid (by obtain ⟨Z', h1, h2⟩ := R12.out; exact putN_fill h1 (h2.trans CS.out.symm))
      have EF : Hid (Ended p c t.n t.c k node 7 ds' t.gr a w (putN w12 (b1 + 1) 0 C) b) := Lib.hid (by
        rw [EMM.out] at q2 q5
        refine ⟨by omega, ⟨w5.heap.size, u18, u19, .slice A18 ds'.length c18, .slice A19 t.gr.length c19, by omega, q1, ?_, ⟨putN_far q5.blk (by omega), q5.msg⟩, ?_, q4.chg KP.out (fun j _ hj => by omega), ?_, ?_⟩, ?_⟩
        · exact putN_far q2 (by omega)
        · exact q3.chg KP.out (fun j _ hj => by omega)
        · exact (((S18.out.lt.chg q6 (fun j _ hj => by omega)).chg KP.out (fun j _ hj => by omega)).more (fun b h => ⟨by omega, h.2⟩))
        · exact (((Q5.out.chg q6 (fun j _ hj => by omega)).chg KP.out (fun j _ hj => by omega)).more (fun j hj => by have := N5.out.lt; omega))
        · exact ((Chg.of BW5.out).on q6).trans KP.out (fun j hj e => by omega))
      have hl := load_call CS.out RF.out.range
      go_wp2_with fail
      exact bodyPost_ret (v := .agg C) (by simp [results, Try.results42, asAddr, hl]) rfl ⟨b, ds', by rw [CV.out], OD.out.1, OD.out.2.1, OD.out.2.2, EF.out⟩
    · obtain ⟨hkey, hlk, hv, hat1, hrg1, hlt, hg1, hs1⟩ := S1.out
      obtain ⟨hown3, hg3⟩ := S3.out
      obtain ⟨ky', e1, rfl, hok⟩ := keyOf_str_inv hkey
      obtain rfl : ky = ky' := by injection e1
      have hlc : t.la ky = some c0 := by
        obtain ⟨h1, _⟩ := OU.out.left_ ky hok hlk
        obtain ⟨c1, hc1⟩ := Option.isSome_iff_exists.1 h1
        have h2 : DD.atKey (.string ky.data.toList) (mW.ed c0) = mW.ed c1 := HAS.out.2 ky hok c1 hc1 (mW.ed c0)
        rw [hat1] at h2
        rw [mW.R_mk c0] at hv
        cases hv
        rw [hc1, mW.einj _ _ h2]
      have hm4 : x.m4 < w0.heap.size := by have := K1.out.size; have := BWV.out.size; have := KG.out.1.size; omega
      have hrg2 := ((hrg1.alloc (.cells #[.string c0.1, .string c0.2.1, .bool c0.2.2] 63)).alloc (.cells #[.string c0.1, .string c0.2.1, .bool c0.2.2] 63)).kept hg3 (by rcases OB.out x.m4 hm4 with e | e; (· rw [e]; simp); exact fun e' => e e'.symm) (by rcases OB.out r rw0 with e | e; (· rw [e]; simp); exact fun e' => e e'.symm)
      have hbm : b6 ≠ x.m4 := by omega
      have hrg3 := hrg2.kept (grown_set w3 b6 18 (.slice (some ⟨g3, 0, none⟩) (ds.length + 1) cap3)) (fun e => hbm (Option.some.inj e).symm) (fun e => hbr (Option.some.inj e).symm)
      have KF : Chg (fun j => j = b6 ∨ j = r) w0 (w3.setCell ⟨b6, 18, none⟩ (.slice (some ⟨g3, 0, none⟩) (ds.length + 1) cap3)) := by
        have k1 : Chg (fun j => j = b6 ∨ j = r) w0 w1 := KR.out.row hg1 (fun r' e => .inr (.inr (Option.some.inj e).symm))
        have k2 : Chg (fun j => j = b6 ∨ j = r) w0 w3 := ((k1.alloc _).alloc _).row hg3 (fun r' e => .inl (by
          rcases Nat.lt_or_ge r' w0.heap.size with h | h
          · rcases OB.out r' h with e' | e'
            · rw [e'] at e; cases e
            · exact absurd e e'
          · exact h))
        exact k2.set (p := ⟨b6, 18, none⟩) (.inr (.inl rfl)) _
      refine ⟨⟨_, cnt1, ds ++ [c0], .slice (some ⟨g3, 0, none⟩) (ds.length + 1) cap3, hrg3, by simp only [List.length_append, List.length_cons, List.length_nil]; omega, OU.out.step HT.out.lsN.2.2.2 hok hlk hlc, N3.out.set_ 18 _, ?_, KF⟩, ?_⟩
      · rw [List.length_append, show wrCells (ds ++ [c0]) = wrCells ds ++ wrC c0 by unfold wrCells; rw [List.flatMap_append]; simp]
        refine own_same hown3 (fun b hb hv => Below.heap_setCell _ _ _ _ (fun e => ?_))
        have hb3 := (hown3.lt b hv).1
        have e : b = b6 := e
        omega
      · rw [hrg3.left_eq, hrg.left_eq]
        exact hlt
end Go.Proofs.Ytpaihfdmjkfegaa.Cl
