/- Slices that read as these cells; slices.Clone at Writes and at ints: walked, whatever they hold. -/
import Derived.Test.YtpaihfdmjkfegaaCpS
import Derived.Laws.OwnMore
import Derived.Laws.AppendOwnNone
import Derived.Deep.Cut
import Derived.Deep.RegionLaw
/- Slices that read as these cells; slices.Clone at Writes and at ints: walked, whatever they hold. -/
namespace Go.Proofs.Ytpaihfdmjkfegaa.Cl
open Go.RowKit Go.Lib Go.Proofs.Ytpaihfdmjkfegaa.Msg Go.Proofs.Ytpaihfdmjkfegaa.Ck Go.Proofs.Ytpaihfdmjkfegaa.Sta Go.Proofs.Ytpaihfdmjkfegaa.Rd

/-- A slice of n elements that reads as these cells, in a block of B. -/
def SlIn (B : Nat → Prop) (w : World) (v : Value) (n : Nat) (xs : List Value) : Prop :=
  ∃ A cap, v = .slice A n cap ∧ (A = none → n = 0 ∧ cap = 0) ∧ (0 < xs.length → ∃ b o, A = some ⟨b, o, none⟩ ∧ B b ∧ ∀ (i : Nat) x, xs[i]? = some x → w.cell? ⟨b, o + i, none⟩ = some x)
section
variable {B B' S : Nat → Prop} {w w' : World} {v : Value} {n : Nat} {xs : List Value}
theorem SlIn.more (h : SlIn B w v n xs) (hb : ∀ b, B b → B' b) : SlIn B' w v n xs := by
  obtain ⟨A, cap, h1, h0, h2⟩ := h
  exact ⟨A, cap, h1, h0, fun hx => by obtain ⟨b, o, h3, h4, h5⟩ := h2 hx; exact ⟨b, o, h3, hb b h4, h5⟩⟩
theorem SlIn.chg (h : SlIn B w v n xs) (k : Chg S w w') (hb : ∀ b, b < w.heap.size → B b → ¬ S b) : SlIn B w' v n xs := by
  obtain ⟨A, cap, h1, h0, h2⟩ := h
  refine ⟨A, cap, h1, h0, fun hx => ?_⟩
  obtain ⟨b, o, h3, h4, h5⟩ := h2 hx
  have hlt : b < w.heap.size := World.block_lt_of_cell? w _ (h5 0 xs[0] (List.getElem?_eq_getElem hx))
  exact ⟨b, o, h3, h4, fun i x hi => k.cell (h5 i x hi) (hb b hlt h4)⟩
theorem SlIn.keep (h : SlIn B w v n xs) (k : Below w.heap.size w w') : SlIn B w' v n xs := h.chg (S := fun _ => False) (Chg.of k) (fun _ _ _ => id)
theorem SlIn.nil (B : Nat → Prop) (w : World) : SlIn B w (.slice none 0 0) 0 [] := ⟨none, 0, rfl, fun _ => ⟨rfl, rfl⟩, fun h => absurd h (by simp)⟩
theorem SlIn.of_own {base cap : Nat} {e : TypeId} {size : Nat} {A : Option Addr} (h : w.ownsRow base e size (.slice A n cap) n xs) : SlIn (fun b => base ≤ b) w (.slice A n cap) n xs := by
  refine ⟨A, cap, rfl, fun hA => ?_, fun hx => ?_⟩
  · subst hA
    rcases h.2 with ⟨h', h0⟩ | ⟨g, c', cur, h', _⟩
    · injection h' with _ h1 h2
      exact ⟨h0, h2⟩
    · injection h' with h1
      cases h1
  · rcases h.2 with ⟨_, h0⟩ | ⟨g, c', cur, h', hb, hg, _⟩
    · have := h.1
      subst h0
      omega
    · injection h' with h1
      subst h1
      exact ⟨g, 0, rfl, hb, fun i x hi => by have := h.cells (g := g) rfl i x hi; rwa [Addr.add_lit] at this⟩
end

/-! ## Writes -/
abbrev WrV := ByteArray × ByteArray × Bool
def wrC (x : WrV) : List Value := [.string x.1, .string x.2.1, .bool x.2.2]
def wrCells (l : List WrV) : List Value := l.flatMap wrC
theorem wrCells_len : ∀ l : List WrV, (wrCells l).length = l.length * 3
  | [] => rfl
  | x :: r => by
    unfold wrCells
    rw [List.flatMap_cons, List.length_append]
    have := wrCells_len r
    unfold wrCells at this
    rw [this, List.length_cons]
    show 3 + _ = _
    omega
theorem wrCells_one (l : List WrV) : ∀ u ∈ wrCells l, u.oneCell' = true := by
  intro u hu
  obtain ⟨x, _, hx⟩ := List.mem_flatMap.1 hu
  simp [wrC] at hx
  rcases hx with rfl | rfl | rfl <;> rfl
theorem wrCells_at : ∀ (l : List WrV) (i r : Nat) (x : WrV), l[i]? = some x → r < 3 → (wrCells l)[i * 3 + r]? = (wrC x)[r]?
  | [], _, _, _, h, _ => by simp at h
  | y :: t, 0, r, x, h, hr => by
    cases h
    unfold wrCells
    rw [List.flatMap_cons, List.getElem?_append_left (by show 0 * 3 + r < 3; omega)]
    simp
  | y :: t, i + 1, r, x, h, hr => by
    have := wrCells_at t i r x (by simpa using h) hr
    unfold wrCells at this ⊢
    rw [List.flatMap_cons, List.getElem?_append_right (by show 3 ≤ _; omega), ← this]
    congr 1
    show (i + 1) * 3 + r - 3 = _
    omega
def inC (l : List Int) : List Value := l.map (.int .i64 ·)
theorem inC_len (l : List Int) : (inC l).length = l.length := by unfold inC; rw [List.length_map]
theorem inC_one (l : List Int) : ∀ u ∈ inC l, u.oneCell' = true := by
  intro u hu
  obtain ⟨x, _, rfl⟩ := List.mem_map.1 hu
  rfl

theorem infoWr : (Try.prog.info? 63).map (fun i => (i.zero, i.size, i.bytes)) = some (some (.agg #[.string ByteArray.empty, .string ByteArray.empty, .bool false]), 3, 40) := by kernel_rfl

theorem cloneW_any (B : Nat → Prop) (v : Value) (l : List WrV) (hl : l.length ≤ 1000) (w : World) (h : SlIn B w v l.length (wrCells l)) :
    Calls Try.prog 46 #[v] w fun e w' => ∃ v', e = .returned v' ∧ SlIn (fun b => w.heap.size ≤ b) w' v' l.length (wrCells l) ∧ Below w.heap.size w w' := by
  obtain ⟨A, cap, rfl, hA, hX⟩ := h
  cases A with
  | none =>
    obtain ⟨h0, rfl⟩ := hA rfl
    obtain rfl : l = [] := List.length_eq_zero_iff.1 h0
    refine (cloneW_nil w).mono ?_
    rintro e w' ⟨rfl, rfl⟩
    exact ⟨_, rfl, SlIn.nil _ _, Below.refl _ _⟩
  | some ad =>
    obtain ⟨i0, hi, hz0, hz1, hz2⟩ := info_parts infoWr
    obtain ⟨n, hn⟩ : ∃ n, n = l.length := ⟨_, rfl⟩
    have OWN : Hid ((w.alloc (.cells #[] 63)).ownsRow w.heap.size 63 3 (.slice (some ⟨w.heap.size, 0, none⟩) 0 0) 0 []) := World.ownsRow_made w #[] 0 (Nat.le_refl _) (by unfold maxLen; omega) rfl
    have NEWS : Hid (∀ j u, (wrCells l)[j]? = some u → (w.alloc (.cells #[] 63)).cell? (ad.add j) = some u) := Lib.hid (fun j u hu => by
      obtain ⟨b, o, e, _, h5⟩ := hX (by have := (List.getElem?_eq_some_iff.1 hu).1; omega)
      cases e
      have h6 := h5 j u hu
      rw [Addr.add_lit]
      exact (((Below.refl w.heap.size w).alloc (Nat.le_refl _) (.cells #[] 63)).cell (p := ⟨b, o + j, none⟩) (World.block_lt_of_cell? w _ h6)).trans h6)
    have LN := Lib.hid (wrCells_len l)
    have ON := Lib.hid (wrCells_one l)
    rw [← hn] at LN hl ⊢
    clear hX hA hn
    generalize wrCells l = xs at *
    have hne := fun w => Lib.run_eql_slice_nil (P := Try.prog) w 53 63 (some ad) n cap 0 0 Try.underlying53
    simp only [Option.isNone_some] at hne
    go_enter Try.func46, Try.ntmps46
    go_wp2_with (at_builtin; refine wpList_append_own _ rfl _ _ 53 rfl w.heap.size 63 i0 (.agg #[.string ByteArray.empty, .string ByteArray.empty, .bool false]) 3 40 Try.underlying53 hi hz0 hz1 hz2 rfl (by decide) _ 0 [] rfl OWN.out ad n cap xs rfl LN.out NEWS.out ON.out (by unfold maxLen; omega) (by omega) (by simp) ?_; intro v' w1 hown hgrow hnil)
    rw [Nat.zero_add, List.nil_append] at hown
    have HO := Lib.hid hown
    have HG : Hid ((w.alloc (.cells #[] 63)).grownBy w1 (some w.heap.size)) := hgrow
    obtain ⟨A', cap', hv⟩ : ∃ A' cap', v' = .slice A' n cap' := by
      rcases hown.2 with ⟨h, h0⟩ | ⟨g, c, _, h, _⟩
      · subst h0
        exact ⟨none, 0, h⟩
      · exact ⟨_, c, h⟩
    clear hown hgrow hnil
    subst hv
    go_wp2_with fail
    go_ret
    exact ⟨_, rfl, SlIn.of_own HO.out, ((Below.refl w.heap.size w).alloc (Nat.le_refl _) _).grown HG.out (by simp) (fun j hj => by cases hj; exact Nat.le_refl _)⟩

theorem cloneI_any (B : Nat → Prop) (v : Value) (l : List Int) (hl : l.length ≤ 1000) (w : World) (h : SlIn B w v l.length (inC l)) :
    Calls Try.prog 47 #[v] w fun e w' => ∃ v', e = .returned v' ∧ SlIn (fun b => w.heap.size ≤ b) w' v' l.length (inC l) ∧ Below w.heap.size w w' := by
  obtain ⟨A, cap, rfl, hA, hX⟩ := h
  cases A with
  | none =>
    obtain ⟨h0, rfl⟩ := hA rfl
    obtain rfl : l = [] := List.length_eq_zero_iff.1 h0
    refine (cloneI_nil w).mono ?_
    rintro e w' ⟨rfl, rfl⟩
    exact ⟨_, rfl, SlIn.nil _ _, Below.refl _ _⟩
  | some ad =>
    obtain ⟨i0, hi, hz0, hz1, hz2⟩ := info_parts info3
    obtain ⟨n, hn⟩ : ∃ n, n = l.length := ⟨_, rfl⟩
    have OWN : Hid ((w.alloc (.cells #[] 3)).ownsRow w.heap.size 3 1 (.slice (some ⟨w.heap.size, 0, none⟩) 0 0) 0 []) := World.ownsRow_made w #[] 0 (Nat.le_refl _) (by unfold maxLen; omega) rfl
    have NEWS : Hid (∀ j u, (inC l)[j]? = some u → (w.alloc (.cells #[] 3)).cell? (ad.add j) = some u) := Lib.hid (fun j u hu => by
      obtain ⟨b, o, e, _, h5⟩ := hX (by have := (List.getElem?_eq_some_iff.1 hu).1; omega)
      cases e
      have h6 := h5 j u hu
      rw [Addr.add_lit]
      exact (((Below.refl w.heap.size w).alloc (Nat.le_refl _) (.cells #[] 3)).cell (p := ⟨b, o + j, none⟩) (World.block_lt_of_cell? w _ h6)).trans h6)
    have LN : Hid ((inC l).length = n * 1) := Lib.hid (by rw [inC_len, hn, Nat.mul_one])
    have ON := Lib.hid (inC_one l)
    rw [← hn] at hl ⊢
    clear hX hA hn
    generalize inC l = xs at *
    have hne := fun w => Lib.run_eql_slice_nil (P := Try.prog) w 23 3 (some ad) n cap 0 0 Try.underlying23
    simp only [Option.isNone_some] at hne
    go_enter Try.func47, Try.ntmps47
    go_wp2_with (at_builtin; refine wpList_append_own _ rfl _ _ 23 rfl w.heap.size 3 i0 (.int .i64 0) 1 8 Try.underlying23 hi hz0 hz1 hz2 rfl (by decide) _ 0 [] rfl OWN.out ad n cap xs rfl LN.out NEWS.out ON.out (by unfold maxLen; omega) (by omega) (by simp) ?_; intro v' w1 hown hgrow hnil)
    rw [Nat.zero_add, List.nil_append] at hown
    have HO := Lib.hid hown
    have HG : Hid ((w.alloc (.cells #[] 3)).grownBy w1 (some w.heap.size)) := hgrow
    obtain ⟨A', cap', hv⟩ : ∃ A' cap', v' = .slice A' n cap' := by
      rcases hown.2 with ⟨h, h0⟩ | ⟨g, c, _, h, _⟩
      · subst h0
        exact ⟨none, 0, h⟩
      · exact ⟨_, c, h⟩
    clear hown hgrow hnil
    subst hv
    go_wp2_with fail
    go_ret
    exact ⟨_, rfl, SlIn.of_own HO.out, ((Below.refl w.heap.size w).alloc (Nat.le_refl _) _).grown HG.out (by simp) (fun j hj => by cases hj; exact Nat.le_refl _)⟩
end Go.Proofs.Ytpaihfdmjkfegaa.Cl

/- aimed, whatever lists the last request bears: walked. -/
namespace Go.Proofs.Ytpaihfdmjkfegaa.Cl
open Go.RowKit Go.Lib Go.Proofs.Ytpaihfdmjkfegaa.Msg Go.Proofs.Ytpaihfdmjkfegaa.Cls

attribute [local go_sem ↓] loadMsg_eq storeMsg_eq buildMsg_eq
attribute [local go_sem] run_loadMsg run_storeMsg run_buildMsg

set_option maxRecDepth 100000 in
set_option maxHeartbeats 2000000 in
theorem aimed_gen (p : Nat) (c : Client) (gb go n cap k : Nat) (node : Int) (w : World) (hC : ClAt w p c) (hg : c.vg = .slice (some ⟨gb, go, none⟩) n cap) (hk : c.grp = (k : Int)) (hkn : k < n)
    (hc : w.cell? ⟨gb, go + k, none⟩ = some (.int .i64 node)) (B : Nat → Prop) (v18 v19 : Value) (ws : List WrV) (gi : List Int) (hws : ws.length ≤ 1000) (hgi : gi.length ≤ 1000) (h18 : c.M[18]? = some v18) (h19 : c.M[19]? = some v19) (s18 : SlIn B w v18 ws.length (wrCells ws)) (s19 : SlIn B w v19 gi.length (inC gi)) :
    Calls Try.prog 30 #[.pointer (some ⟨p, 0, none⟩)] w fun e w' => ∃ u18 u19, e = .returned (.agg (((aimedM c.M k node).setIfInBounds 18 u18).setIfInBounds 19 u19)) ∧ SlIn (fun b => w.heap.size ≤ b) w' u18 ws.length (wrCells ws) ∧ SlIn (fun b => w.heap.size ≤ b) w' u19 gi.length (inC gi) ∧ Below w.heap.size w w' := by
  have HC := Lib.hid hC
  have hp := hC.blk.lt
  have H18 := Lib.hid h18
  have H19 := Lib.hid h19
  have kn : (k : Int) < (n : Int) := by omega
  have HX := Lib.hid hc
  have gbl : gb < w.heap.size := World.block_lt_of_cell? w _ hc
  have CW := Lib.hid (fun v (hv : Below w.heap.size w v) => cloneW_any B v18 ws hws v (s18.keep hv))
  have CI := Lib.hid (fun v (hv : Below w.heap.size w v) => cloneI_any B v19 gi hgi v (s19.keep hv))
  clear hC h18 h19 hc s18 s19
  go_enter Try.func30, Try.ntmps30
  go_upto_region 1 with (fail)
  refine world_out (fun W hW => ?_)
  have BW : Hid (Below w.heap.size w W) := Lib.hid (by rw [hW]; exact (Below.refl _ _).alloc (Nat.le_refl _) _)
  have BZ : Hid (∃ Z, Blk W w.heap.size 55 Z ∧ Z.size = 26) := Lib.hid ⟨_, by rw [hW]; exact Blk.new w 55 _, rfl⟩
  have C1 := Lib.hid (HC.out.below BW.out hp)
  obtain ⟨hh, hm⟩ := C1.out.has
  have mc := C1.out.msg
  have rm := room_new W zeroC rfl
  unfold zeroC at rm
  clear hW
  go_upto_region 2 with (fail)
  refine world_out (fun W2 hW2 => ?_)
  have BW2 : Hid (Below W.heap.size W W2) := Lib.hid (by rw [hW2]; exact below_setCells ((Below.refl _ _).alloc (Nat.le_refl _) _) _ _ (Nat.le_refl _) _)
  have B1 : Hid (Blk W2 W.heap.size 55 c.M) := Lib.hid (by rw [hW2]; exact blk_fill (Blk.new W 55 _) mc.1.symm)
  have Z0 : Hid (∃ Z, Blk W2 w.heap.size 55 Z ∧ Z.size = 26) := Lib.hid (by obtain ⟨Z, h1, h2⟩ := BZ.out; exact ⟨Z, h1.below BW2.out h1.lt, h2⟩)
  have C2 := Lib.hid (C1.out.below BW2.out (by have := BW.out.size; omega))
  have BA : Hid (Below w.heap.size w W2) := Lib.hid (BW.out.trans (BW2.out.mono BW.out.size))
  have hb01 : w.heap.size < W.heap.size := by obtain ⟨Z, h1, h2⟩ := BZ.out; exact h1.lt
  have X2 : W2.cell? ⟨gb, go + k, none⟩ = some (.int .i64 node) := (BA.out.cell (p := ⟨gb, go + k, none⟩) gbl).trans HX.out
  clear hW2 hh hm rm BW2 C1 BW BZ
  have hpb : p ≠ W.heap.size := by omega
  have hgb : gb ≠ W.heap.size := by omega
  generalize W.heap.size = b1 at *
  have g2 := C2.out.grp
  have v2 := C2.out.vg
  rw [hk] at g2
  rw [hg] at v2
  obtain ⟨u3, n3⟩ : ∃ u, W2.cell? ⟨b1, 3, none⟩ = some u := ⟨_, by rw [B1.out.cell, Array.getElem?_eq_getElem (by rw [mc.1]; decide)]⟩
  obtain ⟨u4, n4⟩ : ∃ u, W2.cell? ⟨b1, 4, none⟩ = some u := ⟨_, by rw [B1.out.cell, Array.getElem?_eq_getElem (by rw [mc.1]; decide)]⟩
  have f3 := B1.out.frozen 3
  have f4 := B1.out.frozen 4
  have S1 : Hid (W2.cell? ⟨p, 10, none⟩ = some (.int .i64 (k : Int)) ∧ W2.cell? ⟨p, 4, none⟩ = some (.slice (some ⟨gb, go, none⟩) n cap) ∧ W2.cell? ⟨gb, go + k, none⟩ = some (.int .i64 node)) := Lib.hid ⟨g2, v2, X2⟩
  have S2 : Hid (((W2.setCell ⟨b1, 3, none⟩ (.int .i64 (k : Int))).setCell ⟨b1, 4, none⟩ (.int .i64 node)).cell? ⟨p, 10, none⟩ = some (.int .i64 (k : Int)) ∧ ((W2.setCell ⟨b1, 3, none⟩ (.int .i64 (k : Int))).setCell ⟨b1, 4, none⟩ (.int .i64 node)).cell? ⟨p, 4, none⟩ = some (.slice (some ⟨gb, go, none⟩) n cap) ∧ ((W2.setCell ⟨b1, 3, none⟩ (.int .i64 (k : Int))).setCell ⟨b1, 4, none⟩ (.int .i64 node)).cell? ⟨gb, go + k, none⟩ = some (.int .i64 node)) := Lib.hid (by
    refine ⟨?_, ?_, ?_⟩
    · rw [World.cell?_setCell_other _ _ _ _ (fun e => by injection e; omega), World.cell?_setCell_other _ _ _ _ (fun e => by injection e; omega)]; exact g2
    · rw [World.cell?_setCell_other _ _ _ _ (fun e => by injection e; omega), World.cell?_setCell_other _ _ _ _ (fun e => by injection e; omega)]; exact v2
    · rw [World.cell?_setCell_other _ _ _ _ (fun e => by injection e; omega), World.cell?_setCell_other _ _ _ _ (fun e => by injection e; omega)]; exact X2)
  go_region_held3 (fun v => v.cell? ⟨p, 10, none⟩ = some (.int .i64 (k : Int)) ∧ v.cell? ⟨p, 4, none⟩ = some (.slice (some ⟨gb, go, none⟩) n cap) ∧ v.cell? ⟨gb, go + k, none⟩ = some (.int .i64 node)) (first | exact S1.out | exact S2.out) (fail)
  clear S1 S2
  go_upto_region 3 with (fail)
  refine world_out (fun W3 hW3 => ?_)
  have B3 : Hid (Blk W3 b1 55 (aimedM c.M k node)) := Lib.hid (by rw [hW3]; exact (B1.out.set_ 3 _).set_ 4 _)
  have Z3 : Hid (∃ Z, Blk W3 w.heap.size 55 Z ∧ Z.size = 26) := Lib.hid (by obtain ⟨Z, h1, h2⟩ := Z0.out; rw [hW3]; exact ⟨Z, (h1.far (p := ⟨b1, 3, none⟩) (Nat.ne_of_lt hb01) _).far (p := ⟨b1, 4, none⟩) (Nat.ne_of_lt hb01) _, h2⟩)
  have BA3 : Hid (Below w.heap.size w W3) := Lib.hid (by rw [hW3]; exact ((BA.out.setCell (p := ⟨b1, 3, none⟩) (Nat.le_of_lt hb01) _).setCell (p := ⟨b1, 4, none⟩) (Nat.le_of_lt hb01) _).drew)
  have MA : Hid (MsgC (aimedM c.M k node)) := Lib.hid (msgC_set (msgC_set mc 3 rfl) 4 rfl)
  have a18 : W3.cell? ⟨b1, 18, none⟩ = some v18 := by
    rw [B3.out.cell]
    unfold aimedM
    rw [Array.getElem?_setIfInBounds_ne (by decide), Array.getElem?_setIfInBounds_ne (by decide)]
    exact H18.out
  have a19 : W3.cell? ⟨b1, 19, none⟩ = some v19 := by
    rw [B3.out.cell]
    unfold aimedM
    rw [Array.getElem?_setIfInBounds_ne (by decide), Array.getElem?_setIfInBounds_ne (by decide)]
    exact H19.out
  have f18 := B3.out.frozen 18
  have f19 := B3.out.frozen 19
  clear hW3 B1 Z0 BA C2 X2 n3 n4 f3 f4 g2 v2 mc hg hk
  have F : Hid (∀ v, Below W3.heap.size W3 v → v.cell? ⟨b1, 18, none⟩ = some v18 ∧ v.cell? ⟨b1, 19, none⟩ = some v19 ∧ v.frozen? ⟨b1, 18, none⟩ = false ∧ v.frozen? ⟨b1, 19, none⟩ = false) := Lib.hid (fun v hv => by
    have h := B3.out.below hv B3.out.lt
    exact ⟨(hv.cell (p := ⟨b1, 18, none⟩) B3.out.lt).trans a18, (hv.cell (p := ⟨b1, 19, none⟩) B3.out.lt).trans a19, h.frozen 18, h.frozen 19⟩)
  have c18 := a18
  have c19 := a19
  clear a18 a19
  have DW := Lib.hid (fun v (hv : Below W3.heap.size W3 v) => CW.out v (BA3.out.trans (hv.mono BA3.out.size)))
  have DI := Lib.hid (fun v (hv : Below W3.heap.size W3 v) => CI.out v (BA3.out.trans (hv.mono BA3.out.size)))
  go_region_law (first
    | (go_simp; go_at_call 46; refine (DW.out _ (Below.refl W3.heap.size W3).drew).mono ?_; rintro e w4 ⟨_, rfl, ⟨A4, c4, rfl, z4, r1⟩, r2⟩
       have K4 : Hid (SlIn (fun b => W3.heap.size ≤ b) w4 (.slice A4 ws.length c4) ws.length (wrCells ws) ∧ Below W3.heap.size W3 w4) := Lib.hid ⟨⟨A4, c4, rfl, z4, r1⟩, (Below.refl W3.heap.size W3).drew.trans r2⟩
       have n19 := (F.out w4 K4.out.2).2.1
       clear r1 r2 z4)
    | (go_simp; go_at_call 47; refine (DI.out w4 K4.out.2).mono ?_; rintro e w5 ⟨_, rfl, ⟨A5, c5, rfl, z5, r1⟩, r2⟩
       have K5 : Hid (SlIn (fun b => W3.heap.size ≤ b) w5 (.slice A4 ws.length c4) ws.length (wrCells ws) ∧ SlIn (fun b => W3.heap.size ≤ b) w5 (.slice A5 gi.length c5) gi.length (inC gi) ∧ Below W3.heap.size W3 w5) := Lib.hid ⟨K4.out.1.keep r2, SlIn.more ⟨A5, c5, rfl, z5, r1⟩ (fun b hb => Nat.le_trans K4.out.2.size hb), K4.out.2.trans (r2.mono K4.out.2.size)⟩
       obtain ⟨x18, x19, z18, z19⟩ := F.out w5 K5.out.2.2
       clear r1 r2 z5))
  all_goals
    go_upto_region 4 with (fail)
    refine world_out (fun W4 hW4 => ?_)
    have B5 := Lib.hid (B3.out.below K5.out.2.2 B3.out.lt)
    have B4 : Hid (Blk W4 b1 55 (((aimedM c.M k node).setIfInBounds 18 (.slice A4 ws.length c4)).setIfInBounds 19 (.slice A5 gi.length c5))) := Lib.hid (by rw [hW4]; exact (B5.out.set_ 18 _).set_ 19 _)
    have Q4 : Hid (Chg (fun j => j = b1) w5 W4) := Lib.hid (by rw [hW4]; exact ((Chg.refl _ w5).set1 18 _).set1 19 _)
    have lb1 : b1 < W3.heap.size := B3.out.lt
    have M4 : Hid (MsgC (((aimedM c.M k node).setIfInBounds 18 (.slice A4 ws.length c4)).setIfInBounds 19 (.slice A5 gi.length c5))) := Lib.hid (msgC_set (msgC_set MA.out 18 rfl) 19 rfl)
    have SW : Hid (SlIn (fun b => W3.heap.size ≤ b) W4 (.slice A4 ws.length c4) ws.length (wrCells ws) ∧ SlIn (fun b => W3.heap.size ≤ b) W4 (.slice A5 gi.length c5) gi.length (inC gi)) := Lib.hid ⟨K5.out.1.chg Q4.out (fun b _ hb => by omega), K5.out.2.1.chg Q4.out (fun b _ hb => by omega)⟩
    have BA4 : Hid (Below w.heap.size w W4) := Lib.hid (by
      have k1 : Chg (fun j => w.heap.size ≤ j) w w5 := Chg.of (BA3.out.trans (K5.out.2.2.mono BA3.out.size))
      exact (k1.on (Q4.out.more (fun _ _ e => by omega))).below (Nat.le_refl _) (fun _ e => e))
    have Z4 : Hid (∃ Z, Blk W4 w.heap.size 55 Z ∧ Z.size = 26) := Lib.hid (by
      obtain ⟨Z, h1, h2⟩ := Z3.out
      exact ⟨Z, (h1.below K5.out.2.2 h1.lt).chg Q4.out (by omega), h2⟩)
    have sz3 := BA3.out.size
    clear hW4 B3 Z3 x18 x19 z18 z19 n19 c18 c19 f18 f19 DW DI CW CI F K4 K5 B5 Q4
    obtain ⟨C, hC⟩ : ∃ C, C = (((aimedM c.M k node).setIfInBounds 18 (.slice A4 ws.length c4)).setIfInBounds 19 (.slice A5 gi.length c5)) := ⟨_, rfl⟩
    rw [← hC] at B4 M4
    have EC := Lib.hid hC
    clear hC
    obtain ⟨hh, hm⟩ := blk_has B4.out M4.out.1
    have mc := M4.out
    obtain ⟨Z, hZ, hzs⟩ := Z4.out
    have rm := blk_room hZ hzs
    go_wp2_with fail
    have hl := load_var (w := W4.setCells w.heap.size 0 C.toList) mc.1 (World.rangeAt_setCells_same W4 _ _ _ (by rw [Array.length_toList, mc.1]; exact rm))
    have KS : Chg (fun j => j = w.heap.size) W4 (W4.setCells w.heap.size 0 C.toList) := Chg.sets _ _ _ (Chg.refl _ _) (.inr rfl)
    refine bodyPost_ret (v := .agg C) ?_ rfl ⟨.slice A4 ws.length c4, .slice A5 gi.length c5, by rw [EC.out], (SW.out.1.chg KS (fun b _ hb => by omega)).more (fun b hb => Nat.le_trans sz3 hb), (SW.out.2.chg KS (fun b _ hb => by omega)).more (fun b hb => Nat.le_trans sz3 hb), below_setCells BA4.out _ _ (Nat.le_refl _) _⟩
    show Sem.run _ _ (W4.setCells w.heap.size 0 C.toList) = _
    simp [results, Try.results30, asAddr, hl]
end Go.Proofs.Ytpaihfdmjkfegaa.Cl

/- request, whatever lists the message bears: walked. -/
namespace Go.Proofs.Ytpaihfdmjkfegaa.Cl
open Go.RowKit Go.Lib Go.Proofs.Ytpaihfdmjkfegaa.Msg Go.Proofs.Ytpaihfdmjkfegaa.Cls Go.Proofs.Ytpaihfdmjkfegaa.Ck

attribute [local go_sem ↓] loadMsg_eq storeMsg_eq buildMsg_eq
attribute [local go_sem] run_loadMsg run_storeMsg run_buildMsg
attribute [local go_sem ↓] loadAct_eq storeAct_eq storeCall_eq loadCall_eq
attribute [local go_sem] run_loadAct run_storeAct run_storeCall run_loadCall

set_option maxRecDepth 100000 in
set_option maxHeartbeats 4000000 in
theorem request_gen (p : Nat) (c : Client) (tb : Nat) (T : Array Value) (n cc : Int) (gb go gn cap k : Nat) (node : Int) (M : Array Value) (a : ActV) (w : World) (hC : ClAt w p c) (ht : c.vt = .pointer (some ⟨tb, 0, none⟩)) (hT : Blk w tb 110 T) (h0 : T[0]? = some (.int .i64 n)) (h1 : T[1]? = some (.int .i64 cc))
    (hg : c.vg = .slice (some ⟨gb, go, none⟩) gn cap) (hkn : k < gn) (hpg : p ≠ gb) (hx : w.cell? ⟨gb, go + k, none⟩ = some (.int .i64 node)) (hM : MsgC M) (B : Nat → Prop) (hB : ∀ j, B j → j ≠ p) (v18 v19 : Value) (ws : List WrV) (gi : List Int) (hws : ws.length ≤ 1000) (hgi : gi.length ≤ 1000) (h18 : M[18]? = some v18) (h19 : M[19]? = some v19) (s18 : SlIn B w v18 ws.length (wrCells ws)) (s19 : SlIn B w v19 gi.length (inC gi)) (hs : 0 ≤ c.seq ∧ c.seq < 1000000) :
    Calls Try.prog 54 #[.pointer (some ⟨p, 0, none⟩), .int .i64 (k : Int), .agg M, .agg a.cs] w fun e w' => ∃ b u18 u19, e = .returned (.slice (some ⟨b, 0, none⟩) 1 1) ∧ w.heap.size ≤ b ∧ Blk w' b 55 (((aimedM (reqM M (c.seq + 1) n cc c.num) k node).setIfInBounds 18 u18).setIfInBounds 19 u19) ∧ SlIn (fun j => w.heap.size ≤ j ∧ j < b) w' u18 ws.length (wrCells ws) ∧ SlIn (fun j => w.heap.size ≤ j ∧ j < b) w' u19 gi.length (inC gi) ∧
      ClAt w' p { c with seq := c.seq + 1, waits := true, hinted := false, grp := k, M := reqM M (c.seq + 1) n cc c.num, act := a } ∧ Chg (fun b => b = p) w w' := by
  have HC := Lib.hid hC
  have HT := Lib.hid hT
  have HX := Lib.hid hx
  have HM := Lib.hid hM
  have H01 := Lib.hid (And.intro h0 h1)
  have H189 := Lib.hid (And.intro h18 h19)
  have hp := hC.blk.lt
  have htl := hT.lt
  have hpt : p ≠ tb := Blk.ne_ hC.blk hT (by decide)
  have hgl : gb < w.heap.size := World.block_lt_of_cell? w _ hx
  have AC := Lib.hid a.cells
  have HA : Hid (a.cs.size = 11) := Lib.hid rfl
  obtain ⟨A, hA⟩ : ∃ A, A = a.cs := ⟨_, rfl⟩
  rw [← hA] at AC HA ⊢
  have EA := Lib.hid hA
  have w1 : IntKind.i64.wrap (c.seq + 1) = c.seq + 1 := IntWalk.i64_in _ (by omega)
  have S18 := Lib.hid (And.intro s18 s19)
  clear hC hT hx hM h0 h1 h18 h19 hs hA s18 s19
  go_enter Try.func54, Try.ntmps54
  go_upto_region 1 with (fail)
  refine world_out (fun W hW => ?_)
  obtain ⟨b1, hb1⟩ : ∃ b, b = w.heap.size := ⟨_, rfl⟩
  have BW : Hid (Below w.heap.size w W) := Lib.hid (by rw [hW]; exact ((Below.refl _ _).alloc (Nat.le_refl _) _).alloc (by simp) _)
  have BM : Hid (Blk W b1 55 M) := Lib.hid (by rw [hW, hb1]; exact (Blk.new w 55 M).alloc _)
  have BA : Hid (Blk W (b1 + 1) 43 A) := Lib.hid (by rw [hW, hb1]; exact Blk.new2 w 55 M 43 A)
  have C1 := Lib.hid (HC.out.below BW.out hp)
  have T1 := Lib.hid (HT.out.below BW.out htl)
  have n6 := C1.out.seq
  have f6 := C1.out.frz 6
  rw [← hb1]
  clear hW
  go_upto_region 2 with (fail)
  refine world_out (fun W2 hW2 => ?_)
  have pb1 : p ≠ b1 := by omega
  have pb2 : p ≠ b1 + 1 := by omega
  have tb1 : tb ≠ b1 := by omega
  have C2 : Hid (ClAt W2 p { c with seq := c.seq + 1 }) := Lib.hid (by rw [hW2]; exact C1.out.put 6 _ (by decide) rfl rfl rfl)
  have K2 : Hid (Chg (fun b => b = p) w W2) := Lib.hid (by rw [hW2]; exact Chg.set1 (Chg.of BW.out) 6 _)
  have M2 : Hid (Blk W2 b1 55 M) := Lib.hid (by rw [hW2]; exact BM.out.far (p := ⟨p, 6, none⟩) (Ne.symm pb1) _)
  have A2 : Hid (Blk W2 (b1 + 1) 43 A) := Lib.hid (by rw [hW2]; exact BA.out.far (p := ⟨p, 6, none⟩) (Ne.symm pb2) _)
  have T2 : Hid (Blk W2 tb 110 T) := Lib.hid (by rw [hW2]; exact T1.out.far (p := ⟨p, 6, none⟩) (Ne.symm hpt) _)
  have hbw : w.heap.size ≤ b1 := by omega
  clear hW2 n6 f6 C1 BM BA T1 BW hb1
  obtain ⟨u12, n12⟩ := msg_cell M2.out HM.out 12 (by decide)
  obtain ⟨u13, n13⟩ := msg_cell M2.out HM.out 13 (by decide)
  obtain ⟨u14, n14⟩ := msg_cell M2.out HM.out 14 (by decide)
  have f12 := M2.out.frozen 12
  have f13 := M2.out.frozen 13
  have f14 := M2.out.frozen 14
  have F : Hid (∀ v, Chg (fun b => b = b1) W2 v → v.cell? ⟨p, 6, none⟩ = some (.int .i64 (c.seq + 1)) ∧ v.cell? ⟨p, 7, none⟩ = some (.pointer (some ⟨tb, 0, none⟩)) ∧ v.cell? ⟨tb, 0, none⟩ = some (.int .i64 n) ∧ v.cell? ⟨tb, 1, none⟩ = some (.int .i64 cc)) := Lib.hid (fun v hv => by
    have c7 := C2.out.vt
    simp only [ht] at c7
    exact ⟨hv.cell C2.out.seq pb1, hv.cell c7 pb1, hv.cell (by rw [T2.out.cell]; exact H01.out.1) tb1, hv.cell (by rw [T2.out.cell]; exact H01.out.2) tb1⟩)
  have S1 := Lib.hid (F.out W2 (Chg.refl _ _))
  have S2 := Lib.hid (F.out (W2.setCell ⟨b1, 12, none⟩ (.int .i64 (c.seq + 1))) ((Chg.refl _ _).set1 12 _))
  have S3 := Lib.hid (F.out (((W2.setCell ⟨b1, 12, none⟩ (.int .i64 (c.seq + 1))).setCell ⟨b1, 13, none⟩ (.int .i64 n)).setCell ⟨b1, 14, none⟩ (.int .i64 cc)) ((((Chg.refl _ _).set1 12 _).set1 13 _).set1 14 _))
  go_region_held3 (fun v => v.cell? ⟨p, 6, none⟩ = some (.int .i64 (c.seq + 1)) ∧ v.cell? ⟨p, 7, none⟩ = some (.pointer (some ⟨tb, 0, none⟩)) ∧ v.cell? ⟨tb, 0, none⟩ = some (.int .i64 n) ∧ v.cell? ⟨tb, 1, none⟩ = some (.int .i64 cc)) (first | exact S1.out | exact S2.out | exact S3.out) (fail)
  go_upto_region 3 with (fail)
  refine world_out (fun W3 hW3 => ?_)
  have C3 : Hid (ClAt W3 p { c with seq := c.seq + 1 }) := Lib.hid (by rw [hW3]; exact ⟨(((C2.out.blk.far (p := ⟨b1, 12, none⟩) pb1 _).far (p := ⟨b1, 13, none⟩) pb1 _).far (p := ⟨b1, 14, none⟩) pb1 _).drew, C2.out.msg⟩)
  have K3 : Hid (Chg (fun b => b = p) w W3) := Lib.hid (by rw [hW3]; exact (((K2.out.set (p := ⟨b1, 12, none⟩) (.inl hbw) _).set (p := ⟨b1, 13, none⟩) (.inl hbw) _).set (p := ⟨b1, 14, none⟩) (.inl hbw) _).drew)
  have M3 : Hid (Blk W3 b1 55 (((M.setIfInBounds 12 (.int .i64 (c.seq + 1))).setIfInBounds 13 (.int .i64 n)).setIfInBounds 14 (.int .i64 cc))) := Lib.hid (by rw [hW3]; exact (((M2.out.set_ 12 _).set_ 13 _).set_ 14 _).drew)
  have HM3 : Hid (MsgC (((M.setIfInBounds 12 (.int .i64 (c.seq + 1))).setIfInBounds 13 (.int .i64 n)).setIfInBounds 14 (.int .i64 cc))) := Lib.hid (msgC_set (msgC_set (msgC_set HM.out 12 rfl) 13 rfl) 14 rfl)
  have A3 : Hid (Blk W3 (b1 + 1) 43 A) := Lib.hid (by rw [hW3]; exact (((A2.out.far (p := ⟨b1, 12, none⟩) (by show b1 + 1 ≠ b1; omega) _).far (p := ⟨b1, 13, none⟩) (by show b1 + 1 ≠ b1; omega) _).far (p := ⟨b1, 14, none⟩) (by show b1 + 1 ≠ b1; omega) _).drew)
  clear hW3 n12 n13 n14 f12 f13 f14 C2 K2 M2 A2 T2 F S1 S2 S3
  have c0 := C3.out.num
  simp only at c0
  obtain ⟨u1, n1⟩ := msg_cell M3.out HM3.out 1 (by decide)
  obtain ⟨u2, n2⟩ := msg_cell M3.out HM3.out 2 (by decide)
  have f1 := M3.out.frozen 1
  have f2 := M3.out.frozen 2
  go_upto_region 4 with (fail)
  refine world_out (fun W4 hW4 => ?_)
  obtain ⟨M', hM'⟩ : ∃ M', M' = reqM M (c.seq + 1) n cc c.num := ⟨_, rfl⟩
  have C4 : Hid (ClAt W4 p { c with seq := c.seq + 1 }) := Lib.hid (by rw [hW4]; exact ⟨(C3.out.blk.far (p := ⟨b1, 1, none⟩) pb1 _).far (p := ⟨b1, 2, none⟩) pb1 _, C3.out.msg⟩)
  have K4 : Hid (Chg (fun b => b = p) w W4) := Lib.hid (by rw [hW4]; exact (K3.out.set (p := ⟨b1, 1, none⟩) (.inl hbw) _).set (p := ⟨b1, 2, none⟩) (.inl hbw) _)
  have M4 : Hid (Blk W4 b1 55 M') := Lib.hid (by rw [hW4, hM']; exact (M3.out.set_ 1 _).set_ 2 _)
  have A4 : Hid (Blk W4 (b1 + 1) 43 A) := Lib.hid (by rw [hW4]; exact (A3.out.far (p := ⟨b1, 1, none⟩) (by show b1 + 1 ≠ b1; omega) _).far (p := ⟨b1, 2, none⟩) (by show b1 + 1 ≠ b1; omega) _)
  have HM4 : Hid (MsgC M') := Lib.hid (by rw [hM']; exact reqM_ok HM.out _ _ _ _)
  have EM : Hid (M' = reqM M (c.seq + 1) n cc c.num) := Lib.hid hM'
  clear hW4 n1 n2 f1 f2 c0 C3 K3 M3 A3 HM3 hM'
  have X1 : Hid (ClAt (W4.setCell ⟨p, 8, none⟩ (.bool true)) p { c with seq := c.seq + 1, waits := true }) := Lib.hid (C4.out.put 8 _ (by decide) rfl rfl rfl)
  have X2 : Hid (ClAt ((W4.setCell ⟨p, 8, none⟩ (.bool true)).setCell ⟨p, 9, none⟩ (.bool false)) p { c with seq := c.seq + 1, waits := true, hinted := false }) := Lib.hid (X1.out.put 9 _ (by decide) rfl rfl rfl)
  have X3 : Hid (ClAt (((W4.setCell ⟨p, 8, none⟩ (.bool true)).setCell ⟨p, 9, none⟩ (.bool false)).setCell ⟨p, 10, none⟩ (.int .i64 (k : Int))).drew p { c with seq := c.seq + 1, waits := true, hinted := false, grp := k }) := Lib.hid (by
    have h := X2.out.put (c' := { c with seq := c.seq + 1, waits := true, hinted := false, grp := k }) 10 (.int .i64 (k : Int)) (by decide) rfl rfl rfl
    exact ⟨h.blk.drew, h.msg⟩)
  have X4 := Lib.hid (X3.out.putM HM4.out)
  have X5 := Lib.hid (X4.out.putA' a)
  rw [← EA.out] at X5
  have rm := X3.out.room
  have rn := X4.out.roomA
  have n8 := C4.out.waits
  have n9 := C4.out.hinted
  have n10 := C4.out.grp
  have f8 := C4.out.frz 8
  have f9 := C4.out.frz 9
  have f10 := C4.out.frz 10
  have mc := HM4.out
  have ac := AC.out
  have PM : Hid (∀ v, Chg (fun b => b = p) W4 v → HasMsg v b1 0 ∧ msgAt v b1 0 = M' ∧ HasN 11 v (b1 + 1) 0 ∧ valN 11 v (b1 + 1) 0 = A) := Lib.hid (fun v hv => by
    have g1 := blk_has (M4.out.chg hv (Ne.symm pb1)) HM4.out.1
    have g2 := blkN_has (A4.out.chg hv (Ne.symm pb2)) HA.out
    exact ⟨g1.1, g1.2, g2.1, g2.2⟩)
  have S0 := Lib.hid (PM.out W4.drew ((Chg.refl _ _).drew))
  have S1 := Lib.hid (PM.out (W4.setCell ⟨p, 8, none⟩ (.bool true)).drew (((Chg.refl _ _).set1 8 _).drew))
  have S2 := Lib.hid (PM.out ((W4.setCell ⟨p, 8, none⟩ (.bool true)).setCell ⟨p, 9, none⟩ (.bool false)).drew ((((Chg.refl _ _).set1 8 _).set1 9 _).drew))
  have S3 := Lib.hid (PM.out (((W4.setCell ⟨p, 8, none⟩ (.bool true)).setCell ⟨p, 9, none⟩ (.bool false)).setCell ⟨p, 10, none⟩ (.int .i64 (k : Int))).drew (((((Chg.refl _ _).set1 8 _).set1 9 _).set1 10 _).drew))
  have S4 := Lib.hid (PM.out ((((W4.setCell ⟨p, 8, none⟩ (.bool true)).setCell ⟨p, 9, none⟩ (.bool false)).setCell ⟨p, 10, none⟩ (.int .i64 (k : Int))).drew.setCells p 11 M'.toList) (Chg.sets p 11 _ (((((Chg.refl _ _).set1 8 _).set1 9 _).set1 10 _).drew) (.inr rfl)))
  have S5 := Lib.hid (PM.out (putN ((((W4.setCell ⟨p, 8, none⟩ (.bool true)).setCell ⟨p, 9, none⟩ (.bool false)).setCell ⟨p, 10, none⟩ (.int .i64 (k : Int))).drew.setCells p 11 M'.toList) p 37 A) (putN_chg (Chg.sets p 11 _ (((((Chg.refl _ _).set1 8 _).set1 9 _).set1 10 _).drew) (.inr rfl)) (.inr rfl) 37 A))
  go_region_held3 (fun v => HasMsg v b1 0 ∧ msgAt v b1 0 = M' ∧ HasN 11 v (b1 + 1) 0 ∧ valN 11 v (b1 + 1) 0 = A) (first | with_reducible exact S0.out | with_reducible exact S1.out | with_reducible exact S2.out | with_reducible exact S3.out | with_reducible exact S4.out | with_reducible exact S5.out) (fail)
  have K5 : Hid (Chg (fun b => b = p) w (putN ((((W4.setCell ⟨p, 8, none⟩ (.bool true)).setCell ⟨p, 9, none⟩ (.bool false)).setCell ⟨p, 10, none⟩ (.int .i64 (k : Int))).drew.setCells p 11 M'.toList) p 37 A)) := Lib.hid (putN_chg (Chg.sets p 11 _ ((((K4.out.set1 8 _).set1 9 _).set1 10 _).drew) (.inr rfl)) (.inr rfl) 37 A)
  clear S0 S1 S2 S3 S4 PM rm rn n8 n9 n10 f8 f9 f10 ac mc X1 X2 X3 X4 C4 K4 M4 A4
  generalize putN ((((W4.setCell ⟨p, 8, none⟩ (.bool true)).setCell ⟨p, 9, none⟩ (.bool false)).setCell ⟨p, 10, none⟩ (.int .i64 (k : Int))).drew.setCells p 11 M'.toList) p 37 A = W5 at X5 K5 S5 ⊢
  clear S5
  go_wp2_with fail
  have q18 : M'[18]? = some v18 := by rw [EM.out, reqM_get _ _ _ _ (by decide)]; exact H189.out.1
  have q19 : M'[19]? = some v19 := by rw [EM.out, reqM_get _ _ _ _ (by decide)]; exact H189.out.2
  refine (aimed_gen p _ gb go gn cap k node W5 X5.out hg rfl hkn (K5.out.cell HX.out (Ne.symm hpg)) B v18 v19 ws gi hws hgi q18 q19 (S18.out.1.chg K5.out (fun j _ hj e => hB j hj e)) (S18.out.2.chg K5.out (fun j _ hj e => hB j hj e))).mono ?_
  rintro e w6 ⟨u18, u19, rfl, r1, r2, hb⟩
  obtain ⟨A18, e18, rfl, z18, r18⟩ := r1
  obtain ⟨A19, e19, rfl, z19, r19⟩ := r2
  have mc : MsgC (((aimedM M' k node).setIfInBounds 18 (.slice A18 ws.length e18)).setIfInBounds 19 (.slice A19 gi.length e19)) := msgC_set (msgC_set (msgC_set (msgC_set HM4.out 3 rfl) 4 rfl) 18 rfl) 19 rfl
  have B6 := Lib.hid hb
  have SS : Hid (SlIn (fun j => W5.heap.size ≤ j) w6 (.slice A18 ws.length e18) ws.length (wrCells ws) ∧ SlIn (fun j => W5.heap.size ≤ j) w6 (.slice A19 gi.length e19) gi.length (inC gi)) := Lib.hid ⟨⟨A18, e18, rfl, z18, r18⟩, ⟨A19, e19, rfl, z19, r19⟩⟩
  clear hb z18 r18 z19 r19
  go_wp2_with fail
  go_ret
  have up : ∀ {v : Value} {n : Nat} {xs : List Value}, SlIn (fun j => W5.heap.size ≤ j) w6 v n xs → ∀ o, SlIn (fun j => w.heap.size ≤ j ∧ j < w6.heap.size) (w6.alloc o) v n xs := fun h o => by
    obtain ⟨A, cp, h1, h0, h2⟩ := h
    refine ⟨A, cp, h1, h0, fun hx => ?_⟩
    obtain ⟨b, o', h3, h4, h5⟩ := h2 hx
    have hlt : b < w6.heap.size := World.block_lt_of_cell? w6 _ (h5 0 _ (List.getElem?_eq_getElem hx))
    exact ⟨b, o', h3, ⟨Nat.le_trans K5.out.size h4, hlt⟩, fun i x hi => (((Below.refl _ w6).alloc (Nat.le_refl _) o).cell (p := ⟨b, o' + i, none⟩) hlt).trans (h5 i x hi)⟩
  refine ⟨w6.heap.size, _, _, rfl, Nat.le_trans K5.out.size B6.out.size, ?_, up SS.out.1 _, up SS.out.2 _, ?_, (K5.out.then B6.out).alloc _⟩
  · rw [← EM.out]
    exact Blk.new _ _ _
  · rw [← EM.out]
    exact (X5.out.below B6.out X5.out.blk.lt).below ((Below.refl _ _).alloc (Nat.le_refl _) _) (Nat.lt_of_lt_of_le X5.out.blk.lt B6.out.size)
end Go.Proofs.Ytpaihfdmjkfegaa.Cl

/- A transaction in memory, whatever it has asked for; lay: walked. -/
namespace Go.Proofs.Ytpaihfdmjkfegaa.Cl
open Go.RowKit Go.Lib Go.Maps Go.Proofs.Ytpaihfdmjkfegaa.MapF Go.Proofs.Ytpaihfdmjkfegaa.Msg Go.Proofs.Ytpaihfdmjkfegaa.Cls Go.Proofs.Ytpaihfdmjkfegaa.Ck

open Classical in
/-- A set of keys, as a map. -/
noncomputable def setF (l : List ByteArray) : ByteArray → Option Bool := fun k => if k ∈ l then some true else none
open Classical in
noncomputable def ins (l : List ByteArray) (k : ByteArray) : List ByteArray := if k ∈ l then l else l ++ [k]
theorem mem_ins {l : List ByteArray} {k x : ByteArray} : x ∈ ins l k ↔ x ∈ l ∨ x = k := by
  unfold ins
  split
  · constructor
    · exact .inl
    · rintro (h | rfl)
      · exact h
      · assumption
  · simp
theorem ins_nodup {l : List ByteArray} (h : l.Nodup) (k : ByteArray) : (ins l k).Nodup := by
  unfold ins
  split
  · exact h
  · rename_i hk
    rw [List.nodup_append]
    exact ⟨h, by simp, by simp only [List.mem_singleton]; rintro a ha b rfl rfl; exact hk ha⟩
theorem setF_ins (l : List ByteArray) (k : ByteArray) : upd (setF l) k (some true) = setF (ins l k) := by
  funext x
  unfold upd setF
  by_cases h : x = k
  · rw [if_pos h, if_pos (mem_ins.2 (.inr h))]
  · rw [if_neg h]
    by_cases h2 : x ∈ l
    · rw [if_pos h2, if_pos (mem_ins.2 (.inl h2))]
    · rw [if_neg h2, if_neg (fun h3 => by rcases mem_ins.1 h3 with h3 | h3; exact h2 h3; exact h h3)]
theorem setF_none (k : ByteArray) : setF [] k = none := by unfold setF; rw [if_neg (by simp)]

/-- A transaction. -/
structure TxS where
  n : Int
  c : Int
  home : Int
  gr : List Int
  ks : List ByteArray
  mi : List ByteArray
  rd : ByteArray → Option (Bool × ByteArray × Int)
  la : ByteArray → Option WrV
  ls : List ByteArray
/-- Where it lies. -/
structure TxB where
  tb : Nat
  m1 : Nat
  m2 : Nat
  m3 : Nat
  m4 : Nat
  vs : Value
  N : Nat
/-- A transaction lies there, in blocks of A. -/
structure TxAt (A : Nat → Prop) (w : World) (x : TxB) (t : TxS) : Prop where
  blk : Blk w x.tb 110 #[.int .i64 t.n, .int .i64 t.c, .int .i64 t.home, x.vs, .map (some x.m1), .map (some x.m2), .map (some x.m3), .map (some x.m4)]
  gr : w.ownsRow 0 3 1 x.vs t.gr.length (inC t.gr)
  grA : ∀ b, x.vs.ownBlock = some b → A b
  k1 : IsF mB w x.m1 x.N (setF t.ks)
  k2 : IsF mB w x.m2 x.N (setF t.mi)
  k3 : IsF mS w x.m3 x.N t.rd
  k4 : IsF mW w x.m4 x.N t.la
  ne : x.m1 ≠ x.m2 ∧ x.m1 ≠ x.m3 ∧ x.m1 ≠ x.m4 ∧ x.m2 ≠ x.m3 ∧ x.m2 ≠ x.m4 ∧ x.m3 ≠ x.m4
  inA : A x.tb ∧ A x.m1 ∧ A x.m2 ∧ A x.m3 ∧ A x.m4
  ksN : t.ks.Nodup ∧ ∀ k ∈ t.ks, okS k
  lsN : t.ls.Nodup ∧ (∀ k ∈ t.ls, okS k) ∧ (∀ k, k ∈ t.ls ↔ (t.la k).isSome = true) ∧ ∀ k y, t.la k = some y → y.1 = k
section
variable {A A' S : Nat → Prop} {w w' : World} {x : TxB} {t : TxS}
theorem TxAt.more (h : TxAt A w x t) (ha : ∀ b, A b → A' b) : TxAt A' w x t :=
  ⟨h.blk, h.gr, fun b hb => ha b (h.grA b hb), h.k1, h.k2, h.k3, h.k4, h.ne, ⟨ha _ h.inA.1, ha _ h.inA.2.1, ha _ h.inA.2.2.1, ha _ h.inA.2.2.2.1, ha _ h.inA.2.2.2.2⟩, h.ksN, h.lsN⟩
theorem TxAt.chg (h : TxAt A w x t) (k : Chg S w w') (hs : ∀ b, b < w.heap.size → A b → ¬ S b) : TxAt A w' x t :=
  ⟨h.blk.chg k (hs _ h.blk.lt h.inA.1), own_same h.gr (fun b hb hv => k.block b hb (hs b hb (h.grA b hv))), h.grA, isF_same h.k1 (k.block _ h.k1.lt (hs _ h.k1.lt h.inA.2.1)), isF_same h.k2 (k.block _ h.k2.lt (hs _ h.k2.lt h.inA.2.2.1)), isF_same h.k3 (k.block _ h.k3.lt (hs _ h.k3.lt h.inA.2.2.2.1)), isF_same h.k4 (k.block _ h.k4.lt (hs _ h.k4.lt h.inA.2.2.2.2)), h.ne, h.inA, h.ksN, h.lsN⟩
theorem TxAt.keep (h : TxAt A w x t) (k : Below w.heap.size w w') : TxAt A w' x t := h.chg (S := fun _ => False) (Chg.of k) (fun _ _ _ => id)
theorem TxAt.tm (h : TxAt A w x t) : x.tb ≠ x.m1 ∧ x.tb ≠ x.m2 ∧ x.tb ≠ x.m3 ∧ x.tb ≠ x.m4 := ⟨h.k1.isMp.ne_blk h.blk, h.k2.isMp.ne_blk h.blk, h.k3.isMp.ne_blk h.blk, h.k4.isMp.ne_blk h.blk⟩
theorem own_ne_map {base n size b : Nat} {e : TypeId} {v : Value} {xs : List Value} (h : w.ownsRow base e size v n xs) (hm : IsMp w b) : v.ownBlock ≠ some b := fun e => by
  rcases h.2 with ⟨rfl, _⟩ | ⟨g, cap, cur, rfl, _, hg, _⟩
  · cases e
  · have : g = b := by simpa [Value.ownBlock] using e
    subst this
    obtain ⟨es, n, hm⟩ := hm
    rw [hg] at hm
    cases hm
end

noncomputable def layT (t : TxS) (k v : ByteArray) (del : Bool) : TxS := { t with mi := ins t.mi k, la := upd t.la k (some (k, v, del)), ls := ins t.ls k }

set_option maxRecDepth 100000 in
set_option maxHeartbeats 4000000 in
theorem lay_any (A : Nat → Prop) (p : Nat) (c : Client) (x : TxB) (t : TxS) (a : ActV) (w : World) (hC : ClAt w p c) (ht : c.vt = .pointer (some ⟨x.tb, 0, none⟩)) (hT : TxAt A w x t) (hN : x.N + 1 < maxLen) (hk : okS a.key) :
    Calls Try.prog 28 #[.pointer (some ⟨p, 0, none⟩), .agg a.cs] w fun e w' => e = .returned (.tuple #[]) ∧ TxAt A w' { x with N := x.N + 1 } (layT t a.key a.value (a.call == 4)) ∧ Chg (fun b => b = x.m2 ∨ b = x.m4) w w' := by
  have H := Lib.hid hC
  have HT := Lib.hid hT
  have hp := hC.blk.lt
  have c7 := hC.vt
  rw [ht] at c7
  have pm2 : p ≠ x.m2 := hT.k2.isMp.ne_blk hC.blk
  obtain ⟨tm1, tm2, tm3, tm4⟩ := hT.tm
  have tl := hT.blk.lt
  obtain ⟨tb, m1, m2, m3, m4, vs, N⟩ := x
  simp only at c7 pm2 tm1 tm2 tm3 tm4 tl hN ⊢
  have m2l : m2 < w.heap.size := hT.k2.lt
  have t5 : w.cell? ⟨tb, 5, none⟩ = some (.map (some m2)) := hT.blk.cell 5
  have t7 : w.cell? ⟨tb, 7, none⟩ = some (.map (some m4)) := hT.blk.cell 7
  obtain ⟨D, hD⟩ : ∃ D, D = a.cs := ⟨_, rfl⟩
  rw [← hD]
  have d1 : D[1]? = some (.int .i64 a.call) := by rw [hD]; simp [ActV.cs]
  have d4 : D[4]? = some (.string a.key) := by rw [hD]; simp [ActV.cs]
  have d5 : D[5]? = some (.string a.value) := by rw [hD]; simp [ActV.cs]
  have OK := Lib.hid hk
  clear hC ht hT hk hD
  go_enter Try.func28, Try.ntmps28
  go_upto_region 1 with (fail)
  refine world_out (fun W hW => ?_)
  obtain ⟨b, hb⟩ : ∃ b, b = w.heap.size := ⟨_, rfl⟩
  have BW : Hid (Below w.heap.size w W) := Lib.hid (by rw [hW]; exact (Below.refl _ _).alloc (Nat.le_refl _) _)
  have BD : Hid (Blk W b 43 D) := Lib.hid (by rw [hW, hb]; exact Blk.new w 43 D)
  have T1 := Lib.hid (HT.out.keep BW.out)
  have q7 : W.cell? ⟨p, 7, none⟩ = some (.pointer (some ⟨tb, 0, none⟩)) := (BW.out.cell (p := ⟨p, 7, none⟩) hp).trans c7
  have q5 : W.cell? ⟨tb, 5, none⟩ = some (.map (some m2)) := (BW.out.cell (p := ⟨tb, 5, none⟩) tl).trans t5
  have x4 : W.cell? ⟨b, 4, none⟩ = some (.string a.key) := by rw [BD.out.cell]; exact d4
  have x1 : W.cell? ⟨b, 1, none⟩ = some (.int .i64 a.call) := by rw [BD.out.cell]; exact d1
  have x5 : W.cell? ⟨b, 5, none⟩ = some (.string a.value) := by rw [BD.out.cell]; exact d5
  have hbw : w.heap.size ≤ b := Nat.le_of_eq hb.symm
  have lW := BW.out.size
  rw [← hb]
  clear hW hb t5 c7
  obtain ⟨w5, hst, hF5, hturn⟩ := IsF.store (w := W.drew) (t := 107) (e := 4) T1.out.k2 Try.underlying107 (by show N < maxLen; omega) a.key OK.out true
  rw [setF_ins] at hF5
  have hst' : (Instr.mapUpdate 107 (.map (some m2)) (.string a.key) (.bool true)).run Try.prog W.drew = .ok () w5 := hst
  have K5 : Hid (Chg (fun j => j = m2) W w5) := Lib.hid (((Chg.refl _ W).drew).on (Chg.grown hturn.grown))
  have F5 : Hid (IsF mB w5 m2 (N + 1) (setF (ins t.mi a.key))) := Lib.hid hF5
  have bm2 : b ≠ m2 := by omega
  have S0 : Hid (W.drew.cell? ⟨p, 7, none⟩ = some (.pointer (some ⟨tb, 0, none⟩)) ∧ W.drew.cell? ⟨tb, 5, none⟩ = some (.map (some m2)) ∧ W.drew.cell? ⟨b, 4, none⟩ = some (.string a.key)) := Lib.hid ⟨q7, q5, x4⟩
  have S1 : Hid (w5.cell? ⟨p, 7, none⟩ = some (.pointer (some ⟨tb, 0, none⟩)) ∧ w5.cell? ⟨tb, 5, none⟩ = some (.map (some m2)) ∧ w5.cell? ⟨b, 4, none⟩ = some (.string a.key)) := Lib.hid ⟨K5.out.cell q7 pm2, K5.out.cell q5 tm2, K5.out.cell x4 bm2⟩
  clear hst hF5 hturn
  go_region_held3 (fun v => v.cell? ⟨p, 7, none⟩ = some (.pointer (some ⟨tb, 0, none⟩)) ∧ v.cell? ⟨tb, 5, none⟩ = some (.map (some m2)) ∧ v.cell? ⟨b, 4, none⟩ = some (.string a.key)) (first | with_reducible exact S0.out | with_reducible exact S1.out) (fail)
  clear hst' S0
  go_upto_region 2 with (fail)
  have r7 := S1.out.1
  have y4 := S1.out.2.2
  have y7 : w5.cell? ⟨tb, 7, none⟩ = some (.map (some m4)) := K5.out.cell ((BW.out.cell (p := ⟨tb, 7, none⟩) tl).trans t7) tm2
  have y1 := K5.out.cell x1 bm2
  have y5 := K5.out.cell x5 bm2
  have F4 : Hid (IsF mW w5 m4 N t.la) := Lib.hid (isF_same T1.out.k4 (K5.out.block m4 T1.out.k4.lt (Ne.symm T1.out.ne.2.2.2.2.1)))
  obtain ⟨w6, hst, hF6, hturn⟩ := IsF.store (w := w5.drew) (t := 46) (e := 63) F4.out Try.underlying46 (by show N < maxLen; omega) a.key OK.out (a.key, a.value, a.call == 4)
  have hst' : (Instr.mapUpdate 46 (.map (some m4)) (.string a.key) (.agg #[.string a.key, .string a.value, .bool (a.call == 4)])).run Try.prog w5.drew = .ok () w6 := hst
  have K6 : Hid (Chg (fun j => j = m4) w5 w6) := Lib.hid (((Chg.refl _ w5).drew).on (Chg.grown hturn.grown))
  have F6 : Hid (IsF mW w6 m4 (N + 1) (upd t.la a.key (some (a.key, a.value, a.call == 4)))) := Lib.hid hF6
  have m4l : m4 < w.heap.size := HT.out.k4.lt
  have pm4 : p ≠ m4 := HT.out.k4.isMp.ne_blk H.out.blk
  have bm4 : b ≠ m4 := by omega
  have S2 : Hid (w5.drew.cell? ⟨p, 7, none⟩ = some (.pointer (some ⟨tb, 0, none⟩)) ∧ w5.drew.cell? ⟨tb, 7, none⟩ = some (.map (some m4)) ∧ w5.drew.cell? ⟨b, 4, none⟩ = some (.string a.key) ∧ w5.drew.cell? ⟨b, 5, none⟩ = some (.string a.value) ∧ w5.drew.cell? ⟨b, 1, none⟩ = some (.int .i64 a.call)) := Lib.hid ⟨r7, y7, y4, y5, y1⟩
  have S3 : Hid (w6.cell? ⟨p, 7, none⟩ = some (.pointer (some ⟨tb, 0, none⟩)) ∧ w6.cell? ⟨tb, 7, none⟩ = some (.map (some m4)) ∧ w6.cell? ⟨b, 4, none⟩ = some (.string a.key) ∧ w6.cell? ⟨b, 5, none⟩ = some (.string a.value) ∧ w6.cell? ⟨b, 1, none⟩ = some (.int .i64 a.call)) := Lib.hid ⟨K6.out.cell r7 pm4, K6.out.cell y7 tm4, K6.out.cell y4 bm4, K6.out.cell y5 bm4, K6.out.cell y1 bm4⟩
  clear hst hF6 hturn
  go_region_held3 (fun v => v.cell? ⟨p, 7, none⟩ = some (.pointer (some ⟨tb, 0, none⟩)) ∧ v.cell? ⟨tb, 7, none⟩ = some (.map (some m4)) ∧ v.cell? ⟨b, 4, none⟩ = some (.string a.key) ∧ v.cell? ⟨b, 5, none⟩ = some (.string a.value) ∧ v.cell? ⟨b, 1, none⟩ = some (.int .i64 a.call)) (first | with_reducible exact S2.out | with_reducible exact S3.out) (fail)
  clear hst' S1 S2 S3 r7 y7 y4 y1 y5 q7 q5 x4 x1 x5
  go_wp2_with fail
  have K0 : Chg (fun j => j = m2 ∨ j = m4) w w6 := ((Chg.of BW.out).on (K5.out.more (fun _ _ e => .inl e))).on (K6.out.more (fun _ _ e => .inr e))
  refine bodyPost_end (results_none rfl _ _ _) rfl ?_
  refine ⟨rfl, ?_, K0⟩
  have h := HT.out
  have hn := h.ne
  refine ⟨h.blk.chg K0 (fun e => by rcases e with e | e; exact tm2 e; exact tm4 e), own_same h.gr (fun b hb hv => K0.block b hb (fun e => ?_)), h.grA, (isF_same h.k1 (K0.block _ h.k1.lt (fun e => by rcases e with e | e; exact hn.1 e; exact hn.2.2.1 e))).mono (Nat.le_succ _), isF_same F5.out (K6.out.block _ F5.out.lt hn.2.2.2.2.1), (isF_same h.k3 (K0.block _ h.k3.lt (fun e => by rcases e with e | e; exact hn.2.2.2.1 e.symm; exact hn.2.2.2.2.2 e))).mono (Nat.le_succ _), F6.out, hn, h.inA, h.ksN, ins_nodup h.lsN.1 _, ?_, ?_, ?_⟩
  · rcases e with e | e
    · exact own_ne_map h.gr h.k2.isMp (e ▸ hv)
    · exact own_ne_map h.gr h.k4.isMp (e ▸ hv)
  · intro k hk
    rcases mem_ins.1 hk with hk | rfl
    · exact h.lsN.2.1 k hk
    · exact OK.out
  · intro k
    show k ∈ ins t.ls a.key ↔ (upd t.la a.key _ k).isSome = true
    unfold upd
    rw [mem_ins]
    by_cases e : k = a.key
    · rw [if_pos e]
      simp [e]
    · rw [if_neg e, ← h.lsN.2.2.1 k]
      simp [e]
  · intro k y hy
    have hy : upd t.la a.key _ k = some y := hy
    unfold upd at hy
    split at hy
    · rename_i e
      cases hy
      exact e.symm
    · exact h.lsN.2.2.2 k y hy
end Go.Proofs.Ytpaihfdmjkfegaa.Cl
