/- slices.Index, Poke: walked. -/
import Derived.Test.YtpaihfdmjkfegaaCpC
import Derived.Test.YtpaihfdmjkfegaaCpE
import Derived.Deep.CutRange
namespace Go.Proofs.Ytpaihfdmjkfegaa.Cl
open Go.RowKit Go.Lib Go.Proofs.Ytpaihfdmjkfegaa.Msg Go.Proofs.Ytpaihfdmjkfegaa.Cls Go.Proofs.Ytpaihfdmjkfegaa.Ck

set_option maxRecDepth 100000 in
set_option maxHeartbeats 2000000 in
theorem index_any (r : List Nat) (O o cap : Nat) (x j : Nat) (w : World) (hr : RowC w O o r) (hj : r[j]? = some x) (h0 : ∀ i, i < j → r[i]? ≠ some x) (hl : r.length ≤ 1000) :
    Calls Try.prog 29 #[.slice (some ⟨O, o, none⟩) r.length cap, .int .i64 (x : Int)] w fun e w' => e = .returned (.int .i64 (j : Int)) ∧ w' = w := by
  have HR := Lib.hid hr
  have HJ := Lib.hid hj
  have H0 := Lib.hid h0
  obtain ⟨n, hn⟩ : ∃ n, n = r.length := ⟨_, rfl⟩
  have HN := Lib.hid hn
  have jn : j < n := by rw [hn]; exact (List.getElem?_eq_some_iff.1 hj).1
  rw [← hn] at hl ⊢
  clear hr hj h0 hn
  go_enter Try.func29, Try.ntmps29
  go_wp2_with fail
  go_loopg [8] n (fun gk v8 wr => ∃ i : Nat, n - i = gk ∧ i ≤ j ∧ v8 = .int .i64 i ∧ wr = w)
  case atStart => exact ⟨0, rfl, by omega, rfl, rfl⟩
  case round =>
    obtain ⟨i, hg, hi, rfl, rfl⟩ := hrel
    have hlt : (i : Int) < (n : Int) := by omega
    have hin : i < n := by omega
    obtain ⟨y, hy⟩ : ∃ y, r[i]? = some y := ⟨_, List.getElem?_eq_getElem (by rw [← HN.out]; exact hin)⟩
    have cx : wr.cell? ⟨O, o + i, none⟩ = some (.int .i64 (y : Int)) := HR.out.2 i y hy
    have HY := Lib.hid hy
    clear hy
    by_cases e : i = j
    · subst e
      have hxy : y = x := by have h1 := HY.out; have h2 := HJ.out; rw [h1] at h2; exact Option.some.inj h2
      subst hxy
      as_aux_lemma =>
      go_wp2_with fail
      exact bodyPost_ret (v := .int .i64 (i : Int)) (by simp [results, Try.results29, go_sem]) rfl ⟨rfl, rfl⟩
    · have hne : ¬ x = y := fun e' => H0.out i (by omega) (e' ▸ HY.out)
      have hne' : ¬ (x : Int) = (y : Int) := by omega
      clear hne
      as_aux_lemma =>
      go_wp2_with fail
      go_roundg (n - (i + 1))
      case measure => omega
      case rel => exact ⟨i + 1, rfl, by omega, by go_num, rfl⟩

attribute [local go_sem ↓] loadMsg_eq storeMsg_eq buildMsg_eq
attribute [local go_sem] run_loadMsg run_storeMsg run_buildMsg

theorem CliAt.row {lo : Nat} {v : World} {p : Nat} {c : Client} {ob oc gb gc g q : Nat} {L : List Ent} {gs : List Nat} {sp : List ByteArray} (h : CliAt lo v p c ob oc gb gc g q L gs sp) {k : Nat} (hk : k < g) : ∃ O o, (∃ e, L[k]? = some e ∧ v.cell? ⟨ob, k, none⟩ = some (.slice (some ⟨O, o, none⟩) q e.c) ∧ e.r.length = q ∧ e.r.Perm (List.range q) ∧ RowC v O o e.r) := by
  obtain ⟨e, he⟩ : ∃ e, L[k]? = some e := ⟨_, List.getElem?_eq_getElem (by rw [h.lenL]; exact hk)⟩
  obtain ⟨⟨hp, O, o, eA, hO, hI⟩, _⟩ := h.ents e (List.mem_of_getElem? he)
  obtain ⟨cur, h1, h2⟩ := h.order
  have hq : e.r.length = q := by rw [hp.length_eq, List.length_range]
  refine ⟨O, o, e, he, ?_, hq, hp, hI⟩
  rw [h1.cell, h2 k e he]
  unfold Ent.sl
  rw [eA, hq]
theorem CliAt.node {lo : Nat} {v : World} {p : Nat} {c : Client} {ob oc gb gc g q : Nat} {L : List Ent} {gs : List Nat} {sp : List ByteArray} (h : CliAt lo v p c ob oc gb gc g q L gs sp) {k x : Nat} (hx : gs[k]? = some x) : v.cell? ⟨gb, k, none⟩ = some (.int .i64 (x : Int)) := by
  obtain ⟨cur, h1, h2⟩ := h.guess
  rw [h1.cell, h2 k x hx]
/-- A guess is set anew. -/
theorem CliAt.aim {lo : Nat} {v : World} {p : Nat} {c : Client} {ob oc gb gc g q : Nat} {L : List Ent} {gs : List Nat} {sp : List ByteArray} (h : CliAt lo v p c ob oc gb gc g q L gs sp) (k y : Nat) (hk : k < g) :
    CliAt lo (v.setCell ⟨gb, k, none⟩ (.int .i64 (y : Int))) p c ob oc gb gc g q L (gs.set k y) sp := by
  have K : Chg (fun b => b = p ∨ b = gb) v (v.setCell ⟨gb, k, none⟩ (.int .i64 (y : Int))) := (Chg.refl _ v).set (p := ⟨gb, k, none⟩) (.inr (.inr rfl)) _
  refine h.to K ⟨h.cl.blk.far (p := ⟨gb, k, none⟩) h.pg _, h.cl.msg⟩ rfl rfl rfl (by rw [List.length_set]; exact h.lenG) ?_
  obtain ⟨cur, h1, h2⟩ := h.guess
  refine ⟨_, h1.set_ k _, fun i x hx => ?_⟩
  rw [Array.getElem?_setIfInBounds]
  rw [List.getElem?_set] at hx
  by_cases e : k = i
  · subst e
    have hl := h.lenG
    rw [if_pos rfl, if_pos (by omega)] at hx
    cases hx
    rw [if_pos rfl, if_pos]
    obtain ⟨z, hz⟩ : ∃ z, gs[k]? = some z := ⟨_, List.getElem?_eq_getElem (by omega)⟩
    exact (Array.getElem?_eq_some_iff.1 (h2 k z hz)).1
  · rw [if_neg e] at hx ⊢
    exact h2 i x hx
/-- A cell of the client is set anew. -/
theorem CliAt.put {lo : Nat} {v : World} {p : Nat} {c c' : Client} {ob oc gb gc g q : Nat} {L : List Ent} {gs : List Nat} {sp : List ByteArray} (h : CliAt lo v p c ob oc gb gc g q L gs sp) (i : Nat) (u : Value) (hi : i < 11) (hm : c'.M = c.M) (ha : c'.act = c.act) (hh : c'.hd = c.hd.setIfInBounds i u) (ho : c'.vo = c.vo) (hg : c'.vg = c.vg) (hD : c'.D = c.D) :
    CliAt lo (v.setCell ⟨p, i, none⟩ u) p c' ob oc gb gc g q L gs sp := by
  have K : Chg (fun b => b = p ∨ b = gb) v (v.setCell ⟨p, i, none⟩ u) := (Chg.refl _ v).set (p := ⟨p, i, none⟩) (.inr (.inl rfl)) _
  refine h.to K (h.cl.put i u hi hm ha hh) ho hg hD h.lenG ?_
  obtain ⟨cur, h1, h2⟩ := h.guess
  exact ⟨cur, h1.far (p := ⟨p, i, none⟩) h.pg.symm _, h2⟩

/-- The next node of a row. -/
def nextOf (r : List Nat) (x : Nat) : Nat := r[(r.idxOf x + 1) % r.length]?.getD 0

set_option maxRecDepth 100000 in
set_option maxHeartbeats 2000000 in
theorem poke_hint (lo p : Nat) (c : Client) (ob oc gb gc g q : Nat) (L : List Ent) (gs : List Nat) (sp : List ByteArray) (k x : Nat) (w : World) (h : CliAt lo w p c ob oc gb gc g q L gs sp) (hw : c.waits = true) (hh : c.hinted = true) (hk : c.grp = (k : Int)) (hkg : k < g) (hx : gs[k]? = some x)
    (h18 : c.M[18]? = some (.slice none 0 0)) (h19 : c.M[19]? = some (.slice none 0 0)) :
    Calls Try.prog 18 #[.pointer (some ⟨p, 0, none⟩)] w fun e w' => ∃ b, e = .returned (.slice (some ⟨b, 0, none⟩) 1 1) ∧ w.heap.size ≤ b ∧ Blk w' b 55 (aimedM c.M k x) ∧ CliAt lo w' p { c with hinted := false } ob oc gb gc g q L gs sp ∧ Chg (fun b => b = p ∨ b = gb) w w' := by
  have H := Lib.hid h
  have H18 := Lib.hid h18
  have H19 := Lib.hid h19
  have HX := Lib.hid hx
  have c8 := h.cl.waits
  have c9 := h.cl.hinted
  have f9 := h.cl.frz 9
  rw [hw] at c8
  rw [hh] at c9
  clear h h18 h19 hx hw
  go_enter Try.func18, Try.ntmps18
  go_upto_region 8 with (fail)
  refine world_out (fun W hW => ?_)
  have C1 : Hid (CliAt lo W p { c with hinted := false } ob oc gb gc g q L gs sp) := Lib.hid (by rw [hW]; exact H.out.put 9 _ (by decide) rfl rfl rfl rfl rfl rfl)
  have K1 : Hid (Chg (fun b => b = p ∨ b = gb) w W) := Lib.hid (by rw [hW]; exact (Chg.refl _ w).set (p := ⟨p, 9, none⟩) (.inr (.inl rfl)) _)
  clear hW c8 c9 f9
  go_wp2_with fail
  refine (aimed_any p _ gb 0 g gc k x W C1.out.cl (C1.out.vg) hk hkg (by rw [Nat.zero_add]; exact C1.out.node HX.out) H18.out H19.out).mono ?_
  rintro e w2 ⟨rfl, hb⟩
  have mc : MsgC (aimedM c.M k x) := msgC_set (msgC_set H.out.cl.msg 3 rfl) 4 rfl
  have B2 := Lib.hid hb
  clear hb
  go_wp2_with fail
  go_ret
  exact ⟨w2.heap.size, rfl, Nat.le_trans K1.out.size B2.out.size, Blk.new _ _ _, (C1.out.keep B2.out).keep ((Below.refl _ _).alloc (Nat.le_refl _) _), (K1.out.then B2.out).alloc _⟩

theorem idx_facts {r : List Nat} {x q : Nat} (hp : r.Perm (List.range q)) (hx : x < q) : ∃ j, j < q ∧ r[j]? = some x ∧ (∀ i, i < j → r[i]? ≠ some x) ∧ r.idxOf x = j ∧ r.length = q := by
  have hl : r.length = q := by rw [hp.length_eq, List.length_range]
  have hm : x ∈ r := hp.mem_iff.2 (List.mem_range.2 hx)
  have hj : r.idxOf x < r.length := List.idxOf_lt_length_of_mem hm
  refine ⟨r.idxOf x, by omega, ?_, fun i hi e => ?_, rfl, hl⟩
  · rw [List.getElem?_eq_getElem hj, List.getElem_idxOf]
  · have hil : i < r.length := by omega
    rw [List.getElem?_eq_getElem hil] at e
    have := List.not_of_lt_findIdx (p := (· == x)) (xs := r) (i := i) hi
    simp at this
    exact this (Option.some.inj e)

set_option maxRecDepth 100000 in
set_option maxHeartbeats 2000000 in
theorem poke_next (lo p : Nat) (c : Client) (ob oc gb gc g q : Nat) (L : List Ent) (gs : List Nat) (sp : List ByteArray) (k x : Nat) (e : Ent) (w : World) (h : CliAt lo w p c ob oc gb gc g q L gs sp) (hw : c.waits = true) (hh : c.hinted = false) (hk : c.grp = (k : Int)) (hkg : k < g) (hg8 : g ≤ 8) (hq : 1 ≤ q ∧ q ≤ 5) (hx : gs[k]? = some x) (hxq : x < q) (he : L[k]? = some e)
    (h18 : c.M[18]? = some (.slice none 0 0)) (h19 : c.M[19]? = some (.slice none 0 0)) :
    Calls Try.prog 18 #[.pointer (some ⟨p, 0, none⟩)] w fun en w' => ∃ b, en = .returned (.slice (some ⟨b, 0, none⟩) 1 1) ∧ w.heap.size ≤ b ∧ Blk w' b 55 (aimedM c.M k (nextOf e.r x : Nat)) ∧ CliAt lo w' p { c with hinted := false } ob oc gb gc g q L (gs.set k (nextOf e.r x)) sp ∧ Chg (fun b => b = p ∨ b = gb) w w' := by
  obtain ⟨O, o, e', he', cO, hrl, hperm, hI⟩ := h.row hkg
  rw [he] at he'
  cases he'
  have HE := Lib.hid he
  have EA : Hid (e.A = some ⟨O, o, none⟩) := Lib.hid (by
    obtain ⟨cur, q1, q2⟩ := h.order
    rw [q1.cell, q2 k e he] at cO
    unfold Ent.sl at cO
    injection cO with cO
    injection cO)
  obtain ⟨j, hj, hjx, hj0, hidx, hlen⟩ := idx_facts hperm hxq
  clear hlen
  obtain ⟨y, hy⟩ : ∃ y, e.r[(j + 1) % q]? = some y := ⟨_, List.getElem?_eq_getElem (by rw [hrl]; exact Nat.mod_lt _ (by omega))⟩
  have hny : nextOf e.r x = y := by unfold nextOf; rw [hidx, hrl, hy]; rfl
  rw [hny]
  have IX := Lib.hid (fun (v : World) (hv : RowC v O o e.r) => index_any e.r O o e.c x j v hv hjx hj0 (by omega))
  rw [hrl] at IX
  have HI := Lib.hid hI
  have H := Lib.hid h
  have H18 := Lib.hid h18
  have H19 := Lib.hid h19
  have c8 := h.cl.waits
  have c9 := h.cl.hinted
  have c3 := h.cl.vo
  have c4 := h.cl.vg
  have c10 := h.cl.grp
  rw [h.vo] at c3
  rw [h.vg] at c4
  rw [hw] at c8
  rw [hh] at c9
  rw [hk] at c10
  have cG := h.node hx
  obtain ⟨t, ht⟩ : ∃ t, t = (j + 1) % q := ⟨_, rfl⟩
  have tq : t < q := by rw [ht]; exact Nat.mod_lt _ (by omega)
  have w2 : Int.tmod ((j : Int) + 1) (q : Int) = (t : Int) := by
    rw [Int.tmod_eq_emod_of_nonneg (by omega), ht, Int.natCast_emod]
    rfl
  have m1 : (t : Int) < (q : Int) := by omega
  have w3 : IntKind.i64.wrap (t : Int) = (t : Int) := IntWalk.i64_in _ (by omega)
  have w1 : IntKind.i64.wrap ((j : Int) + 1) = (j : Int) + 1 := IntWalk.i64_in _ (by omega)
  rw [← ht] at hy
  clear ht
  have cY : w.cell? ⟨O, o + t, none⟩ = some (.int .i64 (y : Int)) := hI.2 _ y hy
  have kg : (k : Int) < (g : Int) := by omega
  have hj5 : j + 1 ≤ 5 := by omega
  have q0 : ¬ (q : Int) = 0 := by omega
  have q1 : ¬ q = 0 := by omega
  have HY := Lib.hid hy
  clear h h18 h19 hx hw hh he hy hny hidx hj0 hjx hperm hrl hI
  go_enter Try.func18, Try.ntmps18
  go_upto_region 4 with (fail)
  go_quiet (fail)
  go_upto_region 5 with (fail)
  refine world_out (fun W hW => ?_)
  have K0 : Hid (Below w.heap.size w W) := Lib.hid (by rw [hW]; exact below_drewN (Below.refl _ _) _)
  have C0 := Lib.hid (H.out.keep K0.out)
  have h4 : W.cell? ⟨p, 4, none⟩ = some (.slice (some ⟨gb, 0, none⟩) g gc) := by rw [hW]; exact c4
  have h10 : W.cell? ⟨p, 10, none⟩ = some (.int .i64 (k : Int)) := by rw [hW]; exact c10
  have hG : W.cell? ⟨gb, k, none⟩ = some (.int .i64 (x : Int)) := by rw [hW]; exact cG
  have hY : W.cell? ⟨O, o + t, none⟩ = some (.int .i64 (y : Int)) := by rw [hW]; exact cY
  have hI : Hid (RowC W O o e.r) := by rw [hW]; exact HI
  have gb1 : gb ≠ p := H.out.pg.symm
  clear hW c3 c4 c8 c9 c10 cO cG cY HI
  go_quiet ((go_at_call 29; exact Calls.quiet_of_same (IX.out _ hI.out)))
  go_upto_region 6 with (fail)
  refine world_out (fun V hV => ?_)
  have K1 : Hid (Below w.heap.size w V) := Lib.hid (by rw [hV]; exact below_drewN K0.out _)
  have C1 := Lib.hid (H.out.keep K1.out)
  have v4 : V.cell? ⟨p, 4, none⟩ = some (.slice (some ⟨gb, 0, none⟩) g gc) := by rw [hV]; exact h4
  have v10 : V.cell? ⟨p, 10, none⟩ = some (.int .i64 (k : Int)) := by rw [hV]; exact h10
  have vG : V.cell? ⟨gb, k, none⟩ = some (.int .i64 (x : Int)) := by rw [hV]; exact hG
  have vY : V.cell? ⟨O, o + t, none⟩ = some (.int .i64 (y : Int)) := by rw [hV]; exact hY
  have fG : V.frozen? ⟨gb, k, none⟩ = false := by obtain ⟨cur, q1, _⟩ := C1.out.guess; exact q1.frozen k
  clear hV h4 h10 hG hY hI K0 C0
  have S1 : Hid (V.cell? ⟨p, 4, none⟩ = some (.slice (some ⟨gb, 0, none⟩) g gc) ∧ V.cell? ⟨p, 10, none⟩ = some (.int .i64 (k : Int)) ∧ V.cell? ⟨O, o + t, none⟩ = some (.int .i64 (y : Int))) := Lib.hid ⟨v4, v10, vY⟩
  have hOg : O ≠ gb := by
    obtain ⟨_, O', o', e', _, _⟩ := (C1.out.ents e (List.mem_of_getElem? HE.out)).1
    have := (C1.out.ents e (List.mem_of_getElem? HE.out)).2.2
    exact this O o EA.out
  have S2 : Hid ((V.setCell ⟨gb, k, none⟩ (.int .i64 (y : Int))).cell? ⟨p, 4, none⟩ = some (.slice (some ⟨gb, 0, none⟩) g gc) ∧ (V.setCell ⟨gb, k, none⟩ (.int .i64 (y : Int))).cell? ⟨p, 10, none⟩ = some (.int .i64 (k : Int)) ∧ (V.setCell ⟨gb, k, none⟩ (.int .i64 (y : Int))).cell? ⟨O, o + t, none⟩ = some (.int .i64 (y : Int))) := Lib.hid (by
    refine ⟨?_, ?_, ?_⟩
    · rw [World.cell?_setCell_other _ _ _ _ (fun e => by injection e; omega)]; exact v4
    · rw [World.cell?_setCell_other _ _ _ _ (fun e => by injection e; omega)]; exact v10
    · rw [World.cell?_setCell_other _ _ _ _ (fun e => by injection e; omega)]; exact vY)
  go_region_held3 (fun v => v.cell? ⟨p, 4, none⟩ = some (.slice (some ⟨gb, 0, none⟩) g gc) ∧ v.cell? ⟨p, 10, none⟩ = some (.int .i64 (k : Int)) ∧ v.cell? ⟨O, o + t, none⟩ = some (.int .i64 (y : Int))) (first | exact S1.out | exact S2.out) (fail)
  go_upto_region 7 with (fail)
  refine world_out (fun V2 hV2 => ?_)
  have D1 : Hid (CliAt lo V2 p c ob oc gb gc g q L (gs.set k y) sp) := Lib.hid (by rw [hV2]; exact (C1.out.aim k y hkg).keep ((Below.refl _ _).drew))
  have K2 : Hid (Chg (fun b => b = p ∨ b = gb) w V2) := Lib.hid (by rw [hV2]; exact ((Chg.of K1.out).set (p := ⟨gb, k, none⟩) (.inr (.inr rfl)) _).drew)
  have n9 : V2.cell? ⟨p, 9, none⟩ = some (.bool c.hinted) := D1.out.cl.hinted
  have f9 := D1.out.cl.frz 9
  have GY : Hid ((gs.set k y)[k]? = some y) := Lib.hid (by
    have := H.out.lenG
    rw [List.getElem?_set, if_pos rfl, if_pos (by omega)])
  clear hV2 S1 S2 v4 v10 vG vY fG C1 K1
  go_upto_region 8 with (fail)
  refine world_out (fun W hW => ?_)
  have C1 : Hid (CliAt lo W p { c with hinted := false } ob oc gb gc g q L (gs.set k y) sp) := Lib.hid (by rw [hW]; exact D1.out.put 9 _ (by decide) rfl rfl rfl rfl rfl rfl)
  have K1 : Hid (Chg (fun b => b = p ∨ b = gb) w W) := Lib.hid (by rw [hW]; exact K2.out.set (p := ⟨p, 9, none⟩) (.inr (.inl rfl)) _)
  clear hW n9 f9
  go_wp2_with fail
  refine (aimed_any p _ gb 0 g gc k y W C1.out.cl (C1.out.vg) hk hkg (by rw [Nat.zero_add]; exact C1.out.node GY.out) H18.out H19.out).mono ?_
  rintro e w2 ⟨rfl, hb⟩
  have mc : MsgC (aimedM c.M k y) := msgC_set (msgC_set H.out.cl.msg 3 rfl) 4 rfl
  have B2 := Lib.hid hb
  clear hb
  go_wp2_with fail
  go_ret
  exact ⟨w2.heap.size, rfl, Nat.le_trans K1.out.size B2.out.size, Blk.new _ _ _, (C1.out.keep B2.out).keep ((Below.refl _ _).alloc (Nat.le_refl _) _), (K1.out.then B2.out).alloc _⟩
end Go.Proofs.Ytpaihfdmjkfegaa.Cl
