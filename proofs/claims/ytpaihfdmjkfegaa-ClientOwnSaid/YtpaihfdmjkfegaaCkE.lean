/- A new client: what its making holds. -/
import Derived.Test.YtpaihfdmjkfegaaCkC
namespace Go.Proofs.Ytpaihfdmjkfegaa.Ck
open Go.RowKit Go.Lib Go.Proofs.Ytpaihfdmjkfegaa.Sta Go.Proofs.Ytpaihfdmjkfegaa.Rd Go.Proofs.Ytpaihfdmjkfegaa.Far

/-- A group's nodes, the nearest first. -/
structure Ent where
  A : Option Addr
  c : Nat
  r : List Nat
def Ent.sl (e : Ent) : Value := .slice e.A e.r.length e.c
def Ent.hd (e : Ent) : Value := .int .i64 (e.r.headD 0 : Nat)
theorem ent_sl_one (L : List Ent) : ∀ u ∈ L.map Ent.sl, u.oneCell' = true := by
  intro u hu
  obtain ⟨x, _, rfl⟩ := List.mem_map.1 hu
  rfl
/-- A block's cells from o on hold these numbers. -/
def RowC (w : World) (O o : Nat) (r : List Nat) : Prop := O < w.heap.size ∧ ∀ i x : Nat, r[i]? = some x → w.cell? ⟨O, o + i, none⟩ = some (.int .i64 (x : Int))
def EntOk (q lo : Nat) (v : World) (e : Ent) : Prop := e.r.Perm (List.range q) ∧ ∃ O o, e.A = some ⟨O, o, none⟩ ∧ lo ≤ O ∧ RowC v O o e.r
def Ent.off (e : Ent) (b : Nat) : Prop := ∀ O o, e.A = some ⟨O, o, none⟩ → O ≠ b

theorem rowC_keep {v v' : World} {O o : Nat} {r : List Nat} (h : RowC v O o r) (hs : v.heap.size ≤ v'.heap.size) (hb : v'.heap[O]? = v.heap[O]?) : RowC v' O o r :=
  ⟨Nat.lt_of_lt_of_le h.1 hs, fun i x hx => (World.cell?_of_block (a := ⟨O, o + i, none⟩) hb).trans (h.2 i x hx)⟩
theorem own_ent {q lo : Nat} {v : World} {A : Option Addr} {c : Nat} {r : List Nat} (hp : r.Perm (List.range q)) (h : ∃ O, A = some ⟨O, 0, none⟩ ∧ lo ≤ O ∧ RowI v O r) : EntOk q lo v ⟨A, c, r⟩ := by
  obtain ⟨O, h1, h2, h3⟩ := h
  exact ⟨hp, O, 0, h1, h2, h3.1, fun i x hx => by rw [Nat.zero_add]; exact (h3.2 i x hx).1⟩
theorem CfgAt.keep {w w' : World} {H : Nat} {G F C : Int} {v3 v4 : Value} {S : Int} (h : CfgAt w H G F C v3 v4 S) (hs : w.heap.size ≤ w'.heap.size) (hb : w'.heap[H]? = w.heap[H]?) : CfgAt w' H G F C v3 v4 S :=
  ⟨Nat.lt_of_lt_of_le h.lt hs, (World.cell?_of_block (a := ⟨H, 0, none⟩) hb).trans h.c0, (World.cell?_of_block (a := ⟨H, 1, none⟩) hb).trans h.c1, (World.cell?_of_block (a := ⟨H, 2, none⟩) hb).trans h.c2, (World.cell?_of_block (a := ⟨H, 3, none⟩) hb).trans h.c3, (World.cell?_of_block (a := ⟨H, 4, none⟩) hb).trans h.c4, (World.cell?_of_block (a := ⟨H, 5, none⟩) hb).trans h.c5⟩
theorem row_off {w w' : World} {base n : Nat} {e : TypeId} {v : Value} {xs : List Value} (h : w.ownsRow base e 1 v n xs) (hb : ∀ b, v.ownBlock = some b → w'.heap[b]? = w.heap[b]?) : w'.ownsRow base e 1 v n xs := by
  refine ⟨h.1, ?_⟩
  rcases h.2 with h0 | ⟨g, c, cur, h1, h2, h3, h4⟩
  · exact .inl h0
  · exact .inr ⟨g, c, cur, h1, h2, (hb g (by rw [h1]; rfl)).trans h3, h4⟩

/-- What the making of a client holds: the client's cells 1, 3 and 4 (nodes, order, guess). -/
structure NewS (w : World) (p H : Nat) (cf : World → Nat → Prop) (q i1 i3 i4 : Nat) (t : TypeId) (vn vc3 vc4 v3 v4 : Value) (k3 k4 : Nat) (xs3 xs4 : List Value) (LE : List Ent) (v : World) : Prop where
  below : Below w.heap.size w v
  hp : w.heap.size ≤ p ∧ p < v.heap.size
  hH : w.heap.size ≤ H ∧ H < v.heap.size
  cfg : cf v H
  n1 : v.cell? ⟨p, i1, none⟩ = some vn
  c3 : v.cell? ⟨p, i3, none⟩ = some vc3
  c4 : v.cell? ⟨p, i4, none⟩ = some vc4
  f3 : v.frozen? ⟨p, i3, none⟩ = false
  f4 : v.frozen? ⟨p, i4, none⟩ = false
  order : v.ownsRow w.heap.size t 1 v3 k3 xs3
  guess : v.ownsRow w.heap.size 3 1 v4 k4 xs4
  a3 : ∀ b, v3.ownBlock = some b → b ≠ p ∧ b ≠ H ∧ v4.ownBlock ≠ some b ∧ ∀ e ∈ LE, e.off b
  a4 : ∀ b, v4.ownBlock = some b → b ≠ p ∧ b ≠ H ∧ ∀ e ∈ LE, e.off b
  aH : ∀ e ∈ LE, e.off p ∧ e.off H
  pH : p ≠ H
  ents : ∀ e ∈ LE, EntOk q w.heap.size v e

/-- A fact of a block that hangs on the block alone. -/
def OfBlock (cf : World → Nat → Prop) : Prop := ∀ (v v' : World) (H : Nat), cf v H → v.heap.size ≤ v'.heap.size → v'.heap[H]? = v.heap[H]? → cf v' H

section
variable {w : World} {p H : Nat} {cf : World → Nat → Prop} {q i1 i3 i4 : Nat} {t : TypeId} {vn vc3 vc4 v3 v4 : Value} {k3 k4 : Nat} {xs3 xs4 : List Value} {LE : List Ent} {v v' : World}
theorem NewS.step (hcf : OfBlock cf) (h : NewS w p H cf q i1 i3 i4 t vn vc3 vc4 v3 v4 k3 k4 xs3 xs4 LE v) (hb : Below v.heap.size v v') : NewS w p H cf q i1 i3 i4 t vn vc3 vc4 v3 v4 k3 k4 xs3 xs4 LE v' := by
  have s := h.below.size
  have b : ∀ k, k < v.heap.size → v'.heap[k]? = v.heap[k]? := hb.block
  exact ⟨h.below.trans (hb.mono s), ⟨h.hp.1, Nat.lt_of_lt_of_le h.hp.2 hb.size⟩, ⟨h.hH.1, Nat.lt_of_lt_of_le h.hH.2 hb.size⟩, hcf _ _ _ h.cfg hb.size (b _ h.hH.2),
    (hb.cell (p := ⟨p, i1, none⟩) h.hp.2).trans h.n1, (hb.cell (p := ⟨p, i3, none⟩) h.hp.2).trans h.c3, (hb.cell (p := ⟨p, i4, none⟩) h.hp.2).trans h.c4,
    (hb.frozen (p := ⟨p, i3, none⟩) h.hp.2).trans h.f3, (hb.frozen (p := ⟨p, i4, none⟩) h.hp.2).trans h.f4, own_below h.order hb, own_below h.guess hb, h.a3, h.a4, h.aH, h.pH,
    fun e he => ⟨(h.ents e he).1, by obtain ⟨O, o, h1, h2, h3⟩ := (h.ents e he).2; exact ⟨O, o, h1, h2, rowC_keep h3 hb.size (b O h3.1)⟩⟩⟩
theorem NewS.add (hcf : OfBlock cf) (h : NewS w p H cf q i1 i3 i4 t vn vc3 vc4 v3 v4 k3 k4 xs3 xs4 LE v) (hb : Below v.heap.size v v') {e : Ent} (he : EntOk q v.heap.size v' e) : NewS w p H cf q i1 i3 i4 t vn vc3 vc4 v3 v4 k3 k4 xs3 xs4 (e :: LE) v' := by
  have h' := h.step hcf hb
  obtain ⟨hperm, O, o, eA, hO, hI⟩ := he
  have off : ∀ b, b < v.heap.size → e.off b := fun b hb O' o' e' => by
    rw [eA] at e'
    cases e'
    omega
  refine ⟨h'.below, h'.hp, h'.hH, h'.cfg, h'.n1, h'.c3, h'.c4, h'.f3, h'.f4, h'.order, h'.guess, fun b hb => ?_, fun b hb => ?_, fun x hx => ?_, h'.pH, fun x hx => ?_⟩
  · obtain ⟨q1, q2, q3, q4⟩ := h.a3 b hb
    refine ⟨q1, q2, q3, fun x hx => ?_⟩
    rcases List.mem_cons.1 hx with rfl | hx
    · exact off b (World.ownsRow.lt h.order b hb).2
    · exact q4 x hx
  · obtain ⟨q1, q2, q4⟩ := h.a4 b hb
    refine ⟨q1, q2, fun x hx => ?_⟩
    rcases List.mem_cons.1 hx with rfl | hx
    · exact off b (World.ownsRow.lt h.guess b hb).2
    · exact q4 x hx
  · rcases List.mem_cons.1 hx with rfl | hx
    · exact ⟨off p h.hp.2, off H h.hH.2⟩
    · exact h.aH x hx
  · rcases List.mem_cons.1 hx with rfl | hx
    · exact ⟨hperm, O, o, eA, by have := h.below.size; omega, hI⟩
    · exact h'.ents x hx
theorem NewS.orderTo (hcf : OfBlock cf) (h : NewS w p H cf q i1 i3 i4 t vn vc3 vc4 v3 v4 k3 k4 xs3 xs4 LE v) (hg : v.grownBy v' v3.ownBlock) {v3' : Value} {k3' : Nat} {xs3' : List Value} (ho : v'.ownsRow w.heap.size t 1 v3' k3' xs3') (hat : v3'.ownBlock = v3.ownBlock ∨ v3'.ownBlock = some v.heap.size) :
    NewS w p H cf q i1 i3 i4 t vn vc3 vc4 v3' v4 k3' k4 xs3' xs4 LE v' := by
  have blk : ∀ k, k < v.heap.size → (∀ b, v3.ownBlock = some b → k ≠ b) → v'.heap[k]? = v.heap[k]? := fun k hk hne => hg.block k hk (fun e => hne k e.symm rfl)
  have bp := blk p h.hp.2 (fun b hb => ((h.a3 b hb).1).symm)
  have bH := blk H h.hH.2 (fun b hb => ((h.a3 b hb).2.1).symm)
  have bO : ∀ e ∈ LE, ∀ O o, e.A = some ⟨O, o, none⟩ → O < v.heap.size → v'.heap[O]? = v.heap[O]? := fun e he O o eA hO => blk O hO (fun b hb => (h.a3 b hb).2.2.2 e he O o eA)
  refine ⟨h.below.grown hg h.below.size (fun k hk => (World.ownsRow.lt h.order k hk).1), ⟨h.hp.1, Nat.lt_of_lt_of_le h.hp.2 hg.size⟩, ⟨h.hH.1, Nat.lt_of_lt_of_le h.hH.2 hg.size⟩, hcf _ _ _ h.cfg hg.size bH,
    (World.cell?_of_block (a := ⟨p, i1, none⟩) bp).trans h.n1, (World.cell?_of_block (a := ⟨p, i3, none⟩) bp).trans h.c3, (World.cell?_of_block (a := ⟨p, i4, none⟩) bp).trans h.c4,
    (World.frozen?_of_block (a := ⟨p, i3, none⟩) bp).trans h.f3, (World.frozen?_of_block (a := ⟨p, i4, none⟩) bp).trans h.f4, ho, row_off h.guess (fun b hb => blk b (World.ownsRow.lt h.guess b hb).2 (fun b' hb' e => (h.a3 b' hb').2.2.1 (e ▸ hb))), fun b hb => ?_, h.a4, h.aH, h.pH, fun e he => ?_⟩
  · rcases hat with e | e <;> rw [e] at hb
    · exact h.a3 b hb
    · cases hb
      refine ⟨by have := h.hp.2; omega, by have := h.hH.2; omega, fun e4 => by have := (World.ownsRow.lt h.guess _ e4).2; omega, fun x hx O o eA => ?_⟩
      obtain ⟨_, O', o', eA', _, hI⟩ := h.ents x hx
      rw [eA] at eA'
      cases eA'
      have := hI.1
      omega
  · obtain ⟨h1, O, o, eA, h2, hI⟩ := h.ents e he
    exact ⟨h1, O, o, eA, h2, rowC_keep hI hg.size (bO e he O o eA hI.1)⟩
theorem NewS.guessTo (hcf : OfBlock cf) (h : NewS w p H cf q i1 i3 i4 t vn vc3 vc4 v3 v4 k3 k4 xs3 xs4 LE v) (hg : v.grownBy v' v4.ownBlock) {v4' : Value} {k4' : Nat} {xs4' : List Value} (ho : v'.ownsRow w.heap.size 3 1 v4' k4' xs4') (hat : v4'.ownBlock = v4.ownBlock ∨ v4'.ownBlock = some v.heap.size) :
    NewS w p H cf q i1 i3 i4 t vn vc3 vc4 v3 v4' k3 k4' xs3 xs4' LE v' := by
  have blk : ∀ k, k < v.heap.size → (∀ b, v4.ownBlock = some b → k ≠ b) → v'.heap[k]? = v.heap[k]? := fun k hk hne => hg.block k hk (fun e => hne k e.symm rfl)
  have bp := blk p h.hp.2 (fun b hb => ((h.a4 b hb).1).symm)
  have bH := blk H h.hH.2 (fun b hb => ((h.a4 b hb).2.1).symm)
  have bO : ∀ e ∈ LE, ∀ O o, e.A = some ⟨O, o, none⟩ → O < v.heap.size → v'.heap[O]? = v.heap[O]? := fun e he O o eA hO => blk O hO (fun b hb => (h.a4 b hb).2.2 e he O o eA)
  refine ⟨h.below.grown hg h.below.size (fun k hk => (World.ownsRow.lt h.guess k hk).1), ⟨h.hp.1, Nat.lt_of_lt_of_le h.hp.2 hg.size⟩, ⟨h.hH.1, Nat.lt_of_lt_of_le h.hH.2 hg.size⟩, hcf _ _ _ h.cfg hg.size bH,
    (World.cell?_of_block (a := ⟨p, i1, none⟩) bp).trans h.n1, (World.cell?_of_block (a := ⟨p, i3, none⟩) bp).trans h.c3, (World.cell?_of_block (a := ⟨p, i4, none⟩) bp).trans h.c4,
    (World.frozen?_of_block (a := ⟨p, i3, none⟩) bp).trans h.f3, (World.frozen?_of_block (a := ⟨p, i4, none⟩) bp).trans h.f4, row_off h.order (fun b hb => blk b (World.ownsRow.lt h.order b hb).2 (fun b' hb' e => (h.a3 b hb).2.2.1 (e ▸ hb'))), ho, fun b hb => ?_, fun b hb => ?_, h.aH, h.pH, fun e he => ?_⟩
  · obtain ⟨q1, q2, q3, q4⟩ := h.a3 b hb
    refine ⟨q1, q2, fun e4 => ?_, q4⟩
    rcases hat with e | e <;> rw [e] at e4
    · exact q3 e4
    · cases e4
      have := (World.ownsRow.lt h.order _ hb).2
      omega
  · rcases hat with e | e <;> rw [e] at hb
    · exact h.a4 b hb
    · cases hb
      refine ⟨by have := h.hp.2; omega, by have := h.hH.2; omega, fun x hx O o eA => ?_⟩
      obtain ⟨_, O', o', eA', _, hI⟩ := h.ents x hx
      rw [eA] at eA'
      cases eA'
      have := hI.1
      omega
  · obtain ⟨h1, O, o, eA, h2, hI⟩ := h.ents e he
    exact ⟨h1, O, o, eA, h2, rowC_keep hI hg.size (bO e he O o eA hI.1)⟩
theorem NewS.set (hcf : OfBlock cf) (h : NewS w p H cf q i1 i3 i4 t vn vc3 vc4 v3 v4 k3 k4 xs3 xs4 LE v) (i : Nat) (u : Value) (hi : i ≠ i1) :
    NewS w p H cf q i1 i3 i4 t vn (if i = i3 then u else vc3) (if i = i4 then u else vc4) v3 v4 k3 k4 xs3 xs4 LE (v.setCell ⟨p, i, none⟩ u) := by
  have hs : (v.setCell ⟨p, i, none⟩ u).heap.size = v.heap.size := by simp
  have blk : ∀ k, k ≠ p → (v.setCell ⟨p, i, none⟩ u).heap[k]? = v.heap[k]? := fun k hk => Below.heap_setCell v ⟨p, i, none⟩ u k hk
  have oth : ∀ j, j ≠ i → (v.setCell ⟨p, i, none⟩ u).cell? ⟨p, j, none⟩ = v.cell? ⟨p, j, none⟩ := fun j hj => World.cell?_setCell_other _ _ _ _ (by intro e; simp only [Addr.mk.injEq] at e; exact hj e.2.1.symm)
  refine ⟨h.below.setCell (p := ⟨p, i, none⟩) h.hp.1 u, ⟨h.hp.1, by rw [hs]; exact h.hp.2⟩, ⟨h.hH.1, by rw [hs]; exact h.hH.2⟩, hcf _ _ _ h.cfg (Nat.le_of_eq hs.symm) (blk H (fun e => h.pH e.symm)), (oth i1 hi.symm).trans h.n1, ?_, ?_, by rw [World.frozen?_setCell]; exact h.f3, by rw [World.frozen?_setCell]; exact h.f4,
    row_off h.order (fun b hb => blk b (h.a3 b hb).1), row_off h.guess (fun b hb => blk b (h.a4 b hb).1), h.a3, h.a4, h.aH, h.pH, fun e he => ?_⟩
  · by_cases e : i = i3
    · rw [if_pos e, e]
      exact World.cell?_setCell_same _ _ _ h.c3
    · rw [if_neg e, oth i3 (fun x => e x.symm)]
      exact h.c3
  · by_cases e : i = i4
    · rw [if_pos e, e]
      exact World.cell?_setCell_same _ _ _ h.c4
    · rw [if_neg e, oth i4 (fun x => e x.symm)]
      exact h.c4
  · obtain ⟨h1, O, o, eA, h2, hI⟩ := h.ents e he
    exact ⟨h1, O, o, eA, h2, rowC_keep hI (Nat.le_of_eq hs.symm) (blk O ((h.aH e he).1 O o eA))⟩
end
end Go.Proofs.Ytpaihfdmjkfegaa.Ck
