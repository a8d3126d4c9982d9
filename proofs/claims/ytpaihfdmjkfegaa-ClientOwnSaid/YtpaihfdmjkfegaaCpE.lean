/- A new client: what its making holds, all cells; a client that is whole. -/
import Derived.Test.YtpaihfdmjkfegaaCpB
import Derived.Test.YtpaihfdmjkfegaaCkF
namespace Go.Proofs.Ytpaihfdmjkfegaa.Cl
open Go.RowKit Go.Lib Go.Proofs.Ytpaihfdmjkfegaa.Ck Go.Proofs.Ytpaihfdmjkfegaa.Msg

/-- What the making of a client holds, with all its cells. -/
structure NewT (u : World) (rc : Array Value) (w : World) (p H : Nat) (cf : World → Nat → Prop) (q i1 i3 i4 : Nat) (t : TypeId) (vn vc3 vc4 v3 v4 : Value) (k3 k4 : Nat) (xs3 xs4 : List Value) (LE : List Ent) (v : World) : Prop
    extends NewS w p H cf q i1 i3 i4 t vn vc3 vc4 v3 v4 k3 k4 xs3 xs4 LE v where
  old : ∀ k, k < p → v.heap[k]? = u.heap[k]?
  rest : ∃ cs, Blk v p 79 cs ∧ cs.size = rc.size ∧ ∀ i, i ≠ i3 → i ≠ i4 → cs[i]? = rc[i]?
  g3 : ∀ b, v3.ownBlock = some b → p < b
  g4 : ∀ b, v4.ownBlock = some b → p < b
section
variable {u : World} {rc : Array Value} {w : World} {p H : Nat} {cf : World → Nat → Prop} {q i1 i3 i4 : Nat} {t : TypeId} {vn vc3 vc4 v3 v4 : Value} {k3 k4 : Nat} {xs3 xs4 : List Value} {LE : List Ent} {v v' : World}
theorem NewT.step (hcf : OfBlock cf) (h : NewT u rc w p H cf q i1 i3 i4 t vn vc3 vc4 v3 v4 k3 k4 xs3 xs4 LE v) (hb : Below v.heap.size v v') : NewT u rc w p H cf q i1 i3 i4 t vn vc3 vc4 v3 v4 k3 k4 xs3 xs4 LE v' :=
  ⟨h.toNewS.step hcf hb, fun k hk => (hb.block k (Nat.lt_trans hk h.hp.2)).trans (h.old k hk), by obtain ⟨cs, h1, h2⟩ := h.rest; exact ⟨cs, h1.below hb h1.lt, h2⟩, h.g3, h.g4⟩
theorem NewT.add (hcf : OfBlock cf) (h : NewT u rc w p H cf q i1 i3 i4 t vn vc3 vc4 v3 v4 k3 k4 xs3 xs4 LE v) (hb : Below v.heap.size v v') {e : Ent} (he : EntOk q v.heap.size v' e) : NewT u rc w p H cf q i1 i3 i4 t vn vc3 vc4 v3 v4 k3 k4 xs3 xs4 (e :: LE) v' :=
  ⟨h.toNewS.add hcf hb he, (h.step hcf hb).old, (h.step hcf hb).rest, h.g3, h.g4⟩
theorem NewT.orderTo (hcf : OfBlock cf) (h : NewT u rc w p H cf q i1 i3 i4 t vn vc3 vc4 v3 v4 k3 k4 xs3 xs4 LE v) (hg : v.grownBy v' v3.ownBlock) {v3' : Value} {k3' : Nat} {xs3' : List Value} (ho : v'.ownsRow w.heap.size t 1 v3' k3' xs3') (hat : v3'.ownBlock = v3.ownBlock ∨ v3'.ownBlock = some v.heap.size) :
    NewT u rc w p H cf q i1 i3 i4 t vn vc3 vc4 v3' v4 k3' k4 xs3' xs4 LE v' := by
  refine ⟨h.toNewS.orderTo hcf hg ho hat, fun k hk => (hg.block k (Nat.lt_trans hk h.hp.2) (fun e => by have := h.g3 k e.symm; omega)).trans (h.old k hk), ?_, fun b hb => ?_, h.g4⟩
  · obtain ⟨cs, h1, h2⟩ := h.rest
    exact ⟨cs, h1.grown hg (fun e => by have := h.g3 p e.symm; omega), h2⟩
  · rcases hat with e | e <;> rw [e] at hb
    · exact h.g3 b hb
    · cases hb
      exact h.hp.2
theorem NewT.guessTo (hcf : OfBlock cf) (h : NewT u rc w p H cf q i1 i3 i4 t vn vc3 vc4 v3 v4 k3 k4 xs3 xs4 LE v) (hg : v.grownBy v' v4.ownBlock) {v4' : Value} {k4' : Nat} {xs4' : List Value} (ho : v'.ownsRow w.heap.size 3 1 v4' k4' xs4') (hat : v4'.ownBlock = v4.ownBlock ∨ v4'.ownBlock = some v.heap.size) :
    NewT u rc w p H cf q i1 i3 i4 t vn vc3 vc4 v3 v4' k3 k4' xs3 xs4' LE v' := by
  refine ⟨h.toNewS.guessTo hcf hg ho hat, fun k hk => (hg.block k (Nat.lt_trans hk h.hp.2) (fun e => by have := h.g4 k e.symm; omega)).trans (h.old k hk), ?_, h.g3, fun b hb => ?_⟩
  · obtain ⟨cs, h1, h2⟩ := h.rest
    exact ⟨cs, h1.grown hg (fun e => by have := h.g4 p e.symm; omega), h2⟩
  · rcases hat with e | e <;> rw [e] at hb
    · exact h.g4 b hb
    · cases hb
      exact h.hp.2
theorem NewT.set (hcf : OfBlock cf) (h : NewT u rc w p H cf q i1 i3 i4 t vn vc3 vc4 v3 v4 k3 k4 xs3 xs4 LE v) (i : Nat) (x : Value) (hi : i ≠ i1) (h34 : i = i3 ∨ i = i4) :
    NewT u rc w p H cf q i1 i3 i4 t vn (if i = i3 then x else vc3) (if i = i4 then x else vc4) v3 v4 k3 k4 xs3 xs4 LE (v.setCell ⟨p, i, none⟩ x) := by
  refine ⟨h.toNewS.set hcf i x hi, fun k hk => (Below.heap_setCell v ⟨p, i, none⟩ x k (Nat.ne_of_lt hk)).trans (h.old k hk), ?_, h.g3, h.g4⟩
  obtain ⟨cs, h1, h2, h3⟩ := h.rest
  refine ⟨_, h1.set_ i x, by rw [Array.size_setIfInBounds, h2], fun j h3' h4' => ?_⟩
  rw [Array.getElem?_setIfInBounds_ne (by rcases h34 with e | e <;> omega)]
  exact h3 j h3' h4'
theorem NewT.sub {LE' : List Ent} (h : NewT u rc w p H cf q i1 i3 i4 t vn vc3 vc4 v3 v4 k3 k4 xs3 xs4 LE v) (hs : ∀ e ∈ LE', e ∈ LE) : NewT u rc w p H cf q i1 i3 i4 t vn vc3 vc4 v3 v4 k3 k4 xs3 xs4 LE' v :=
  ⟨h.toNewS.sub hs, h.old, h.rest, h.g3, h.g4⟩
end

/-- A client with all that it reads: order, guess, directory. -/
structure CliAt (lo : Nat) (v : World) (p : Nat) (c : Client) (ob oc gb gc g q : Nat) (L : List Ent) (gs : List Nat) (sp : List ByteArray) : Prop where
  cl : ClAt v p c
  hp : lo ≤ p
  hg : lo ≤ gb
  vo : c.vo = .slice (some ⟨ob, 0, none⟩) g oc
  vg : c.vg = .slice (some ⟨gb, 0, none⟩) g gc
  lenL : L.length = g
  lenG : gs.length = g
  order : ∃ cur, Blk v ob 23 cur ∧ ∀ (i : Nat) e, L[i]? = some e → cur[i]? = some e.sl
  guess : ∃ cur, Blk v gb 3 cur ∧ ∀ i x : Nat, gs[i]? = some x → cur[i]? = some (.int .i64 (x : Int))
  ents : ∀ e ∈ L, EntOk q lo v e ∧ e.off p ∧ e.off gb
  dir : ∃ A cap, v.cell? ⟨c.D, 0, none⟩ = some (.slice A sp.length cap) ∧ c.D ≠ p ∧ c.D ≠ gb ∧ RowFrom lo v A (sp.map sV) ∧ ∀ b o, 0 < (sp.map sV).length → A = some ⟨b, o, none⟩ → b ≠ p ∧ b ≠ gb
theorem CliAt.keep {lo : Nat} {v v' : World} {p : Nat} {c : Client} {ob oc gb gc g q : Nat} {L : List Ent} {gs : List Nat} {sp : List ByteArray} (h : CliAt lo v p c ob oc gb gc g q L gs sp) (k : Below v.heap.size v v') : CliAt lo v' p c ob oc gb gc g q L gs sp := by
  refine ⟨h.cl.below k h.cl.blk.lt, h.hp, h.hg, h.vo, h.vg, h.lenL, h.lenG, ?_, ?_, fun e he => ?_, ?_⟩
  · obtain ⟨cur, h1, h2⟩ := h.order; exact ⟨cur, h1.below k h1.lt, h2⟩
  · obtain ⟨cur, h1, h2⟩ := h.guess; exact ⟨cur, h1.below k h1.lt, h2⟩
  · obtain ⟨⟨h1, O, o, h2, h3, h4⟩, h5⟩ := h.ents e he
    exact ⟨⟨h1, O, o, h2, h3, rowC_keep h4 k.size (k.block O h4.1)⟩, h5⟩
  · obtain ⟨A, cap, h1, h2, h3, h4, h5⟩ := h.dir
    exact ⟨A, cap, (k.cell (p := ⟨c.D, 0, none⟩) (World.block_lt_of_cell? v _ h1)).trans h1, h2, h3, h4.below k, h5⟩
theorem CliAt.pg {lo : Nat} {v : World} {p : Nat} {c : Client} {ob oc gb gc g q : Nat} {L : List Ent} {gs : List Nat} {sp : List ByteArray} (h : CliAt lo v p c ob oc gb gc g q L gs sp) : p ≠ gb := by
  obtain ⟨cur, h1, _⟩ := h.guess
  exact h.cl.blk.ne_ h1 (by decide)
/-- The client's own cells, or its guesses, are changed. -/
theorem CliAt.to {lo : Nat} {v v' : World} {p : Nat} {c c' : Client} {ob oc gb gc g q : Nat} {L : List Ent} {gs gs' : List Nat} {sp : List ByteArray} (h : CliAt lo v p c ob oc gb gc g q L gs sp) (k : Chg (fun b => b = p ∨ b = gb) v v') (h1 : ClAt v' p c') (ho : c'.vo = c.vo) (hg : c'.vg = c.vg) (hD : c'.D = c.D)
    (hl : gs'.length = g) (h2 : ∃ cur, Blk v' gb 3 cur ∧ ∀ i x : Nat, gs'[i]? = some x → cur[i]? = some (.int .i64 (x : Int))) : CliAt lo v' p c' ob oc gb gc g q L gs' sp := by
  have hob : ∀ cur, Blk v ob 23 cur → ¬ (ob = p ∨ ob = gb) := fun cur hc e => by
    rcases e with rfl | rfl
    · exact hc.ne_ h.cl.blk (by decide) rfl
    · obtain ⟨cur', h3, _⟩ := h.guess
      exact hc.ne_ h3 (by decide) rfl
  refine ⟨h1, h.hp, h.hg, ho.trans h.vo, hg.trans h.vg, h.lenL, hl, ?_, h2, fun e he => ?_, ?_⟩
  · obtain ⟨cur, h3, h4⟩ := h.order
    exact ⟨cur, h3.chg k (hob cur h3), h4⟩
  · obtain ⟨⟨h3, O, o, h4, h5, h6⟩, h7, h8⟩ := h.ents e he
    exact ⟨⟨h3, O, o, h4, h5, rowC_keep h6 k.size (k.block O h6.1 (fun x => by rcases x with x | x; exact h7 O o h4 x; exact h8 O o h4 x))⟩, h7, h8⟩
  · obtain ⟨A, cap, h3, h4, h5, h6, h7⟩ := h.dir
    rw [hD]
    refine ⟨A, cap, k.cell h3 (fun x => by rcases x with x | x; exact h4 x; exact h5 x), h4, h5, fun hl => ?_, h7⟩
    obtain ⟨b, o, e, q1, q2, q3⟩ := h6 hl
    exact ⟨b, o, e, q1, Nat.lt_of_lt_of_le q2 k.size, fun i x hx => k.cell (q3 i x hx) (fun y => by have := h7 b o hl e; rcases y with y | y; exact this.1 y; exact this.2 y)⟩

theorem zeroMC : MsgC zeroC := ⟨rfl, by kernel_rfl⟩
/-- A client as it is made. -/
def fresh (num q : Int) (D : Nat) (vo vg : Value) : Client := ⟨num, q, D, vo, vg, 0, 0, .pointer none, false, false, 0, zeroC, zeroAct⟩
def heads (L : List Ent) : List Nat := L.map (fun e => e.r.headD 0)

theorem own_blk {w : World} {base n : Nat} {e : TypeId} {v : Value} {xs : List Value} (h : w.ownsRow base e 1 v n xs) (hn : 0 < n) : ∃ g cap cur, v = .slice (some ⟨g, 0, none⟩) n cap ∧ base ≤ g ∧ Blk w g e cur ∧ ∀ (i : Nat) u, xs[i]? = some u → cur[i]? = some u := by
  rcases h.2 with ⟨_, h0⟩ | ⟨g, cap, cur, h1, h2, h3, h4, h5, h6, h7⟩
  · omega
  · refine ⟨g, cap, cur, h1, h2, h3, fun i u hu => ?_⟩
    rw [← h7, List.getElem?_take] at hu
    split at hu
    · rwa [Array.getElem?_toList] at hu
    · cases hu

/-- A client whose making is done. -/
theorem cli_of {u : World} {w : World} {p H D : Nat} {cf : World → Nat → Prop} {q g : Nat} {num : Int} {v3 v4 : Value} {L : List Ent} {v : World} {sp : List ByteArray} (hg : 0 < g) (hL : L.length = g)
    (h : NewT u (fresh num q D (.slice none 0 0) (.slice none 0 0)).cs w p H cf q 1 3 4 23 (.int .i64 q) v3 v4 v3 v4 g g (L.map Ent.sl) (L.map Ent.hd) L v) (hu : p = u.heap.size) (hd : DirAt w.heap.size u (some ⟨D, 0, none⟩) sp) :
    ∃ ob oc gb gc, CliAt w.heap.size v p (fresh num q D v3 v4) ob oc gb gc g q L (heads L) sp := by
  obtain ⟨ob, oc, cur3, e3, b3, k3, x3⟩ := own_blk h.order hg
  obtain ⟨gb, gc, cur4, e4, b4, k4, x4⟩ := own_blk h.guess hg
  obtain ⟨cs, hcs, hsz, hrest⟩ := h.rest
  have hc : cs = (fresh num q D v3 v4).cs := by
    apply Array.ext_getElem?
    intro i
    have hs3 : cs[3]? = some v3 := by rw [← hcs.cell]; exact h.c3
    have hs4 : cs[4]? = some v4 := by rw [← hcs.cell]; exact h.c4
    by_cases i3 : i = 3
    · subst i3
      rw [hs3, cs_hd _ 3 (by decide)]
      rfl
    by_cases i4 : i = 4
    · subst i4
      rw [hs4, cs_hd _ 4 (by decide)]
      rfl
    rw [hrest i i3 i4]
    have e : (fresh num q D v3 v4).cs = ((fresh num q D (.slice none 0 0) (.slice none 0 0)).cs.setIfInBounds 3 v3).setIfInBounds 4 v4 := by
      rw [hd_set _ 3 _ (by decide)]
      unfold Client.cs
      rw [Array.setIfInBounds_append_left (by simp [hd_size]; omega), Array.setIfInBounds_append_left (by simp [hd_size])]
      rfl
    rw [e, Array.getElem?_setIfInBounds_ne (Ne.symm i4), Array.getElem?_setIfInBounds_ne (Ne.symm i3)]
  subst hc
  have offp : ∀ k, k < p → k ≠ p ∧ k ≠ gb := fun k hk => ⟨Nat.ne_of_lt hk, by have := h.g4 gb (by rw [e4]; rfl); omega⟩
  refine ⟨ob, oc, gb, gc, ⟨hcs, zeroMC⟩, h.hp.1, b4, e3, e4, hL, by unfold heads; rw [List.length_map, hL], ⟨cur3, k3, fun i e he => x3 i _ (by rw [List.getElem?_map, he]; rfl)⟩, ⟨cur4, k4, fun i x hx => ?_⟩, fun e he => ⟨h.ents e he, (h.aH e he).1, (h.a4 gb (by rw [e4]; rfl)).2.2 e he⟩, ?_⟩
  · unfold heads at hx
    rw [List.getElem?_map] at hx
    obtain ⟨e, h1, h2⟩ := Option.map_eq_some_iff.1 hx
    refine x4 i _ ?_
    rw [List.getElem?_map, h1]
    subst h2
    rfl
  · obtain ⟨D', A, cap, e, h1, h2, h5, h6⟩ := hd
    cases e
    rw [← hu] at h2
    refine ⟨A, cap, (World.cell?_of_block (a := ⟨D, 0, none⟩) (h.old D h2)).trans h5, (offp D h2).1, (offp D h2).2, fun hl => ?_, fun b o hl e => ?_⟩
    · obtain ⟨b, o, e, q1, q2, q3⟩ := h6 hl
      rw [← hu] at q2
      exact ⟨b, o, e, q1, Nat.lt_trans q2 h.hp.2, fun i x hx => (World.cell?_of_block (a := ⟨b, o + i, none⟩) (h.old b q2)).trans (q3 i x hx)⟩
    · obtain ⟨b', o', e', q1, q2, q3⟩ := h6 hl
      rw [e] at e'
      cases e'
      rw [← hu] at q2
      exact offp b q2
end Go.Proofs.Ytpaihfdmjkfegaa.Cl
