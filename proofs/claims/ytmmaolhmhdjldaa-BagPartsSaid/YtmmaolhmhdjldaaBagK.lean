/- A bag: Part and Heal, walked. -/
import Derived.Test.YtmmaolhmhdjldaaBagI
import Derived.Deep.RegionLaw
namespace Go.Proofs.Ytmmaolhmhdjldaa.BagS
open Go.RowKit Go.Proofs.Ytmmaolhmhdjldaa.MapF Go.Maps

/-- But for a map's block all is as it was. -/
theorem turned_block {w w' : World} {m i : Nat} (h : w.mapTurned w' m) (hi : i ≠ m) : w'.heap[i]? = w.heap[i]? := by
  obtain ⟨es, clock, es', clock', _, rfl⟩ := h
  show (w.heap.setIfInBounds m _)[i]? = _
  rw [Array.getElem?_setIfInBounds_ne (fun e => hi e.symm)]
theorem turned_size {w w' : World} {m : Nat} (h : w.mapTurned w' m) : w'.heap.size = w.heap.size ∧ w'.os = w.os ∧ w'.tape = w.tape ∧ w'.output = w.output := by
  obtain ⟨es, clock, es', clock', _, rfl⟩ := h
  exact ⟨by show (w.heap.setIfInBounds m _).size = _; simp, rfl, rfl, rfl⟩
theorem turned_below {w w' : World} {m B : Nat} (h : w.mapTurned w' m) (hB : B ≤ m) : Below B w w' := by
  obtain ⟨h1, h2, h3, h4⟩ := turned_size h
  exact ⟨h2, h3, h4, by omega, fun i hi => turned_block h (by omega)⟩
theorem bag_turned {w w' : World} {base p m : Nat} {most : Int} {A : Option Addr} {n cap : Nat} {L : List (Array Value)} {k : Nat} {f : Ad → Option Unit} (h : BagAt w base p m most A n cap L) (hf : IsF adMap w m k f) (ht : w.mapTurned w' m) : BagAt w' base p m most A n cap L := by
  obtain ⟨D, ⟨es, clock, e1, _⟩, _⟩ := hf
  refine h.far (Nat.le_of_eq (turned_size ht).1.symm) ?_ ?_
  · refine turned_block ht (fun e => ?_)
    have := h.blk
    unfold Blk at this
    rw [e, e1] at this
    cases this
  · rintro a rfl
    refine turned_block ht (fun e => ?_)
    rcases h.own.2 with ⟨h', _⟩ | ⟨g', cap', cur, h', _, hg, _⟩
    · cases h'
    · simp only [Value.slice.injEq, Option.some.injEq, true_and] at h'
      obtain ⟨rfl, _⟩ := h'
      have e' : g' = m := e
      rw [e', e1] at hg
      cases hg

set_option maxRecDepth 100000 in
set_option maxHeartbeats 2000000 in
theorem part_any (p m k : Nat) (most : Int) (v : Value) (f : Ad → Option Unit) (x : Ad) (w : World) (hB : Blk w p 149 #[.int .i64 most, v, .map (some m)]) (hf : IsF adMap w m k f) (hk : k < maxLen) :
    Calls Try.prog 49 #[.pointer (some ⟨p, 0, none⟩), .agg #[.int .i64 x.1.1, .int .i64 x.1.2]] w fun e w' => e = .returned (.tuple #[]) ∧ ∃ w1, Below w.heap.size w w1 ∧ w1.mapTurned w' m ∧ IsF adMap w' m (k + 1) (upd f x (some ())) := by
  have b2 := hB.cell 2
  have hp := hB.lt
  have hm := hf.lt
  have HF := Lib.hid hf
  clear hB hf
  obtain ⟨⟨x1, x2⟩, hx⟩ := x
  simp only
  go_enter Try.func49, Try.ntmps49
  go_wp2_with fail
  refine world_out (fun W hW => ?_)
  have BW : Hid (Below w.heap.size w W) := Lib.hid (by rw [hW]; exact (Below.refl _ _).alloc (Nat.le_refl _) _)
  have d1 : W.cell? ⟨w.heap.size, 0, none⟩ = some (.int .i64 x1) := by rw [hW]; simp [go_sem]
  have d2 : W.cell? ⟨w.heap.size, 1, none⟩ = some (.int .i64 x2) := by rw [hW]; simp [go_sem]
  clear hW
  have z2 : W.cell? ⟨p, 2, none⟩ = some (.map (some m)) := (BW.out.cell (p := ⟨p, 2, none⟩) hp).trans b2
  have hst := IsF.store (M := adMap) (w := W.drew) (same_f HF.out (BW.out.block m hm)) Try.underlying146 hk ⟨(x1, x2), hx⟩ trivial ()
  obtain ⟨w2, hrun, hf2, ht2⟩ := hst
  have hrun' : (Instr.mapUpdate 146 (.map (some m)) (.agg #[.int .i64 x1, .int .i64 x2]) (.agg #[])).run Try.prog W.drew = .ok () w2 := hrun
  have HF2 := Lib.hid hf2
  have HT2 := Lib.hid ht2
  clear hf2 ht2 hrun
  go_region
  go_wp2_with fail
  go_end0
  exact ⟨rfl, W.drew, BW.out.drew, HT2.out, HF2.out⟩

/-- 'delete(m, k)', a step of a region that draws. -/
theorem step_dropF {P : Program} {k : TypeId} {κ α : Type} {M : MapTy P k κ α} {ops : Array Oper} {o : Oper} {a : Act} {w : World} {K : Act → World → Prop} {Q : Exit → Act → World → Prop} {E : Prop} (hg : o.guard = none) (x y : Operand) (t e : TypeId)
    (hop : o.op = Op.call { callee := Callee.builtin Builtin.delete, args := #[x, y], argTypes := #[t, k] }) (ht : P.underlying t = some (.map k e)) (b n : Nat) (f : κ → Option α) (hx : a.eval x = .map (some b)) (hown : IsF M w b n f) (z : κ) (hz : M.ok z) (hy : a.eval y = M.kv z)
    (hK : ∀ w', IsF M w' b n (upd f z none) → w.mapTurned w' b → K (a.put o.dst (.tuple #[])) w') : if Region.wanted o (yielded ops a.tmps) = true then Oper.wp P o a w K Q else E := by
  have hw : Region.wanted o (yielded ops a.tmps) = true := by simp [Region.wanted, hg]
  rw [if_pos hw]
  obtain ⟨w', hrun, r1, r2⟩ := hown.drop ht z hz o.type
  unfold Oper.wp
  simp [execOp, hop, resolve, invoke, builtin, hx, hy, hrun, Result.andThen]
  exact hK w' r1 r2

set_option maxRecDepth 100000 in
set_option maxHeartbeats 2000000 in
theorem heal_any (p m k : Nat) (most : Int) (v : Value) (f : Ad → Option Unit) (x : Ad) (w : World) (hB : Blk w p 149 #[.int .i64 most, v, .map (some m)]) (hf : IsF adMap w m k f) :
    Calls Try.prog 50 #[.pointer (some ⟨p, 0, none⟩), .agg #[.int .i64 x.1.1, .int .i64 x.1.2]] w fun e w' => e = .returned (.tuple #[]) ∧ ∃ w1, Below w.heap.size w w1 ∧ w1.mapTurned w' m ∧ IsF adMap w' m k (upd f x none) := by
  have b2 := hB.cell 2
  have hp := hB.lt
  have hm := hf.lt
  have HF := Lib.hid hf
  clear hB hf
  obtain ⟨X, hX⟩ : ∃ X : Ad, X = x := ⟨x, rfl⟩
  rw [← hX]
  have EX := Lib.hid hX
  clear hX
  obtain ⟨⟨x1, x2⟩, hx⟩ := x
  have VX : Hid (adMap.kv X = .agg #[.int .i64 x1, .int .i64 x2]) := Lib.hid (by rw [EX.out]; rfl)
  rw [show X.1.1 = x1 by rw [EX.out], show X.1.2 = x2 by rw [EX.out]]
  clear EX
  go_enter Try.func50, Try.ntmps50
  go_wp2_with fail
  refine world_out (fun W hW => ?_)
  have BW : Hid (Below w.heap.size w W) := Lib.hid (by rw [hW]; exact (Below.refl _ _).alloc (Nat.le_refl _) _)
  have d1 : W.cell? ⟨w.heap.size, 0, none⟩ = some (.int .i64 x1) := by rw [hW]; simp [go_sem]
  have d2 : W.cell? ⟨w.heap.size, 1, none⟩ = some (.int .i64 x2) := by rw [hW]; simp [go_sem]
  clear hW
  have z2 : W.cell? ⟨p, 2, none⟩ = some (.map (some m)) := (BW.out.cell (p := ⟨p, 2, none⟩) hp).trans b2
  have HFW : Hid (IsF adMap W.drew m k f) := Lib.hid (same_f HF.out (BW.out.block m hm))
  go_region_law (first
    | (refine step_dropF (M := adMap) (by rfl) (.tmp 7) (.tmp 8) 146 _ (by rfl) Try.underlying146 m k f (by simp [Act.eval]) HFW.out X trivial (by rw [VX.out]; simp [Act.eval]) ?_
       intro w2 hf2 ht2
       have HF2 := Lib.hid hf2
       have HT2 := Lib.hid ht2
       clear hf2 ht2))
  all_goals
    go_wp2_with fail
    go_end0
    exact ⟨rfl, W.drew, BW.out.drew, HT2.out, HF2.out⟩
end Go.Proofs.Ytmmaolhmhdjldaa.BagS
