/- The document's Order: what its loop holds. -/
import Derived.Test.YtpaihfdmjkfegaaStaM
namespace Go.Proofs.Ytpaihfdmjkfegaa.Sta
open Go.Shelf Go.RowKit Go.Lib Go.Sort Go.Proofs.Ytpaihfdmjkfegaa.Far Go.Proofs.Ytpaihfdmjkfegaa.Rd

section
variable {w : World} {base : Nat} {e : TypeId} {size g n cap : Nat} {xs : List Value}
theorem own_bounds (h : w.ownsRow base e size (.slice (some ⟨g, 0, none⟩) n cap) n xs) : base ≤ g ∧ g < w.heap.size ∧ n ≤ cap ∧ cap ≤ maxLen := by
  have h1 := World.ownsRow.lt h g rfl
  rcases h.2 with ⟨h', _⟩ | ⟨g', cap', cur, h', _, _, h2, h3, _⟩
  · simp at h'
  · simp only [Value.slice.injEq, Option.some.injEq, Addr.mk.injEq, and_true, true_and] at h'
    obtain ⟨_, rfl⟩ := h'
    exact ⟨h1.1, h1.2, h2, h3⟩
theorem own_shrink (h : w.ownsRow base e size (.slice (some ⟨g, 0, none⟩) n cap) n xs) {k : Nat} (hk : k ≤ n) : w.ownsRow base e size (.slice (some ⟨g, 0, none⟩) k cap) k (xs.take (k * size)) := by
  have hm : k * size ≤ n * size := Nat.mul_le_mul_right size hk
  rcases h.2 with ⟨h', _⟩ | ⟨g', cap', cur, h', hb, hg, h2, h3, h4, h5⟩
  · simp at h'
  · simp only [Value.slice.injEq, Option.some.injEq, Addr.mk.injEq, and_true, true_and] at h'
    obtain ⟨rfl, rfl⟩ := h'
    refine ⟨by rw [List.length_take, h.1, Nat.min_eq_left hm], .inr ⟨g, cap, cur, rfl, hb, hg, by omega, h3, h4, ?_⟩⟩
    rw [← h5, List.take_take, Nat.min_eq_left hm]
theorem own_form {v : Value} (h : w.ownsRow base e size v n xs) : ∃ A c, v = .slice A n c := by
  rcases h.2 with ⟨h', rfl⟩ | ⟨g, c, _, h', _⟩
  · exact ⟨none, 0, h'⟩
  · exact ⟨_, _, h'⟩
theorem own_below {w' : World} {v : Value} (h : w.ownsRow base e size v n xs) (hB : Below w.heap.size w w') : w'.ownsRow base e size v n xs := by
  refine ⟨h.1, ?_⟩
  rcases h.2 with h0 | ⟨g, c, cur, h1, h2, h3, h4⟩
  · exact .inl h0
  · exact .inr ⟨g, c, cur, h1, h2, (hB.block g (Array.getElem?_eq_some_iff.1 h3).1).trans h3, h4⟩
end
theorem one_int (k : Int) : ∀ u ∈ [Value.int .i64 k], u.oneCell' = true := by
  intro u hu
  rw [List.mem_singleton] at hu
  subst hu
  rfl
theorem new_int (w : World) (u : Value) : ∀ j v, [u][j]? = some v → (w.alloc (.cells #[u] 3)).cell? ((⟨w.heap.size, 0, none⟩ : Addr).add j) = some v := by
  intro j v h
  match j, h with
  | 0, h => cases h; simp [go_sem, Addr.add]

def iV (x : Nat) : Value := .int .i64 (x : Int)
def fV (F : Nat → Int) (j : Nat) : Value := .int .i64 (F j)
theorem iV_one (l : List Nat) : ∀ u ∈ l.map iV, u.oneCell' = true := by
  intro u hu
  obtain ⟨x, _, rfl⟩ := List.mem_map.1 hu
  rfl

/-- What the loop of the document's Order holds. -/
structure RefS (w : World) (F : Nat → Int) (nf no P : Nat) (X Y : Int) (v8 v9 : Value) (r : List Nat) (v : World) : Prop where
  below : Below w.heap.size w v
  hP : w.heap.size ≤ P ∧ P < v.heap.size
  pX : v.cell? ⟨P, 0, none⟩ = some (.int .i64 X)
  pY : v.cell? ⟨P, 1, none⟩ = some (.int .i64 Y)
  far : v.ownsRow w.heap.size 3 1 v8 nf ((List.range nf).map (fV F))
  out : v.ownsRow w.heap.size 3 1 v9 no (r.map iV)
  a1 : ∀ k, v8.ownBlock = some k → k ≠ P
  a2 : ∀ k, v9.ownBlock = some k → k ≠ P
  a3 : ∀ k, v8.ownBlock = some k → v9.ownBlock ≠ some k

section
variable {w : World} {F : Nat → Int} {nf no P : Nat} {X Y : Int} {v8 v9 : Value} {r : List Nat} {v v' : World}
theorem RefS.step (h : RefS w F nf no P X Y v8 v9 r v) (hb : Below v.heap.size v v') : RefS w F nf no P X Y v8 v9 r v' :=
  ⟨h.below.trans (hb.mono h.below.size), ⟨h.hP.1, Nat.lt_of_lt_of_le h.hP.2 hb.size⟩, (hb.cell (p := ⟨P, 0, none⟩) h.hP.2).trans h.pX, (hb.cell (p := ⟨P, 1, none⟩) h.hP.2).trans h.pY,
    own_below h.far hb, own_below h.out hb, h.a1, h.a2, h.a3⟩
theorem RefS.farTo (h : RefS w F nf no P X Y v8 v9 r v) (hg : v.grownBy v' v8.ownBlock) {v8' : Value} {nf' : Nat} (ho : v'.ownsRow w.heap.size 3 1 v8' nf' ((List.range nf').map (fV F))) (hat : v8'.ownBlock = v8.ownBlock ∨ v8'.ownBlock = some v.heap.size) :
    RefS w F nf' no P X Y v8' v9 r v' := by
  have hne : some P ≠ v8.ownBlock := fun e => h.a1 P e.symm rfl
  have hblk := hg.block P h.hP.2 hne
  refine ⟨h.below.grown hg h.below.size (fun k hk => (World.ownsRow.lt h.far k hk).1), ⟨h.hP.1, Nat.lt_of_lt_of_le h.hP.2 hg.size⟩, (World.cell?_of_block (w := v) hblk).trans h.pX, (World.cell?_of_block (w := v) hblk).trans h.pY, ho, ?_, ?_, h.a2, ?_⟩
  · refine h.out.kept hg ?_
    cases e : v9.ownBlock with
    | none => exact .inl rfl
    | some k => exact .inr fun e2 => h.a3 k e2.symm e
  · intro k hk
    rcases hat with e | e <;> rw [e] at hk
    · exact h.a1 k hk
    · cases hk; have := h.hP.2; omega
  · intro k hk hk9
    rcases hat with e | e <;> rw [e] at hk
    · exact h.a3 k hk hk9
    · cases hk
      have := (World.ownsRow.lt h.out _ hk9).2
      omega
theorem RefS.outTo (h : RefS w F nf no P X Y v8 v9 r v) (hg : v.grownBy v' v9.ownBlock) {v9' : Value} {no' : Nat} {r' : List Nat} (ho : v'.ownsRow w.heap.size 3 1 v9' no' (r'.map iV)) (hat : v9'.ownBlock = v9.ownBlock ∨ v9'.ownBlock = some v.heap.size) :
    RefS w F nf no' P X Y v8 v9' r' v' := by
  have hne : some P ≠ v9.ownBlock := fun e => h.a2 P e.symm rfl
  have hblk := hg.block P h.hP.2 hne
  refine ⟨h.below.grown hg h.below.size (fun k hk => (World.ownsRow.lt h.out k hk).1), ⟨h.hP.1, Nat.lt_of_lt_of_le h.hP.2 hg.size⟩, (World.cell?_of_block (w := v) hblk).trans h.pX, (World.cell?_of_block (w := v) hblk).trans h.pY, ?_, ho, h.a1, ?_, ?_⟩
  · refine h.far.kept hg ?_
    cases e : v8.ownBlock with
    | none => exact .inl rfl
    | some k => exact .inr fun e2 => h.a3 k e e2.symm
  · intro k hk
    rcases hat with e | e <;> rw [e] at hk
    · exact h.a2 k hk
    · cases hk; have := h.hP.2; omega
  · intro k hk hk9
    rcases hat with e | e <;> rw [e] at hk9
    · exact h.a3 k hk hk9
    · cases hk9
      have := (World.ownsRow.lt h.far _ hk).2
      omega
theorem RefS.shrink {g c s : Nat} (h : RefS w F nf no P X Y v8 (.slice (some ⟨g, 0, none⟩) no c) r v) (hs : s ≤ no) : RefS w F nf s P X Y v8 (.slice (some ⟨g, 0, none⟩) s c) (r.take s) v := by
  have ho := own_shrink h.out hs
  rw [Nat.mul_one, ← List.map_take] at ho
  exact ⟨h.below, h.hP, h.pX, h.pY, h.far, ho, h.a1, h.a2, h.a3⟩
end

/-- One more is put in. -/
theorem Sorted.put {F : Nat → Int} {i s : Nat} {r : List Nat} (h : Sorted F i r) (hs : s ≤ i) (h1 : ∀ k x, s ≤ k → r[k]? = some x → F i < F x) (h2 : ∀ x, 0 < s → r[s - 1]? = some x → F x ≤ F i) : Sorted F (i + 1) (r.take s ++ [i] ++ r.drop s) := by
  have hl := h.length
  have hT : ∀ x ∈ r.take s, F x ≤ F i := by
    intro x hx
    obtain ⟨k, hk⟩ := List.getElem?_of_mem hx
    rw [List.getElem?_take] at hk
    split at hk
    · rename_i hks
      have hs1 : s - 1 < r.length := by omega
      have h3 := h2 _ (by omega) (List.getElem?_eq_getElem hs1)
      rcases Nat.lt_or_ge k (s - 1) with c | c
      · have hkl : k < r.length := by omega
        have h4 := (List.pairwise_iff_getElem.1 h.2) k (s - 1) hkl hs1 c
        rw [List.getElem?_eq_getElem hkl] at hk
        cases hk
        unfold Nearer at h4
        omega
      · obtain rfl : k = s - 1 := by omega
        rw [List.getElem?_eq_getElem hs1] at hk
        cases hk
        exact h3
    · cases hk
  have hD : ∀ x ∈ r.drop s, F i < F x := by
    intro x hx
    obtain ⟨k, hk⟩ := List.getElem?_of_mem hx
    rw [List.getElem?_drop] at hk
    exact h1 _ x (by omega) hk
  have hlt := h.lt
  constructor
  · have p1 : (r.take s ++ [i] ++ r.drop s).Perm (i :: r) := by
      rw [List.append_assoc]
      refine List.perm_middle.trans ?_
      show (i :: (r.take s ++ r.drop s)).Perm (i :: r)
      rw [List.take_append_drop]
    refine p1.trans ?_
    rw [List.range_succ]
    exact (List.Perm.cons i h.1).trans (List.perm_append_comm (l₁ := [i]))
  · have hp := h.2
    rw [← List.take_append_drop s r, List.pairwise_append] at hp
    rw [List.append_assoc, List.pairwise_append]
    refine ⟨hp.1, List.pairwise_append.2 ⟨List.pairwise_singleton _ _, hp.2.1, fun a ha b hb => ?_⟩, fun a ha b hb => ?_⟩
    · rw [List.mem_singleton] at ha
      subst ha
      exact .inl (hD b hb)
    · rcases List.mem_append.1 hb with hb | hb
      · rw [List.mem_singleton] at hb
        subst hb
        have := hT a ha
        have := hlt a (List.mem_of_mem_take ha)
        unfold Nearer
        show F a < F b ∨ F a = F b ∧ a < b
        omega
      · exact hp.2.2 a ha b hb
end Go.Proofs.Ytpaihfdmjkfegaa.Sta
