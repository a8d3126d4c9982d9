/- Blocks known whole; a message read and written whole: rules of the walk. -/
import Derived.Test.YtpaihfdmjkfegaaCls
import Derived.Test.YtpaihfdmjkfegaaProg
import Derived.Deep.RegionHeld3
import Derived.Deep.DrawnRows
import Derived.Outline
import Derived.Below
import Derived.Laws.OwnMore
import Derived.Deep.Draws
import Derived.Laws.Rows
import Derived.Deep.MidRow
import Derived.Deep.AppendLies
namespace Go.Proofs.Ytpaihfdmjkfegaa.Msg
open Go.RowKit

def Blk (w : World) (g : Nat) (t : TypeId) (cs : Array Value) : Prop := w.heap[g]? = some (.cells cs t (0, 0))

section
variable {w w' : World} {g : Nat} {t : TypeId} {cs : Array Value}
theorem Blk.lt (h : Blk w g t cs) : g < w.heap.size := by
  rcases Nat.lt_or_ge g w.heap.size with hlt | hge
  · exact hlt
  · unfold Blk at h; rw [Array.getElem?_eq_none hge] at h; cases h
theorem Blk.cell (h : Blk w g t cs) (i : Nat) : w.cell? ⟨g, i, none⟩ = cs[i]? := cell_of_row w g i cs t (0, 0) h
theorem Blk.frozen (h : Blk w g t cs) (i : Nat) : w.frozen? ⟨g, i, none⟩ = false := by
  unfold Blk at h
  simp [World.frozen?, h]
theorem Blk.new (w : World) (t : TypeId) (cs : Array Value) : Blk (w.alloc (.cells cs t)) w.heap.size t cs := heap_alloc_new w _
theorem Blk.drew (h : Blk w g t cs) : Blk w.drew g t cs := h
theorem Blk.drewN (h : Blk w g t cs) (n : Nat) : Blk (w.drewN n) g t cs := h
theorem Blk.alloc (h : Blk w g t cs) (o : Obj) : Blk (w.alloc o) g t cs := (Below.heap_alloc w o g h.lt).trans h
theorem Blk.set_ (h : Blk w g t cs) (i : Nat) (u : Value) : Blk (w.setCell ⟨g, i, none⟩ u) g t (cs.setIfInBounds i u) := by
  unfold Blk at h ⊢
  simp [World.setCell, Array.getElem?_modify, h]
theorem Blk.far (h : Blk w g t cs) {p : Addr} (hp : g ≠ p.block) (u : Value) : Blk (w.setCell p u) g t cs := (Below.heap_setCell w p u g hp).trans h
theorem Blk.below {B : Nat} (h : Blk w g t cs) (hb : Below B w w') (hg : g < B) : Blk w' g t cs := (hb.block g hg).trans h
theorem Blk.grown {row : Option Nat} (h : Blk w g t cs) (hb : w.grownBy w' row) (hg : some g ≠ row) : Blk w' g t cs := (hb.block g h.lt hg).trans h
theorem Blk.ne_ {g' : Nat} {t' : TypeId} {cs' : Array Value} (h : Blk w g t cs) (h' : Blk w g' t' cs') (hne : t ≠ t') : g ≠ g' := by
  rintro rfl
  unfold Blk at h h'
  rw [h] at h'
  injection h' with h'
  injection h' with _ ht
  exact hne ht
theorem own_blk_ne {base : Nat} {e : TypeId} {size n : Nat} {v : Value} {xs : List Value} (h : w.ownsRow base e size v n xs) (hg : Blk w g t cs) (hne : e ≠ t) : v.ownBlock ≠ some g := by
  rcases h.2 with ⟨rfl, _⟩ | ⟨g', cap, cur, rfl, _, hh, _⟩
  · simp [Value.ownBlock]
  · intro he
    have : g' = g := by simpa [Value.ownBlock] using he
    subst this
    exact Blk.ne_ (t := e) hh hg hne rfl
end

theorem world_out {c : Code} {P : Program} {Q : Exit → Act → World → Prop} {a : Act} {w0 : World} (h : ∀ w, w = w0 → c.wp P Q a w) : c.wp P Q a w0 := h w0 rfl
theorem Blk.range {w : World} {g : Nat} {t : TypeId} {C : Array Value} (h : Blk w g t C) : w.rangeAt g 0 C.toList := fun j v hv => by
  rw [Nat.zero_add, h.cell]
  rwa [Array.getElem?_toList] at hv
theorem Blk.there {w : World} {g : Nat} {t : TypeId} {C : Array Value} (h : Blk w g t C) : w.there g 0 C.size := fun j hj => by
  rw [Nat.zero_add]
  refine ⟨?_, h.frozen j⟩
  rw [h.cell, Array.getElem?_eq_getElem hj]
  rfl

theorem Blk.new2 (w : World) (t : TypeId) (C : Array Value) (t' : TypeId) (D : Array Value) : Blk ((w.alloc (.cells C t)).alloc (.cells D t')) (w.heap.size + 1) t' D := by
  have h := Blk.new (w.alloc (.cells C t)) t' D
  simpa using h
theorem below_setCells {B : Nat} {a : World} : ∀ {w : World}, Below B a w → ∀ (g o : Nat), B ≤ g → ∀ l : List Value, Below B a (w.setCells g o l)
  | _, h, _, _, _, [] => h
  | _, h, g, o, hg, u :: r => below_setCells (h.setCell (p := ⟨g, o, none⟩) hg u) g (o + 1) hg r

/-- A list written over from a place on. -/
def over (xs : List Value) : Nat → List Value → List Value
  | _, [] => xs
  | o, u :: r => over (xs.set o u) (o + 1) r
theorem over_len : ∀ (l : List Value) (xs : List Value) (o : Nat), (over xs o l).length = xs.length
  | [], _, _ => rfl
  | u :: r, xs, o => by rw [over, over_len r, List.length_set]
theorem over_get : ∀ (l : List Value) (xs : List Value) (o j : Nat), o + l.length ≤ xs.length → (over xs o l)[j]? = if o ≤ j ∧ j < o + l.length then l[j - o]? else xs[j]?
  | [], xs, o, j, _ => by rw [over, if_neg (by simp only [List.length_nil]; omega)]
  | u :: r, xs, o, j, h => by
    simp only [List.length_cons] at h ⊢
    rw [over, over_get r (xs.set o u) (o + 1) j (by rw [List.length_set]; omega)]
    by_cases h1 : o = j
    · subst h1
      rw [if_neg (by omega), if_pos (by omega), List.getElem?_set, if_pos rfl, if_pos (by omega), Nat.sub_self]
      rfl
    · by_cases h2 : o ≤ j ∧ j < o + (r.length + 1)
      · rw [if_pos (by omega), if_pos h2, show j - o = (j - (o + 1)) + 1 by omega]
        rfl
      · rw [if_neg (by omega), if_neg h2, List.getElem?_set, if_neg h1]
theorem over_eq (l xs : List Value) (o : Nat) (h : o + l.length ≤ xs.length) : over xs o l = xs.take o ++ l ++ xs.drop (o + l.length) := by
  apply List.ext_getElem?
  intro j
  rw [over_get l xs o j h]
  split
  · rename_i hj
    rw [List.getElem?_append_left (by rw [List.length_append, List.length_take]; omega), List.getElem?_append_right (by rw [List.length_take]; omega), List.length_take, Nat.min_eq_left (by omega)]
  · rename_i hj
    by_cases h1 : j < o
    · rw [List.getElem?_append_left (by rw [List.length_append, List.length_take]; omega), List.getElem?_append_left (by rw [List.length_take]; omega), List.getElem?_take, if_pos h1]
    · rw [List.getElem?_append_right (by rw [List.length_append, List.length_take]; omega), List.length_append, List.length_take, Nat.min_eq_left (by omega), List.getElem?_drop]
      congr 1
      omega
theorem over_past : ∀ (l xs : List Value) (o : Nat), xs.length ≤ o → over xs o l = xs
  | [], _, _, _ => rfl
  | u :: r, xs, o, h => by rw [over, List.set_eq_of_length_le h, over_past r xs (o + 1) (by omega)]

theorem infoMsg : (Try.prog.info? 55).map (fun i => (i.size, i.bytes)) = some (26, 288) := by kernel_rfl
theorem info_two {P : Program} {t : TypeId} {s b : Nat} (h : (P.info? t).map (fun i => (i.size, i.bytes)) = some (s, b)) : ∃ i, P.info? t = some i ∧ i.size = s ∧ i.bytes = b := by
  cases hi : P.info? t with
  | none => rw [hi] at h; cases h
  | some i =>
    rw [hi] at h
    simp only [Option.map_some, Option.some.injEq, Prod.mk.injEq] at h
    exact ⟨i, rfl, h.1, h.2⟩

/-- A message of zeroes. -/
def zeroC : Array Value := #[.int .i64 0, .int .i64 0, .int .i64 0, .int .i64 0, .int .i64 0, .int .i64 0, .int .i64 0, .int .i64 0, .int .i64 0, .bool false, .slice none 0 0, .slice none 0 0,
   .int .i64 0, .int .i64 0, .int .i64 0, .int .i64 0, .string ⟨#[]⟩, .int .i64 0, .slice none 0 0, .slice none 0 0, .int .i64 0, .int .i64 0, .int .i64 0, .int .i64 0, .bool false, .string ⟨#[]⟩]
theorem zeroMsg (w : World) : (zeroValue 55).run Try.prog w = .ok (.agg zeroC) w := by kernel_rfl
theorem size26 : (Try.prog.info? 55).map (·.size) = some 26 := by kernel_rfl
/-- A message lies there. -/
def HasMsg (w : World) (b o : Nat) : Prop := ∃ cs : List Value, cs.length = 26 ∧ w.rangeAt b o cs
open Classical in
/-- The message that lies there. -/
noncomputable def msgAt (w : World) (b o : Nat) : Array Value := if h : HasMsg w b o then (Classical.choose h).toArray else #[]
theorem range_one {w : World} {b o : Nat} {cs ds : List Value} (h : w.rangeAt b o cs) (h' : w.rangeAt b o ds) (e : cs.length = ds.length) : cs = ds := by
  apply List.ext_getElem e
  intro i h1 h2
  have a := h i _ (List.getElem?_eq_getElem h1)
  have c := h' i _ (List.getElem?_eq_getElem h2)
  rw [a] at c
  exact Option.some.inj c
theorem msgAt_eq {w : World} {b o : Nat} {C : Array Value} (hs : C.size = 26) (h : w.rangeAt b o C.toList) : HasMsg w b o ∧ msgAt w b o = C := by
  have hh : HasMsg w b o := ⟨C.toList, by simpa using hs, h⟩
  refine ⟨hh, ?_⟩
  unfold msgAt
  rw [dif_pos hh]
  have hc := Classical.choose_spec hh
  rw [range_one hc.2 h (by rw [hc.1]; simpa using hs.symm)]
theorem hasMsg_range {w : World} {b o : Nat} (h : HasMsg w b o) : (msgAt w b o).size = 26 ∧ w.rangeAt b o (msgAt w b o).toList := by
  unfold msgAt
  rw [dif_pos h]
  have hc := Classical.choose_spec h
  exact ⟨by simpa using hc.1, by simpa using hc.2⟩

/-- A message's load, not laid open. -/
def loadMsg (v : Value) : Sem Value := Instr.loadAt 55 v
theorem loadMsg_eq (v : Value) : Instr.loadAt 55 v = loadMsg v := rfl
theorem run_loadMsg {w : World} {b o : Nat} (h : HasMsg w b o) : (loadMsg (.pointer (some ⟨b, o, none⟩))).run Try.prog w = .ok (.agg (msgAt w b o)) w := by
  have hr := hasMsg_range h
  have := run_loadAt_mid (P := Try.prog) w b o 55 (msgAt w b o).toList _ hr.2 Try.underlying55 rfl (size26.trans (by rw [Array.length_toList, hr.1]))
  rw [Array.toArray_toList] at this
  exact this

/-- A message's value. -/
def MsgC (C : Array Value) : Prop := C.size = 26 ∧ C.all (·.oneCell') = true
/-- There is room for a message. -/
def RoomMsg (w : World) (b o : Nat) : Prop := w.there b o 26
/-- A message's store, not laid open. -/
def storeMsg (p v : Value) : Sem Unit := Instr.storeAt 55 p v
theorem storeMsg_eq (p v : Value) : Instr.storeAt 55 p v = storeMsg p v := rfl
theorem run_storeMsg {w : World} {b o : Nat} {C : Array Value} (h : RoomMsg w b o) (hC : MsgC C) : (storeMsg (.pointer (some ⟨b, o, none⟩)) (.agg C)).run Try.prog w = .ok () (w.setCells b o C.toList) :=
  run_storeAt_mid (P := Try.prog) w b o 55 C (by rw [hC.1]; exact h) (size26.trans (by rw [hC.1])) hC.2
theorem foldl_set : ∀ (l : List Value) (k : Nat) (cs : Array Value) (i : Nat), ((l.zipIdx k).foldl (fun cs (p : Value × Nat) => cs.setIfInBounds (0 + p.2) p.1) cs)[i]? = if k ≤ i ∧ i < k + l.length ∧ i < cs.size then l[i - k]? else cs[i]?
  | [], k, cs, i => by rw [if_neg (by simp only [List.length_nil]; omega)]; rfl
  | u :: r, k, cs, i => by
    rw [List.zipIdx_cons, List.foldl_cons, foldl_set r (k + 1) _ i]
    simp only [Nat.zero_add, Array.size_setIfInBounds, List.length_cons]
    by_cases h1 : k = i
    · subst h1
      rw [if_neg (by omega), Array.getElem?_setIfInBounds, if_pos rfl]
      by_cases h2 : k < cs.size
      · rw [if_pos h2, if_pos (by omega), Nat.sub_self]; rfl
      · rw [if_neg h2, if_neg (by omega), Array.getElem?_eq_none (by omega)]
    · by_cases h2 : k ≤ i ∧ i < k + (r.length + 1) ∧ i < cs.size
      · rw [if_pos (by omega), if_pos h2, show i - k = (i - (k + 1)) + 1 by omega]; rfl
      · rw [if_neg (by omega), if_neg h2, Array.getElem?_setIfInBounds, if_neg h1]
theorem fold_msg (C Z : Array Value) (h : Z.size = C.size) : C.zipIdx.foldl (fun cs (p : Value × Nat) => cs.setIfInBounds (0 + p.2) p.1) Z = C := by
  apply Array.ext_getElem?
  intro i
  obtain ⟨l⟩ := C
  have h1 := foldl_set l 0 Z i
  have h2 : ((⟨l⟩ : Array Value).zipIdx.foldl (fun cs (p : Value × Nat) => cs.setIfInBounds (0 + p.2) p.1) Z) = ((l.zipIdx 0).foldl (fun cs (p : Value × Nat) => cs.setIfInBounds (0 + p.2) p.1) Z) := by
    rw [← Array.foldl_toList, Array.toList_zipIdx]
  rw [h2, h1]
  simp only [List.size_toArray] at h
  by_cases hi : i < l.length
  · rw [if_pos (by omega)]; simp
  · rw [if_neg (by omega), Array.getElem?_eq_none (by omega), Array.getElem?_eq_none (by simpa using hi)]
/-- A message laid as a slice of one. -/
def buildMsg (ps : Array (Nat × Value)) : Sem Value := Instr.buildSlice 39 1 ps
theorem buildMsg_eq (ps : Array (Nat × Value)) : Instr.buildSlice 39 1 ps = buildMsg ps := rfl
theorem run_buildMsg {w : World} {C : Array Value} (hC : MsgC C) : (buildMsg #[(0, .agg C)]).run Try.prog w = .ok (.slice (some ⟨w.heap.size, 0, none⟩) 1 1) (w.alloc (.cells C 55)) := by
  obtain ⟨i0, hi0, hz1, hz2⟩ : ∃ i, Try.prog.info? 55 = some i ∧ i.size = 26 ∧ i.bytes = 288 := info_two infoMsg
  have hz := zeroMsg
  have hzc : zeroC.size = 26 := rfl
  generalize zeroC = Z at hz hzc
  have hf := fun (Y : Array Value) (hY : Y.size = 26) => fold_msg C Y (hY.trans hC.1.symm)
  simp only [Nat.zero_add] at hf
  have hs := hC.1
  unfold buildMsg
  have hf2 : ∀ Y : Array Value, Y.size = 26 → Array.foldl (fun (cs : Array Value) (p : Value × Nat) => cs.setIfInBounds p.snd p.fst) Y C.zipIdx 0 26 = C := fun Y hY => by
    have h1 := hf Y hY
    have h2 : C.zipIdx.size = 26 := by simp [hs]
    rw [h2] at h1
    exact h1
  simp [Instr.buildSlice, run_underlying Try.underlying39, sizeOf, typeInfo, hi0, hz1, hz, Value.cells, Instr.fill, hs, newRow, go_sem]
  rw [hf2 _ rfl]
theorem below_drewN {B : Nat} {a w : World} (h : Below B a w) (n : Nat) : Below B a (w.drewN n) := ⟨h.os, h.tape, h.output, h.size, h.block⟩
theorem range_below {w w' : World} {b o : Nat} {cs : List Value} (h : w.rangeAt b o cs) (hB : Below w.heap.size w w') : w'.rangeAt b o cs := fun j v hv => by
  have h1 := h j v hv
  exact (hB.cell (p := ⟨b, o + j, none⟩) (World.block_lt_of_cell? w _ h1)).trans h1
theorem range_grown {w w' : World} {b o : Nat} {row : Option Nat} {cs : List Value} (h : w.rangeAt b o cs) (hg : w.grownBy w' row) (hr : row ≠ some b) : w'.rangeAt b o cs := fun j v hv => by
  have h1 := h j v hv
  exact (hg.cell_far ⟨b, o + j, none⟩ (World.block_lt_of_cell? w _ h1) (fun e => hr e.symm)).trans h1
end Go.Proofs.Ytpaihfdmjkfegaa.Msg
