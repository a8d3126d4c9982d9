/- A message read and written whole: rules of the walk. -/
import Derived.Test.YtmmaolhmhdjldaaBagD
namespace Go.Proofs.Ytmmaolhmhdjldaa.BagS
open Go.RowKit

theorem size26 : (Try.prog.info? 73).map (·.size) = some 26 := by kernel_rfl
/-- A message lies there. -/
def HasMsg (w : World) (b o : Nat) : Prop := ∃ cs : List Value, cs.length = 26 ∧ w.rangeAt b o cs
open Classical in
/-- The message that lies there. -/
noncomputable def msgAt (w : World) (b o : Nat) : Array Value := if h : HasMsg w b o then (Classical.choose h).toArray else #[]
theorem range_one {w : World} {b o : Nat} {cs ds : List Value} (h : w.rangeAt b o cs) (h' : w.rangeAt b o ds) (e : cs.length = ds.length) : cs = ds := by
  apply List.ext_getElem e
  intro i h1 h2
  have a := h i _ (List.getElem?_eq_getElem h1)
  have c := h' i _ (List.getElem?_eq_getElem h2)
  rw [a] at c
  exact Option.some.inj c
theorem msgAt_eq {w : World} {b o : Nat} {C : Array Value} (hs : C.size = 26) (h : w.rangeAt b o C.toList) : HasMsg w b o ∧ msgAt w b o = C := by
  have hh : HasMsg w b o := ⟨C.toList, by simpa using hs, h⟩
  refine ⟨hh, ?_⟩
  unfold msgAt
  rw [dif_pos hh]
  have hc := Classical.choose_spec hh
  rw [range_one hc.2 h (by rw [hc.1]; simpa using hs.symm)]
theorem hasMsg_range {w : World} {b o : Nat} (h : HasMsg w b o) : (msgAt w b o).size = 26 ∧ w.rangeAt b o (msgAt w b o).toList := by
  unfold msgAt
  rw [dif_pos h]
  have hc := Classical.choose_spec h
  exact ⟨by simpa using hc.1, by simpa using hc.2⟩

/-- A message's load, not laid open. -/
def loadMsg (v : Value) : Sem Value := Instr.loadAt 73 v
theorem loadMsg_eq (v : Value) : Instr.loadAt 73 v = loadMsg v := rfl
theorem run_loadMsg {w : World} {b o : Nat} (h : HasMsg w b o) : (loadMsg (.pointer (some ⟨b, o, none⟩))).run Try.prog w = .ok (.agg (msgAt w b o)) w := by
  have hr := hasMsg_range h
  have := run_loadAt_mid (P := Try.prog) w b o 73 (msgAt w b o).toList _ hr.2 Try.underlying73 rfl (size26.trans (by rw [Array.length_toList, hr.1]))
  rw [Array.toArray_toList] at this
  exact this

/-- A message's value. -/
def MsgC (C : Array Value) : Prop := C.size = 26 ∧ C.all (·.oneCell') = true
/-- There is room for a message. -/
def RoomMsg (w : World) (b o : Nat) : Prop := w.there b o 26
/-- A message's store, not laid open. -/
def storeMsg (p v : Value) : Sem Unit := Instr.storeAt 73 p v
theorem storeMsg_eq (p v : Value) : Instr.storeAt 73 p v = storeMsg p v := rfl
theorem run_storeMsg {w : World} {b o : Nat} {C : Array Value} (h : RoomMsg w b o) (hC : MsgC C) : (storeMsg (.pointer (some ⟨b, o, none⟩)) (.agg C)).run Try.prog w = .ok () (w.setCells b o C.toList) :=
  run_storeAt_mid (P := Try.prog) w b o 73 C (by rw [hC.1]; exact h) (size26.trans (by rw [hC.1])) hC.2
theorem foldl_set : ∀ (l : List Value) (k : Nat) (cs : Array Value) (i : Nat), ((l.zipIdx k).foldl (fun cs (p : Value × Nat) => cs.setIfInBounds (0 + p.2) p.1) cs)[i]? = if k ≤ i ∧ i < k + l.length ∧ i < cs.size then l[i - k]? else cs[i]?
  | [], k, cs, i => by rw [if_neg (by simp only [List.length_nil]; omega)]; rfl
  | u :: r, k, cs, i => by
    rw [List.zipIdx_cons, List.foldl_cons, foldl_set r (k + 1) _ i]
    simp only [Nat.zero_add, Array.size_setIfInBounds, List.length_cons]
    by_cases h1 : k = i
    · subst h1
      rw [if_neg (by omega), Array.getElem?_setIfInBounds, if_pos rfl]
      by_cases h2 : k < cs.size
      · rw [if_pos h2, if_pos (by omega), Nat.sub_self]; rfl
      · rw [if_neg h2, if_neg (by omega), Array.getElem?_eq_none (by omega)]
    · by_cases h2 : k ≤ i ∧ i < k + (r.length + 1) ∧ i < cs.size
      · rw [if_pos (by omega), if_pos h2, show i - k = (i - (k + 1)) + 1 by omega]; rfl
      · rw [if_neg (by omega), if_neg h2, Array.getElem?_setIfInBounds, if_neg h1]
theorem fold_msg (C Z : Array Value) (h : Z.size = C.size) : C.zipIdx.foldl (fun cs (p : Value × Nat) => cs.setIfInBounds (0 + p.2) p.1) Z = C := by
  apply Array.ext_getElem?
  intro i
  obtain ⟨l⟩ := C
  have h1 := foldl_set l 0 Z i
  have h2 : ((⟨l⟩ : Array Value).zipIdx.foldl (fun cs (p : Value × Nat) => cs.setIfInBounds (0 + p.2) p.1) Z) = ((l.zipIdx 0).foldl (fun cs (p : Value × Nat) => cs.setIfInBounds (0 + p.2) p.1) Z) := by
    rw [← Array.foldl_toList, Array.toList_zipIdx]
  rw [h2, h1]
  simp only [List.size_toArray] at h
  by_cases hi : i < l.length
  · rw [if_pos (by omega)]; simp
  · rw [if_neg (by omega), Array.getElem?_eq_none (by omega), Array.getElem?_eq_none (by simpa using hi)]
/-- A message laid as a slice of one. -/
def buildMsg (ps : Array (Nat × Value)) : Sem Value := Instr.buildSlice 147 1 ps
theorem buildMsg_eq (ps : Array (Nat × Value)) : Instr.buildSlice 147 1 ps = buildMsg ps := rfl
theorem run_buildMsg {w : World} {C : Array Value} (hC : MsgC C) : (buildMsg #[(0, .agg C)]).run Try.prog w = .ok (.slice (some ⟨w.heap.size, 0, none⟩) 1 1) (w.alloc (.cells C 73)) := by
  obtain ⟨i0, hi0, hz1, hz2⟩ : ∃ i, Try.prog.info? 73 = some i ∧ i.size = 26 ∧ i.bytes = 288 := info_two infoMsg
  have hz := zeroMsg
  have hzc : zeroC.size = 26 := rfl
  generalize zeroC = Z at hz hzc
  have hf := fun (Y : Array Value) (hY : Y.size = 26) => fold_msg C Y (hY.trans hC.1.symm)
  simp only [Nat.zero_add] at hf
  have hs := hC.1
  unfold buildMsg
  have hf2 : ∀ Y : Array Value, Y.size = 26 → Array.foldl (fun (cs : Array Value) (p : Value × Nat) => cs.setIfInBounds p.snd p.fst) Y C.zipIdx 0 26 = C := fun Y hY => by
    have h1 := hf Y hY
    have h2 : C.zipIdx.size = 26 := by simp [hs]
    rw [h2] at h1
    exact h1
  simp [Instr.buildSlice, run_underlying Try.underlying147, sizeOf, typeInfo, hi0, hz1, hz, Value.cells, Instr.fill, hs, newRow, go_sem]
  rw [hf2 _ rfl]
theorem NilC.msg {C : Array Value} (h : NilC C) : MsgC C := ⟨h.size, Array.all_eq_true_iff_forall_mem.2 fun u hu => h.one u (by simpa using hu)⟩

theorem below_drewN {B : Nat} {a w : World} (h : Below B a w) (n : Nat) : Below B a (w.drewN n) := ⟨h.os, h.tape, h.output, h.size, h.block⟩
theorem range_below {w w' : World} {b o : Nat} {cs : List Value} (h : w.rangeAt b o cs) (hB : Below w.heap.size w w') : w'.rangeAt b o cs := fun j v hv => by
  have h1 := h j v hv
  exact (hB.cell (p := ⟨b, o + j, none⟩) (World.block_lt_of_cell? w _ h1)).trans h1
theorem range_grown {w w' : World} {b o : Nat} {row : Option Nat} {cs : List Value} (h : w.rangeAt b o cs) (hg : w.grownBy w' row) (hr : row ≠ some b) : w'.rangeAt b o cs := fun j v hv => by
  have h1 := h j v hv
  exact (hg.cell_far ⟨b, o + j, none⟩ (World.block_lt_of_cell? w _ h1) (fun e => hr e.symm)).trans h1
end Go.Proofs.Ytmmaolhmhdjldaa.BagS
