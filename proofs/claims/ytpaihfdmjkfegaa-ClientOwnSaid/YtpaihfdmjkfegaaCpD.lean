/- An act, a call: read and written whole. -/
import Derived.Test.YtpaihfdmjkfegaaCpC
namespace Go.Proofs.Ytpaihfdmjkfegaa.Cl
open Go.RowKit Go.Proofs.Ytpaihfdmjkfegaa.Msg

/-- n cells lie there. -/
def HasN (n : Nat) (w : World) (b o : Nat) : Prop := ∃ cs : List Value, cs.length = n ∧ w.rangeAt b o cs
open Classical in
noncomputable def valN (n : Nat) (w : World) (b o : Nat) : Array Value := if h : HasN n w b o then (Classical.choose h).toArray else #[]
theorem valN_eq {n : Nat} {w : World} {b o : Nat} {C : Array Value} (hs : C.size = n) (h : w.rangeAt b o C.toList) : HasN n w b o ∧ valN n w b o = C := by
  have hh : HasN n w b o := ⟨C.toList, by simpa using hs, h⟩
  refine ⟨hh, ?_⟩
  unfold valN
  rw [dif_pos hh]
  have hc := Classical.choose_spec hh
  rw [range_one hc.2 h (by rw [hc.1]; simpa using hs.symm)]
theorem hasN_range {n : Nat} {w : World} {b o : Nat} (h : HasN n w b o) : (valN n w b o).size = n ∧ w.rangeAt b o (valN n w b o).toList := by
  unfold valN
  rw [dif_pos h]
  have hc := Classical.choose_spec h
  exact ⟨by simpa using hc.1, by simpa using hc.2⟩
/-- Cells written over from a place on. -/
def putN (w : World) (b o : Nat) (C : Array Value) : World := w.setCells b o C.toList
def RoomN (n : Nat) (w : World) (b o : Nat) : Prop := w.there b o n
def CellsN (n : Nat) (C : Array Value) : Prop := C.size = n ∧ C.all (·.oneCell') = true

theorem size11 : (Try.prog.info? 43).map (·.size) = some 11 := by kernel_rfl
theorem size13 : (Try.prog.info? 102).map (·.size) = some 13 := by kernel_rfl
def loadAct (v : Value) : Sem Value := Instr.loadAt 43 v
theorem loadAct_eq (v : Value) : Instr.loadAt 43 v = loadAct v := rfl
theorem run_loadAct {w : World} {b o : Nat} (h : HasN 11 w b o) : (loadAct (.pointer (some ⟨b, o, none⟩))).run Try.prog w = .ok (.agg (valN 11 w b o)) w := by
  have hr := hasN_range h
  have := run_loadAt_mid (P := Try.prog) w b o 43 (valN 11 w b o).toList _ hr.2 Try.underlying43 rfl (size11.trans (by rw [Array.length_toList, hr.1]))
  rw [Array.toArray_toList] at this
  exact this
def storeAct (p v : Value) : Sem Unit := Instr.storeAt 43 p v
theorem storeAct_eq (p v : Value) : Instr.storeAt 43 p v = storeAct p v := rfl
theorem run_storeAct {w : World} {b o : Nat} {C : Array Value} (h : RoomN 11 w b o) (hC : CellsN 11 C) : (storeAct (.pointer (some ⟨b, o, none⟩)) (.agg C)).run Try.prog w = .ok () (putN w b o C) :=
  run_storeAt_mid (P := Try.prog) w b o 43 C (by rw [hC.1]; exact h) (size11.trans (by rw [hC.1])) hC.2
def storeCall (p v : Value) : Sem Unit := Instr.storeAt 102 p v
theorem storeCall_eq (p v : Value) : Instr.storeAt 102 p v = storeCall p v := rfl
theorem run_storeCall {w : World} {b o : Nat} {C : Array Value} (h : RoomN 13 w b o) (hC : CellsN 13 C) : (storeCall (.pointer (some ⟨b, o, none⟩)) (.agg C)).run Try.prog w = .ok () (putN w b o C) :=
  run_storeAt_mid (P := Try.prog) w b o 102 C (by rw [hC.1]; exact h) (size13.trans (by rw [hC.1])) hC.2
def loadCall (v : Value) : Sem Value := Instr.loadAt 102 v
theorem loadCall_eq (v : Value) : Instr.loadAt 102 v = loadCall v := rfl
theorem run_loadCall {w : World} {b o : Nat} (h : HasN 13 w b o) : (loadCall (.pointer (some ⟨b, o, none⟩))).run Try.prog w = .ok (.agg (valN 13 w b o)) w := by
  have hr := hasN_range h
  have := run_loadAt_mid (P := Try.prog) w b o 102 (valN 13 w b o).toList _ hr.2 Try.underlying102 rfl (size13.trans (by rw [Array.length_toList, hr.1]))
  rw [Array.toArray_toList] at this
  exact this

theorem blkN_has {n : Nat} {w : World} {g : Nat} {t : TypeId} {C : Array Value} (h : Blk w g t C) (hs : C.size = n) : HasN n w g 0 ∧ valN n w g 0 = C := valN_eq hs h.range
theorem blkN_room {n : Nat} {w : World} {g : Nat} {t : TypeId} {C : Array Value} (h : Blk w g t C) (hs : C.size = n) : RoomN n w g 0 := by
  have := h.there
  rw [hs] at this
  exact this
theorem roomN_new {n : Nat} (w : World) (t : TypeId) (Z : Array Value) (h : Z.size = n) : RoomN n (w.alloc (.cells Z t)) w.heap.size 0 := blkN_room (Blk.new w t Z) h
theorem putN_chg {S : Nat → Prop} {a w : World} (h : Chg S a w) {b : Nat} (hb : a.heap.size ≤ b ∨ S b) (o : Nat) (C : Array Value) : Chg S a (putN w b o C) := Chg.sets b o C.toList h hb
theorem putN_below {B : Nat} {a w : World} (h : Below B a w) {b : Nat} (hb : B ≤ b) (o : Nat) (C : Array Value) : Below B a (putN w b o C) := below_setCells h b o hb C.toList
theorem putN_fill {w : World} {g : Nat} {t : TypeId} {Z C : Array Value} (h : Blk w g t Z) (hs : Z.size = C.size) : Blk (putN w g 0 C) g t C := blk_fill h hs
theorem putN_far {w : World} {g b o : Nat} {t : TypeId} {Z C : Array Value} (h : Blk w g t Z) (hg : g ≠ b) : Blk (putN w b o C) g t Z := h.chg (putN_chg (S := fun j => j = b) (Chg.refl _ w) (.inr rfl) o C) hg
theorem ClAt.putA' {v : World} {p : Nat} {c : Client} (h : ClAt v p c) (a : ActV) : ClAt (putN v p 37 a.cs) p { c with act := a } := h.putA a
theorem ActV.cells (a : ActV) : CellsN 11 a.cs := ⟨rfl, by simp [ActV.cs, Value.oneCell']⟩
theorem ClAt.hasA {v : World} {p : Nat} {c : Client} (h : ClAt v p c) : HasN 11 v p 37 ∧ valN 11 v p 37 = c.act.cs :=
  valN_eq rfl (fun j u hu => h.a j (by rwa [Array.getElem?_toList] at hu))
theorem ClAt.roomA {v : World} {p : Nat} {c : Client} (h : ClAt v p c) : RoomN 11 v p 37 := fun j hj => by
  refine ⟨?_, h.frz _⟩
  have e : c.act.cs[j]? = some c.act.cs[j]! := by
    have hs : c.act.cs.size = 11 := rfl
    rw [Array.getElem?_eq_getElem (by omega), getElem!_pos c.act.cs j (by omega)]
  rw [h.a j e]
  rfl
/-- A call's result that is a variable, read when all is done. -/
theorem load_call {w : World} {b : Nat} {C : Array Value} (hs : C.size = 13) (h : w.rangeAt b 0 C.toList) : (loadVar 102 ⟨b, 0, none⟩).run Try.prog w = .ok (.agg C) w := by
  have := run_loadVar_mid (P := Try.prog) w b 0 102 C.toList _ h Try.underlying102 rfl (size13.trans (by rw [Array.length_toList, hs]))
  rwa [Array.toArray_toList] at this
theorem load_act {w : World} {b : Nat} {C : Array Value} (hs : C.size = 11) (h : w.rangeAt b 0 C.toList) : (loadVar 43 ⟨b, 0, none⟩).run Try.prog w = .ok (.agg C) w := by
  have := run_loadVar_mid (P := Try.prog) w b 0 43 C.toList _ h Try.underlying43 rfl (size11.trans (by rw [Array.length_toList, hs]))
  rwa [Array.toArray_toList] at this
end Go.Proofs.Ytpaihfdmjkfegaa.Cl
