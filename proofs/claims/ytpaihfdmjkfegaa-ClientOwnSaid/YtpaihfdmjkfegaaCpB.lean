/- A client in memory: its cells, what changes them. -/
import Derived.Test.YtpaihfdmjkfegaaCpA
import Derived.Deep.Upon
import Derived.Laws.IdiomCopy
namespace Go.Proofs.Ytpaihfdmjkfegaa.Cl
open Go.RowKit Go.Proofs.Ytpaihfdmjkfegaa.Msg

/-- What may have been changed. -/
structure Chg (S : Nat → Prop) (w w' : World) : Prop where
  os : w'.os = w.os
  tape : w'.tape = w.tape
  output : w'.output = w.output
  size : w.heap.size ≤ w'.heap.size
  block : ∀ k, k < w.heap.size → ¬ S k → w'.heap[k]? = w.heap[k]?
section
variable {S S' : Nat → Prop} {a b c w w' : World}
theorem Chg.refl (S : Nat → Prop) (w : World) : Chg S w w := ⟨rfl, rfl, rfl, Nat.le_refl _, fun _ _ _ => rfl⟩
theorem Chg.trans (h : Chg S a b) (k : Chg S' b c) (hs : ∀ j, j < a.heap.size → S' j → S j) : Chg S a c :=
  ⟨k.os.trans h.os, k.tape.trans h.tape, k.output.trans h.output, Nat.le_trans h.size k.size, fun j hj hn => (k.block j (Nat.lt_of_lt_of_le hj h.size) (fun x => hn (hs j hj x))).trans (h.block j hj hn)⟩
theorem Chg.on (h : Chg S a b) (k : Chg S b c) : Chg S a c := h.trans k (fun _ _ x => x)
theorem Chg.more (h : Chg S a b) (hs : ∀ j, j < a.heap.size → S j → S' j) : Chg S' a b := ⟨h.os, h.tape, h.output, h.size, fun j hj hn => h.block j hj (fun x => hn (hs j hj x))⟩
theorem Chg.of (h : Below a.heap.size a b) : Chg S a b := ⟨h.os, h.tape, h.output, h.size, fun j hj _ => h.block j hj⟩
theorem Chg.then (h : Chg S a b) (k : Below b.heap.size b c) : Chg S a c := h.on (.of k)
theorem Chg.below {B : Nat} (h : Chg S a b) (hB : B ≤ a.heap.size) (hs : ∀ j, S j → B ≤ j) : Below B a b := ⟨h.os, h.tape, h.output, h.size, fun j hj => h.block j (Nat.lt_of_lt_of_le hj hB) (fun x => absurd (hs j x) (by omega))⟩
theorem Chg.drew (h : Chg S a b) : Chg S a b.drew := ⟨h.os, h.tape, h.output, h.size, h.block⟩
theorem Chg.drewN (h : Chg S a b) (n : Nat) : Chg S a (b.drewN n) := ⟨h.os, h.tape, h.output, h.size, h.block⟩
theorem Chg.alloc (h : Chg S a b) (o : Obj) : Chg S a (b.alloc o) := h.then ((Below.refl _ _).alloc (Nat.le_refl _) o)
theorem Chg.set (h : Chg S a b) {p : Addr} (hp : a.heap.size ≤ p.block ∨ S p.block) (u : Value) : Chg S a (b.setCell p u) :=
  ⟨h.os, h.tape, h.output, by rw [show (b.setCell p u).heap.size = b.heap.size by simp]; exact h.size, fun j hj hn => by
    rw [Below.heap_setCell b p u j (fun e => by rcases hp with hp | hp; (· omega); exact hn (e ▸ hp))]
    exact h.block j hj hn⟩
theorem Chg.sets (g o : Nat) : ∀ {w : World} (l : List Value), Chg S a w → a.heap.size ≤ g ∨ S g → Chg S a (w.setCells g o l) := by
  intro w l
  induction l generalizing w o with
  | nil => exact fun h _ => h
  | cons u r ih => exact fun h hg => ih (o + 1) (h.set (p := ⟨g, o, none⟩) hg u) hg
theorem _root_.Go.Proofs.Ytpaihfdmjkfegaa.Msg.Blk.chg {g : Nat} {t : TypeId} {cs : Array Value} (h : Blk a g t cs) (k : Chg S a b) (hg : ¬ S g) : Blk b g t cs := (k.block g h.lt hg).trans h
theorem Chg.cell (h : Chg S a b) {p : Addr} {v : Value} (hp : a.cell? p = some v) (hn : ¬ S p.block) : b.cell? p = some v :=
  (World.cell?_of_block (h.block p.block (World.block_lt_of_cell? a _ hp) hn)).trans hp
end

theorem blk_sets {g : Nat} {t : TypeId} : ∀ (l : List Value) {w : World} {cs : Array Value} (o : Nat), Blk w g t cs → Blk (w.setCells g o l) g t (over cs.toList o l).toArray
  | [], _, _, _, h => by rw [over]; exact h
  | u :: r, w, cs, o, h => by
    have := blk_sets r (o + 1) (h.set_ o u)
    rw [Array.toList_setIfInBounds] at this
    exact this

/-- An act. -/
structure ActV where
  who : Int
  call : Int
  n : Int
  c : Int
  key : ByteArray
  value : ByteArray
  found : Bool
  code : Int
  stamp : Int
  from_ : Int
  to : Int
def ActV.cs (a : ActV) : Array Value := #[.int .i64 a.who, .int .i64 a.call, .int .i64 a.n, .int .i64 a.c, .string a.key, .string a.value, .bool a.found, .int .i64 a.code, .int .i64 a.stamp, .int .i64 a.from_, .int .i64 a.to]
def zeroAct : ActV := ⟨0, 0, 0, 0, ⟨#[]⟩, ⟨#[]⟩, false, 0, 0, 0, 0⟩

/-- A client. -/
structure Client where
  num : Int
  q : Int
  D : Nat
  vo : Value
  vg : Value
  cnt : Int
  seq : Int
  vt : Value
  waits : Bool
  hinted : Bool
  grp : Int
  M : Array Value
  act : ActV
def Client.hd (c : Client) : Array Value := #[.int .i64 c.num, .int .i64 c.q, .pointer (some ⟨c.D, 0, none⟩), c.vo, c.vg, .int .i64 c.cnt, .int .i64 c.seq, c.vt, .bool c.waits, .bool c.hinted, .int .i64 c.grp]
def Client.cs (c : Client) : Array Value := c.hd ++ c.M ++ c.act.cs
structure ClAt (v : World) (p : Nat) (c : Client) : Prop where
  blk : Blk v p 79 c.cs
  msg : MsgC c.M

section
variable {v : World} {p : Nat} {c : Client}
theorem hd_size (c : Client) : c.hd.size = 11 := rfl
theorem cs_hd (c : Client) (i : Nat) (hi : i < 11) : c.cs[i]? = c.hd[i]? := by
  unfold Client.cs
  rw [Array.getElem?_append_left (by rw [Array.size_append, hd_size]; omega), Array.getElem?_append_left (by rw [hd_size]; omega)]
theorem cs_msg (c : Client) (h : c.M.size = 26) (j : Nat) (hj : j < 26) : c.cs[11 + j]? = c.M[j]? := by
  unfold Client.cs
  rw [Array.getElem?_append_left (by rw [Array.size_append, hd_size]; omega), Array.getElem?_append_right (by rw [hd_size]; omega), hd_size]
  congr 1
  omega
theorem cs_act (c : Client) (h : c.M.size = 26) (j : Nat) : c.cs[37 + j]? = c.act.cs[j]? := by
  unfold Client.cs
  rw [Array.getElem?_append_right (by rw [Array.size_append, hd_size]; omega), Array.size_append, hd_size, h]
  congr 1
  omega
theorem ClAt.at (h : ClAt v p c) (i : Nat) (hi : i < 11) {u : Value} (hu : c.hd[i]? = some u) : v.cell? ⟨p, i, none⟩ = some u := by rw [h.blk.cell, cs_hd c i hi, hu]
theorem ClAt.frz (h : ClAt v p c) (i : Nat) : v.frozen? ⟨p, i, none⟩ = false := h.blk.frozen i
theorem ClAt.num (h : ClAt v p c) : v.cell? ⟨p, 0, none⟩ = some (.int .i64 c.num) := h.at 0 (by decide) rfl
theorem ClAt.q (h : ClAt v p c) : v.cell? ⟨p, 1, none⟩ = some (.int .i64 c.q) := h.at 1 (by decide) rfl
theorem ClAt.dir (h : ClAt v p c) : v.cell? ⟨p, 2, none⟩ = some (.pointer (some ⟨c.D, 0, none⟩)) := h.at 2 (by decide) rfl
theorem ClAt.vo (h : ClAt v p c) : v.cell? ⟨p, 3, none⟩ = some c.vo := h.at 3 (by decide) rfl
theorem ClAt.vg (h : ClAt v p c) : v.cell? ⟨p, 4, none⟩ = some c.vg := h.at 4 (by decide) rfl
theorem ClAt.cnt (h : ClAt v p c) : v.cell? ⟨p, 5, none⟩ = some (.int .i64 c.cnt) := h.at 5 (by decide) rfl
theorem ClAt.seq (h : ClAt v p c) : v.cell? ⟨p, 6, none⟩ = some (.int .i64 c.seq) := h.at 6 (by decide) rfl
theorem ClAt.vt (h : ClAt v p c) : v.cell? ⟨p, 7, none⟩ = some c.vt := h.at 7 (by decide) rfl
theorem ClAt.waits (h : ClAt v p c) : v.cell? ⟨p, 8, none⟩ = some (.bool c.waits) := h.at 8 (by decide) rfl
theorem ClAt.hinted (h : ClAt v p c) : v.cell? ⟨p, 9, none⟩ = some (.bool c.hinted) := h.at 9 (by decide) rfl
theorem ClAt.grp (h : ClAt v p c) : v.cell? ⟨p, 10, none⟩ = some (.int .i64 c.grp) := h.at 10 (by decide) rfl
theorem ClAt.m (h : ClAt v p c) (j : Nat) (hj : j < 26) {u : Value} (hu : c.M[j]? = some u) : v.cell? ⟨p, 11 + j, none⟩ = some u := by rw [h.blk.cell, cs_msg c h.msg.1 j hj, hu]
theorem ClAt.a (h : ClAt v p c) (j : Nat) {u : Value} (hu : c.act.cs[j]? = some u) : v.cell? ⟨p, 37 + j, none⟩ = some u := by rw [h.blk.cell, cs_act c h.msg.1 j, hu]
theorem ClAt.range (h : ClAt v p c) : v.rangeAt p 11 c.M.toList := fun j u hu => by
  rw [Array.getElem?_toList] at hu
  exact h.m j (by have := (Array.getElem?_eq_some_iff.1 hu).1; rw [h.msg.1] at this; exact this) hu
theorem ClAt.has (h : ClAt v p c) : HasMsg v p 11 ∧ msgAt v p 11 = c.M := msgAt_eq h.msg.1 h.range
theorem ClAt.room (h : ClAt v p c) : RoomMsg v p 11 := fun j hj => by
  refine ⟨?_, h.frz _⟩
  have : c.M[j]? = some c.M[j]! := by
    have := h.msg.1
    rw [Array.getElem?_eq_getElem (by omega), getElem!_pos c.M j (by omega)]
  rw [h.m j hj this]
  rfl
theorem hd_set (c : Client) (i : Nat) (u : Value) (hi : i < 11) : c.cs.setIfInBounds i u = c.hd.setIfInBounds i u ++ c.M ++ c.act.cs := by
  unfold Client.cs
  rw [Array.setIfInBounds_append_left (by rw [Array.size_append, hd_size]; omega), Array.setIfInBounds_append_left (by rw [hd_size]; omega)]
theorem ClAt.put (h : ClAt v p c) (i : Nat) (u : Value) (hi : i < 11) {c' : Client} (hm : c'.M = c.M) (ha : c'.act = c.act) (hh : c'.hd = c.hd.setIfInBounds i u) : ClAt (v.setCell ⟨p, i, none⟩ u) p c' := by
  refine ⟨?_, hm ▸ h.msg⟩
  have := h.blk.set_ i u
  rw [hd_set c i u hi] at this
  unfold Client.cs
  rw [hm, ha, hh]
  exact this
theorem ClAt.putM (h : ClAt v p c) {C : Array Value} (hC : MsgC C) : ClAt (v.setCells p 11 C.toList) p { c with M := C } := by
  refine ⟨?_, hC⟩
  have := blk_sets C.toList 11 h.blk
  rw [over_eq _ _ _ (by
    have h1 := h.msg.1
    have h2 := hC.1
    simp [Client.cs, ActV.cs, hd_size, h1, h2])] at this
  have e : (c.cs.toList.take 11 ++ C.toList ++ c.cs.toList.drop (11 + C.toList.length)).toArray = ({ c with M := C } : Client).cs := by
    have h1 := h.msg.1
    have h2 := hC.1
    have t : c.cs.toList = c.hd.toList ++ c.M.toList ++ c.act.cs.toList := by simp [Client.cs]
    have l1 : c.hd.toList.length = 11 := rfl
    have l2 : c.M.toList.length = 26 := by simpa using h1
    have l3 : C.toList.length = 26 := by simpa using h2
    rw [t, l3, List.drop_left' (by rw [List.length_append, l1, l2]), List.append_assoc c.hd.toList c.M.toList, List.take_left' l1]
    simp [Client.cs, Client.hd]
  rw [e] at this
  exact this
theorem ClAt.putA (h : ClAt v p c) (a : ActV) : ClAt (v.setCells p 37 a.cs.toList) p { c with act := a } := by
  refine ⟨?_, h.msg⟩
  have := blk_sets a.cs.toList 37 h.blk
  have h1 := h.msg.1
  rw [over_eq _ _ _ (by simp [Client.cs, ActV.cs, hd_size, h1])] at this
  have e : (c.cs.toList.take 37 ++ a.cs.toList ++ c.cs.toList.drop (37 + a.cs.toList.length)).toArray = ({ c with act := a } : Client).cs := by
    have t : c.cs.toList = c.hd.toList ++ c.M.toList ++ c.act.cs.toList := by simp [Client.cs]
    have l1 : c.hd.toList.length = 11 := rfl
    have l2 : c.M.toList.length = 26 := by simpa using h1
    have l3 : a.cs.toList.length = 11 := rfl
    have l4 : c.act.cs.toList.length = 11 := rfl
    rw [t, List.take_left' (by rw [List.length_append, l1, l2]), l3, List.drop_eq_nil_of_le (by simp only [List.length_append, l1, l2, l4]; omega)]
    simp [Client.cs, Client.hd]
  rw [e] at this
  exact this
theorem ClAt.chg {S : Nat → Prop} {v' : World} (h : ClAt v p c) (k : Chg S v v') (hp : ¬ S p) : ClAt v' p c := ⟨h.blk.chg k hp, h.msg⟩
theorem ClAt.below {B : Nat} {v' : World} (h : ClAt v p c) (k : Below B v v') (hp : p < B) : ClAt v' p c := ⟨h.blk.below k hp, h.msg⟩
end
end Go.Proofs.Ytpaihfdmjkfegaa.Cl
