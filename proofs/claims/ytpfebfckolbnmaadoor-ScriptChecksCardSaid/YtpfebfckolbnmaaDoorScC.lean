/- A step with just the fields of its kind: script.only, walked. -/
import Derived.Test.YtpfebfckolbnmaaDoorScB
import Derived.Lib.OthersKept
namespace Go.Proofs.YtpfebfckolbnmaaDoor.Sc
open Go.RowKit Go.Lib Go.Proofs.YtpfebfckolbnmaaDoor.Sta Go.Proofs.YtpfebfckolbnmaaDoor.Rd Go.Proofs.YtpfebfckolbnmaaDoor.Cls

/-- A step's cells at a block. -/
structure StpAt (v : World) (H : Nat) (s : Stp) : Prop where
  lt : H < v.heap.size
  c0 : v.cell? ⟨H, 0, none⟩ = some (.int .i64 s.kind)
  c1 : v.cell? ⟨H, 1, none⟩ = some (.int .i64 s.client)
  c2 : v.cell? ⟨H, 2, none⟩ = some (.int .i64 s.group)
  c3 : v.cell? ⟨H, 3, none⟩ = some (.int .i64 s.node)
  c4 : v.cell? ⟨H, 4, none⟩ = some (.string s.key)
  c5 : v.cell? ⟨H, 5, none⟩ = some (.string s.val)
  c6 : v.cell? ⟨H, 6, none⟩ = some (.int .i64 s.n)
  c7 : v.cell? ⟨H, 7, none⟩ = some (.int .i64 s.cut)
theorem StpAt.keep {v v' : World} {H : Nat} {s : Stp} (h : StpAt v H s) (hs : v.heap.size ≤ v'.heap.size) (hb : v'.heap[H]? = v.heap[H]?) : StpAt v' H s :=
  ⟨Nat.lt_of_lt_of_le h.lt hs, (World.cell?_of_block (a := ⟨H, 0, none⟩) hb).trans h.c0, (World.cell?_of_block (a := ⟨H, 1, none⟩) hb).trans h.c1, (World.cell?_of_block (a := ⟨H, 2, none⟩) hb).trans h.c2,
    (World.cell?_of_block (a := ⟨H, 3, none⟩) hb).trans h.c3, (World.cell?_of_block (a := ⟨H, 4, none⟩) hb).trans h.c4, (World.cell?_of_block (a := ⟨H, 5, none⟩) hb).trans h.c5,
    (World.cell?_of_block (a := ⟨H, 6, none⟩) hb).trans h.c6, (World.cell?_of_block (a := ⟨H, 7, none⟩) hb).trans h.c7⟩
theorem StpAt.below {v v' : World} {H : Nat} {s : Stp} (h : StpAt v H s) (hb : Below v.heap.size v v') : StpAt v' H s := h.keep hb.size (hb.block H h.lt)

/-- One letter's field, taken over. -/
def stepL (s d : Stp) (c : UInt8) : Stp :=
  if c = 99 then { d with client := s.client } else if c = 107 then { d with key := s.key } else if c = 118 then { d with val := s.val }
  else if c = 97 then { d with group := s.group, node := s.node } else if c = 110 then { d with n := s.n } else if c = 116 then { d with cut := s.cut } else d
def bare (s : Stp) : Stp := ⟨s.kind, 0, 0, 0, ⟨#[]⟩, ⟨#[]⟩, 0, 0⟩
def onlyS (s : Stp) (f : ByteArray) : Stp := f.data.toList.foldl (stepL s) (bare s)

/-- What the loop of script.only holds. -/
structure OnlyAt (w : World) (s : Stp) (f : ByteArray) (pos : Nat) (d : Stp) (v : World) : Prop where
  below : Below w.heap.size w v
  size : w.heap.size + 5 ≤ v.heap.size
  src : StpAt v w.heap.size s
  dst : StpAt v (w.heap.size + 1 + 1 + 1) d
  res : StpAt v (w.heap.size + 1 + 1) ⟨0, 0, 0, 0, ⟨#[]⟩, ⟨#[]⟩, 0, 0⟩
  it : v.heap[w.heap.size + 1 + 1 + 1 + 1]? = some (.stringIter f pos)
  fd : ∀ i, v.frozen? ⟨w.heap.size + 1 + 1 + 1, i, none⟩ = false
  fr : ∀ i, v.frozen? ⟨w.heap.size + 1 + 1, i, none⟩ = false
theorem OnlyAt.next {w v : World} {s d : Stp} {f : ByteArray} {pos : Nat} (h : OnlyAt w s f pos d v) : OnlyAt w s f (pos + 1) d (v.iterAt (w.heap.size + 1 + 1 + 1 + 1) f (pos + 1)) where
  below := below_iterAt h.below (by omega) _ _
  size := by rw [iterAt_size]; exact h.size
  src := h.src.keep (by rw [iterAt_size]; exact Nat.le_refl _) (iterAt_other _ _ _ _ _ (by omega))
  dst := h.dst.keep (by rw [iterAt_size]; exact Nat.le_refl _) (iterAt_other _ _ _ _ _ (by omega))
  res := h.res.keep (by rw [iterAt_size]; exact Nat.le_refl _) (iterAt_other _ _ _ _ _ (by omega))
  it := iterAt_heap _ _ _ _ _ h.it
  fd := fun i => by rw [World.frozen?_of_block (a := ⟨w.heap.size + 1 + 1 + 1, i, none⟩) (iterAt_other _ _ _ _ _ (by show w.heap.size + 1 + 1 + 1 ≠ w.heap.size + 1 + 1 + 1 + 1; omega))]; exact h.fd i
  fr := fun i => by rw [World.frozen?_of_block (a := ⟨w.heap.size + 1 + 1, i, none⟩) (iterAt_other _ _ _ _ _ (by show w.heap.size + 1 + 1 ≠ w.heap.size + 1 + 1 + 1 + 1; omega))]; exact h.fr i
theorem OnlyAt.put {w v : World} {s d d' : Stp} {f : ByteArray} {pos : Nat} (h : OnlyAt w s f pos d v) (i : Nat) (u : Value) (hd : StpAt (v.setCell ⟨w.heap.size + 1 + 1 + 1, i, none⟩ u) (w.heap.size + 1 + 1 + 1) d') : OnlyAt w s f pos d' (v.setCell ⟨w.heap.size + 1 + 1 + 1, i, none⟩ u) where
  below := h.below.setCell (by show w.heap.size ≤ w.heap.size + 1 + 1 + 1; omega) _
  size := by rw [World.size_setCell]; exact h.size
  src := h.src.keep (by rw [World.size_setCell]; exact Nat.le_refl _) (Below.heap_setCell _ _ _ _ (by show w.heap.size ≠ w.heap.size + 1 + 1 + 1; omega))
  dst := hd
  res := h.res.keep (by rw [World.size_setCell]; exact Nat.le_refl _) (Below.heap_setCell _ _ _ _ (by show w.heap.size + 1 + 1 ≠ w.heap.size + 1 + 1 + 1; omega))
  it := (Below.heap_setCell _ _ _ _ (by show w.heap.size + 1 + 1 + 1 + 1 ≠ w.heap.size + 1 + 1 + 1; omega)).trans h.it
  fd := fun i => by rw [World.frozen?_setCell]; exact h.fd i
  fr := fun i => by rw [World.frozen?_setCell]; exact h.fr i
theorem StpAt.set_client {v : World} {H : Nat} {d : Stp} (h : StpAt v H d) (a : Int) : StpAt (v.setCell ⟨H, 1, none⟩ (.int .i64 a)) H { d with client := a } :=
  ⟨by rw [World.size_setCell]; exact h.lt, (World.cell?_setCell_other _ _ _ _ (by simp)).trans h.c0, World.cell?_setCell_same _ _ _ h.c1, (World.cell?_setCell_other _ _ _ _ (by simp)).trans h.c2, (World.cell?_setCell_other _ _ _ _ (by simp)).trans h.c3, (World.cell?_setCell_other _ _ _ _ (by simp)).trans h.c4, (World.cell?_setCell_other _ _ _ _ (by simp)).trans h.c5, (World.cell?_setCell_other _ _ _ _ (by simp)).trans h.c6, (World.cell?_setCell_other _ _ _ _ (by simp)).trans h.c7⟩
theorem OnlyAt.set_client {w v : World} {s d : Stp} {f : ByteArray} {pos : Nat} (h : OnlyAt w s f pos d v) (a : Int) : OnlyAt w s f pos { d with client := a } (v.setCell ⟨w.heap.size + 1 + 1 + 1, 1, none⟩ (.int .i64 a)) := h.put _ _ (h.dst.set_client a)
theorem StpAt.set_group {v : World} {H : Nat} {d : Stp} (h : StpAt v H d) (a : Int) : StpAt (v.setCell ⟨H, 2, none⟩ (.int .i64 a)) H { d with group := a } :=
  ⟨by rw [World.size_setCell]; exact h.lt, (World.cell?_setCell_other _ _ _ _ (by simp)).trans h.c0, (World.cell?_setCell_other _ _ _ _ (by simp)).trans h.c1, World.cell?_setCell_same _ _ _ h.c2, (World.cell?_setCell_other _ _ _ _ (by simp)).trans h.c3, (World.cell?_setCell_other _ _ _ _ (by simp)).trans h.c4, (World.cell?_setCell_other _ _ _ _ (by simp)).trans h.c5, (World.cell?_setCell_other _ _ _ _ (by simp)).trans h.c6, (World.cell?_setCell_other _ _ _ _ (by simp)).trans h.c7⟩
theorem OnlyAt.set_group {w v : World} {s d : Stp} {f : ByteArray} {pos : Nat} (h : OnlyAt w s f pos d v) (a : Int) : OnlyAt w s f pos { d with group := a } (v.setCell ⟨w.heap.size + 1 + 1 + 1, 2, none⟩ (.int .i64 a)) := h.put _ _ (h.dst.set_group a)
theorem StpAt.set_node {v : World} {H : Nat} {d : Stp} (h : StpAt v H d) (a : Int) : StpAt (v.setCell ⟨H, 3, none⟩ (.int .i64 a)) H { d with node := a } :=
  ⟨by rw [World.size_setCell]; exact h.lt, (World.cell?_setCell_other _ _ _ _ (by simp)).trans h.c0, (World.cell?_setCell_other _ _ _ _ (by simp)).trans h.c1, (World.cell?_setCell_other _ _ _ _ (by simp)).trans h.c2, World.cell?_setCell_same _ _ _ h.c3, (World.cell?_setCell_other _ _ _ _ (by simp)).trans h.c4, (World.cell?_setCell_other _ _ _ _ (by simp)).trans h.c5, (World.cell?_setCell_other _ _ _ _ (by simp)).trans h.c6, (World.cell?_setCell_other _ _ _ _ (by simp)).trans h.c7⟩
theorem OnlyAt.set_node {w v : World} {s d : Stp} {f : ByteArray} {pos : Nat} (h : OnlyAt w s f pos d v) (a : Int) : OnlyAt w s f pos { d with node := a } (v.setCell ⟨w.heap.size + 1 + 1 + 1, 3, none⟩ (.int .i64 a)) := h.put _ _ (h.dst.set_node a)
theorem StpAt.set_key {v : World} {H : Nat} {d : Stp} (h : StpAt v H d) (a : ByteArray) : StpAt (v.setCell ⟨H, 4, none⟩ (.string a)) H { d with key := a } :=
  ⟨by rw [World.size_setCell]; exact h.lt, (World.cell?_setCell_other _ _ _ _ (by simp)).trans h.c0, (World.cell?_setCell_other _ _ _ _ (by simp)).trans h.c1, (World.cell?_setCell_other _ _ _ _ (by simp)).trans h.c2, (World.cell?_setCell_other _ _ _ _ (by simp)).trans h.c3, World.cell?_setCell_same _ _ _ h.c4, (World.cell?_setCell_other _ _ _ _ (by simp)).trans h.c5, (World.cell?_setCell_other _ _ _ _ (by simp)).trans h.c6, (World.cell?_setCell_other _ _ _ _ (by simp)).trans h.c7⟩
theorem OnlyAt.set_key {w v : World} {s d : Stp} {f : ByteArray} {pos : Nat} (h : OnlyAt w s f pos d v) (a : ByteArray) : OnlyAt w s f pos { d with key := a } (v.setCell ⟨w.heap.size + 1 + 1 + 1, 4, none⟩ (.string a)) := h.put _ _ (h.dst.set_key a)
theorem StpAt.set_val {v : World} {H : Nat} {d : Stp} (h : StpAt v H d) (a : ByteArray) : StpAt (v.setCell ⟨H, 5, none⟩ (.string a)) H { d with val := a } :=
  ⟨by rw [World.size_setCell]; exact h.lt, (World.cell?_setCell_other _ _ _ _ (by simp)).trans h.c0, (World.cell?_setCell_other _ _ _ _ (by simp)).trans h.c1, (World.cell?_setCell_other _ _ _ _ (by simp)).trans h.c2, (World.cell?_setCell_other _ _ _ _ (by simp)).trans h.c3, (World.cell?_setCell_other _ _ _ _ (by simp)).trans h.c4, World.cell?_setCell_same _ _ _ h.c5, (World.cell?_setCell_other _ _ _ _ (by simp)).trans h.c6, (World.cell?_setCell_other _ _ _ _ (by simp)).trans h.c7⟩
theorem OnlyAt.set_val {w v : World} {s d : Stp} {f : ByteArray} {pos : Nat} (h : OnlyAt w s f pos d v) (a : ByteArray) : OnlyAt w s f pos { d with val := a } (v.setCell ⟨w.heap.size + 1 + 1 + 1, 5, none⟩ (.string a)) := h.put _ _ (h.dst.set_val a)
theorem StpAt.set_n {v : World} {H : Nat} {d : Stp} (h : StpAt v H d) (a : Int) : StpAt (v.setCell ⟨H, 6, none⟩ (.int .i64 a)) H { d with n := a } :=
  ⟨by rw [World.size_setCell]; exact h.lt, (World.cell?_setCell_other _ _ _ _ (by simp)).trans h.c0, (World.cell?_setCell_other _ _ _ _ (by simp)).trans h.c1, (World.cell?_setCell_other _ _ _ _ (by simp)).trans h.c2, (World.cell?_setCell_other _ _ _ _ (by simp)).trans h.c3, (World.cell?_setCell_other _ _ _ _ (by simp)).trans h.c4, (World.cell?_setCell_other _ _ _ _ (by simp)).trans h.c5, World.cell?_setCell_same _ _ _ h.c6, (World.cell?_setCell_other _ _ _ _ (by simp)).trans h.c7⟩
theorem OnlyAt.set_n {w v : World} {s d : Stp} {f : ByteArray} {pos : Nat} (h : OnlyAt w s f pos d v) (a : Int) : OnlyAt w s f pos { d with n := a } (v.setCell ⟨w.heap.size + 1 + 1 + 1, 6, none⟩ (.int .i64 a)) := h.put _ _ (h.dst.set_n a)
theorem StpAt.set_cut {v : World} {H : Nat} {d : Stp} (h : StpAt v H d) (a : Int) : StpAt (v.setCell ⟨H, 7, none⟩ (.int .i64 a)) H { d with cut := a } :=
  ⟨by rw [World.size_setCell]; exact h.lt, (World.cell?_setCell_other _ _ _ _ (by simp)).trans h.c0, (World.cell?_setCell_other _ _ _ _ (by simp)).trans h.c1, (World.cell?_setCell_other _ _ _ _ (by simp)).trans h.c2, (World.cell?_setCell_other _ _ _ _ (by simp)).trans h.c3, (World.cell?_setCell_other _ _ _ _ (by simp)).trans h.c4, (World.cell?_setCell_other _ _ _ _ (by simp)).trans h.c5, (World.cell?_setCell_other _ _ _ _ (by simp)).trans h.c6, World.cell?_setCell_same _ _ _ h.c7⟩
theorem OnlyAt.set_cut {w v : World} {s d : Stp} {f : ByteArray} {pos : Nat} (h : OnlyAt w s f pos d v) (a : Int) : OnlyAt w s f pos { d with cut := a } (v.setCell ⟨w.heap.size + 1 + 1 + 1, 7, none⟩ (.int .i64 a)) := h.put _ _ (h.dst.set_cut a)
theorem OnlyAt.drew {w v : World} {s d : Stp} {f : ByteArray} {pos : Nat} (h : OnlyAt w s f pos d v) : OnlyAt w s f pos d v.drew :=
  ⟨h.below.drew, h.size, h.src.keep (Nat.le_refl _) rfl, h.dst.keep (Nat.le_refl _) rfl, h.res.keep (Nat.le_refl _) rfl, h.it, h.fd, h.fr⟩
end Go.Proofs.YtpfebfckolbnmaaDoor.Sc
