/- script.only, walked. -/
import Derived.Test.YtpfebfckolbnmaaDoorScC
import Derived.Deep.RegionLaw
import Derived.Deep.RegionWith
namespace Go.Proofs.YtpfebfckolbnmaaDoor.Sc
open Go.RowKit Go.Lib Go.Proofs.YtpfebfckolbnmaaDoor.Sta Go.Proofs.YtpfebfckolbnmaaDoor.Rd Go.Proofs.YtpfebfckolbnmaaDoor.Cls

/-- Only the letters that script.only knows. -/
def known (f : ByteArray) : Prop := ∀ (i : Nat) (hi : i < f.size), f[i]'hi = 99 ∨ f[i]'hi = 107 ∨ f[i]'hi = 118 ∨ f[i]'hi = 97 ∨ f[i]'hi = 110 ∨ f[i]'hi = 116
/-- The first letters, taken over. -/
def upTo (s : Stp) (f : ByteArray) (i : Nat) : Stp := (f.data.toList.take i).foldl (stepL s) (bare s)
theorem upTo_zero (s : Stp) (f : ByteArray) : upTo s f 0 = bare s := rfl
theorem upTo_succ (s : Stp) (f : ByteArray) (i : Nat) (hi : i < f.size) : upTo s f (i + 1) = stepL s (upTo s f i) (f[i]'hi) := by
  have hl : i < f.data.toList.length := by simpa using hi
  unfold upTo
  rw [List.take_succ_eq_append_getElem hl, List.foldl_append, Array.getElem_toList]
  rfl
theorem upTo_all (s : Stp) (f : ByteArray) : upTo s f f.size = onlyS s f := by
  unfold upTo onlyS
  rw [List.take_of_length_le (by rw [Array.length_toList]; exact Nat.le_refl _)]

set_option maxRecDepth 100000 in
set_option maxHeartbeats 3200000 in
theorem only_any (s : Stp) (nm f : ByteArray) (hf : known f) (hz : f.size ≤ 3) (w : World) : Calls Tryd.prog 36 #[s.v, .agg #[.string nm, .string f]] w fun e w' => e = .returned (onlyS s f).v ∧ Below w.heap.size w w' := by
  have HF := Lib.hid hf
  obtain ⟨n, hn⟩ : ∃ n, n = f.size := ⟨_, rfl⟩
  have HN := Lib.hid hn
  rw [← hn] at hz
  have A0 : Hid (OnlyAt w s f 0 (bare s) (((((w.alloc (.cells #[.int .i64 s.kind, .int .i64 s.client, .int .i64 s.group, .int .i64 s.node, .string s.key, .string s.val, .int .i64 s.n, .int .i64 s.cut] 40)).alloc (.cells #[.string nm, .string f] 91)).alloc (.cells #[.int .i64 0, .int .i64 0, .int .i64 0, .int .i64 0, .string ⟨#[]⟩, .string ⟨#[]⟩, .int .i64 0, .int .i64 0] 40)).alloc (.cells #[.int .i64 s.kind, .int .i64 0, .int .i64 0, .int .i64 0, .string ⟨#[]⟩, .string ⟨#[]⟩, .int .i64 0, .int .i64 0] 40)).iter f 0)) := Lib.hid (by
    refine ⟨?_, by first | (simp [World.iter]; done) | (simp [World.iter]; omega), ⟨by first | (simp [World.iter]; done) | (simp [World.iter]; omega), ?_, ?_, ?_, ?_, ?_, ?_, ?_, ?_⟩, ⟨by first | (simp [World.iter]; done) | (simp [World.iter]; omega), ?_, ?_, ?_, ?_, ?_, ?_, ?_, ?_⟩, ⟨by first | (simp [World.iter]; done) | (simp [World.iter]; omega), ?_, ?_, ?_, ?_, ?_, ?_, ?_, ?_⟩, ?_, fun i => ?_, fun i => ?_⟩
    · exact ((((((Below.refl _ _).alloc (Nat.le_refl _) _).alloc (by simp) _).alloc (by simp; omega) _).alloc (by simp; omega) _).alloc (by simp; omega) _)
    all_goals first | (have e : ∀ (V : World) (k : Nat), k = V.heap.size → (V.iter f 0).heap[k]? = some (.stringIter f 0) := (fun V k h => by rw [h]; exact World.iter_heap V f 0); exact e _ _ (by simp); done) | (simp [World.iter, go_sem]; done) | (simp [World.iter, go_sem]; rfl))
  clear hf hn
  unfold Stp.v
  go_enter Tryd.func36, Tryd.ntmps36
  go_wp2
  generalize (((((w.alloc (.cells #[.int .i64 s.kind, .int .i64 s.client, .int .i64 s.group, .int .i64 s.node, .string s.key, .string s.val, .int .i64 s.n, .int .i64 s.cut] 40)).alloc (.cells #[.string nm, .string f] 91)).alloc (.cells #[.int .i64 0, .int .i64 0, .int .i64 0, .int .i64 0, .string ⟨#[]⟩, .string ⟨#[]⟩, .int .i64 0, .int .i64 0] 40)).alloc (.cells #[.int .i64 s.kind, .int .i64 0, .int .i64 0, .int .i64 0, .string ⟨#[]⟩, .string ⟨#[]⟩, .int .i64 0, .int .i64 0] 40)).iter f 0) = W at A0 ⊢
  go_loopg [7] n (fun gk v7 wr => ∃ i : Nat, n - i = gk ∧ i ≤ n ∧ Hid (OnlyAt w s f i (upTo s f i) wr))
  case atStart => exact ⟨0, rfl, by omega, A0⟩
  case round =>
    obtain ⟨i, hg, hi, HA⟩ := hrel
    by_cases hlt : i < n
    · have hs : i < f.size := by rw [← HN.out]; exact hlt
      have A1 := Lib.hid HA.out.next
      have UP := Lib.hid (upTo_succ s f i hs)
      have ch := HF.out i hs
      have hnx : ∀ ty, (Instr.next (.pointer (some ⟨w.heap.size + 1 + 1 + 1 + 1, 0, none⟩)) true ty).run Tryd.prog wr = .ok (.tuple #[.bool true, .int .i64 i, .int .i32 ((f[i]'hs).toNat)]) (wr.iterAt (w.heap.size + 1 + 1 + 1 + 1) f (i + 1)) := fun ty => run_next_ascii_at wr _ f i ty HA.out.it hs (by rcases ch with h | h | h | h | h | h <;> rw [h] <;> decide)
      clear HA
      obtain ⟨d, hd⟩ : ∃ d, d = upTo s f i := ⟨_, rfl⟩
      rw [← hd] at A1 UP
      clear hd
      generalize wr.iterAt (w.heap.size + 1 + 1 + 1 + 1) f (i + 1) = W1 at A1 hnx
      have s1 := A1.out.src.c1
      have s2 := A1.out.src.c2
      have s3 := A1.out.src.c3
      have s4 := A1.out.src.c4
      have s5 := A1.out.src.c5
      have s6 := A1.out.src.c6
      have s7 := A1.out.src.c7
      have d1 := A1.out.dst.c1
      have d2 := A1.out.dst.c2
      have d3 := A1.out.dst.c3
      have d4 := A1.out.dst.c4
      have d5 := A1.out.dst.c5
      have d6 := A1.out.dst.c6
      have d7 := A1.out.dst.c7
      have fd := A1.out.fd
      rcases ch with h | h | h | h | h | h
      · rw [h] at hnx UP
        have hnx' : ∀ ty, (Instr.next (.pointer (some ⟨w.heap.size + 1 + 1 + 1 + 1, 0, none⟩)) true ty).run Tryd.prog wr = .ok (.tuple #[.bool true, .int .i64 i, .int .i32 99]) W1 := hnx
        clear hnx h
        as_aux_lemma =>
        go_wp2_with fail
        go_roundg (n - (i + 1))
        case measure => omega
        case rel => exact ⟨i + 1, rfl, by omega, Lib.hid (by rw [UP.out]; exact (A1.out.set_client s.client))⟩
      · rw [h] at hnx UP
        have hnx' : ∀ ty, (Instr.next (.pointer (some ⟨w.heap.size + 1 + 1 + 1 + 1, 0, none⟩)) true ty).run Tryd.prog wr = .ok (.tuple #[.bool true, .int .i64 i, .int .i32 107]) W1 := hnx
        clear hnx h
        as_aux_lemma =>
        go_wp2_with fail
        go_roundg (n - (i + 1))
        case measure => omega
        case rel => exact ⟨i + 1, rfl, by omega, Lib.hid (by rw [UP.out]; exact (A1.out.set_key s.key))⟩
      · rw [h] at hnx UP
        have hnx' : ∀ ty, (Instr.next (.pointer (some ⟨w.heap.size + 1 + 1 + 1 + 1, 0, none⟩)) true ty).run Tryd.prog wr = .ok (.tuple #[.bool true, .int .i64 i, .int .i32 118]) W1 := hnx
        clear hnx h
        as_aux_lemma =>
        go_wp2_with fail
        go_roundg (n - (i + 1))
        case measure => omega
        case rel => exact ⟨i + 1, rfl, by omega, Lib.hid (by rw [UP.out]; exact (A1.out.set_val s.val))⟩
      · rw [h] at hnx UP
        have hnx' : ∀ ty, (Instr.next (.pointer (some ⟨w.heap.size + 1 + 1 + 1 + 1, 0, none⟩)) true ty).run Tryd.prog wr = .ok (.tuple #[.bool true, .int .i64 i, .int .i32 97]) W1 := hnx
        clear hnx h
        as_aux_lemma =>
        go_wp2_with fail
        go_region_law (fail)
        all_goals go_wp2_with fail
        all_goals go_roundg (n - (i + 1))
        all_goals first
          | omega
          | exact ⟨i + 1, rfl, by omega, Lib.hid (by rw [UP.out]; exact ((A1.out.set_group s.group).set_node s.node).drew)⟩
          | exact ⟨i + 1, rfl, by omega, Lib.hid (by rw [UP.out]; exact ((A1.out.set_node s.node).set_group s.group).drew)⟩
      · rw [h] at hnx UP
        have hnx' : ∀ ty, (Instr.next (.pointer (some ⟨w.heap.size + 1 + 1 + 1 + 1, 0, none⟩)) true ty).run Tryd.prog wr = .ok (.tuple #[.bool true, .int .i64 i, .int .i32 110]) W1 := hnx
        clear hnx h
        as_aux_lemma =>
        go_wp2_with fail
        go_roundg (n - (i + 1))
        case measure => omega
        case rel => exact ⟨i + 1, rfl, by omega, Lib.hid (by rw [UP.out]; exact (A1.out.set_n s.n))⟩
      · rw [h] at hnx UP
        have hnx' : ∀ ty, (Instr.next (.pointer (some ⟨w.heap.size + 1 + 1 + 1 + 1, 0, none⟩)) true ty).run Tryd.prog wr = .ok (.tuple #[.bool true, .int .i64 i, .int .i32 116]) W1 := hnx
        clear hnx h
        as_aux_lemma =>
        go_wp2_with fail
        go_roundg (n - (i + 1))
        case measure => omega
        case rel => exact ⟨i + 1, rfl, by omega, Lib.hid (by rw [UP.out]; exact (A1.out.set_cut s.cut))⟩
    · obtain rfl : i = n := by omega
      have hnx : ∀ ty, (Instr.next (.pointer (some ⟨w.heap.size + 1 + 1 + 1 + 1, 0, none⟩)) true ty).run Tryd.prog wr = .ok (.tuple #[.bool false]) wr := fun ty => run_next_end_at wr _ f i ty HA.out.it (by rw [← HN.out]; omega)
      have e : upTo s f i = onlyS s f := by rw [HN.out]; exact upTo_all s f
      have A1 : Hid (OnlyAt w s f i (onlyS s f) wr) := Lib.hid (by rw [← e]; exact HA.out)
      obtain ⟨d, hd⟩ : ∃ d, d = onlyS s f := ⟨_, rfl⟩
      rw [← hd] at A1
      have HD := Lib.hid hd
      clear HA e hd
      have d0 := A1.out.dst.c0
      have d1 := A1.out.dst.c1
      have d2 := A1.out.dst.c2
      have d3 := A1.out.dst.c3
      have d4 := A1.out.dst.c4
      have d5 := A1.out.dst.c5
      have d6 := A1.out.dst.c6
      have d7 := A1.out.dst.c7
      have r0 := A1.out.res.c0
      have r1 := A1.out.res.c1
      have r2 := A1.out.res.c2
      have r3 := A1.out.res.c3
      have r4 := A1.out.res.c4
      have r5 := A1.out.res.c5
      have r6 := A1.out.res.c6
      have r7 := A1.out.res.c7
      have fr := A1.out.fr
      have B1 := A1.out.below
      have BE : Hid (Below w.heap.size w ((((((((wr.setCell ⟨w.heap.size + 1 + 1, 0, none⟩ (.int .i64 d.kind)).setCell ⟨w.heap.size + 1 + 1, 1, none⟩ (.int .i64 d.client)).setCell ⟨w.heap.size + 1 + 1, 2, none⟩ (.int .i64 d.group)).setCell ⟨w.heap.size + 1 + 1, 3, none⟩ (.int .i64 d.node)).setCell ⟨w.heap.size + 1 + 1, 4, none⟩ (.string d.key)).setCell ⟨w.heap.size + 1 + 1, 5, none⟩ (.string d.val)).setCell ⟨w.heap.size + 1 + 1, 6, none⟩ (.int .i64 d.n)).setCell ⟨w.heap.size + 1 + 1, 7, none⟩ (.int .i64 d.cut))) := by
        have hp : ∀ k : Nat, w.heap.size ≤ (⟨w.heap.size + 1 + 1, k, none⟩ : Addr).block := fun k => by show w.heap.size ≤ w.heap.size + 1 + 1; omega
        exact Lib.hid ((((((((B1.setCell (hp 0) _).setCell (hp 1) _).setCell (hp 2) _).setCell (hp 3) _).setCell (hp 4) _).setCell (hp 5) _).setCell (hp 6) _).setCell (hp 7) _)
      clear B1
      go_wp2_with fail
      exact bodyPost_ret (v := .agg #[.int .i64 d.kind, .int .i64 d.client, .int .i64 d.group, .int .i64 d.node, .string d.key, .string d.val, .int .i64 d.n, .int .i64 d.cut]) (by simp [results, Tryd.results36, go_sem, r0, r1, r2, r3, r4, r5, r6, r7]) rfl ⟨by rw [HD.out], BE.out⟩
end Go.Proofs.YtpfebfckolbnmaaDoor.Sc
