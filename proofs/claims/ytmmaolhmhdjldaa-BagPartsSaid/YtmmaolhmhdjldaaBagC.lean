/- slices.Delete of one message, walked. -/
import Derived.Test.YtmmaolhmhdjldaaBagB
import Derived.Deep.RegionLaw
import Derived.Maps.RangeWalk
namespace Go.Proofs.Ytmmaolhmhdjldaa.BagS
open Go.RowKit

theorem infoMsg : (Try.prog.info? 73).map (fun i => (i.size, i.bytes)) = some (26, 288) := by kernel_rfl
theorem info_two {P : Program} {t : TypeId} {s b : Nat} (h : (P.info? t).map (fun i => (i.size, i.bytes)) = some (s, b)) : ∃ i, P.info? t = some i ∧ i.size = s ∧ i.bytes = b := by
  cases hi : P.info? t with
  | none => rw [hi] at h; cases h
  | some i =>
    rw [hi] at h
    simp only [Option.map_some, Option.some.injEq, Prod.mk.injEq] at h
    exact ⟨i, rfl, h.1, h.2⟩

/-- A message of zeroes. -/
def zeroC : Array Value := #[.int .i64 0, .int .i64 0, .int .i64 0, .int .i64 0, .int .i64 0, .int .i64 0, .int .i64 0, .int .i64 0, .int .i64 0, .bool false, .slice none 0 0, .slice none 0 0,
   .int .i64 0, .int .i64 0, .int .i64 0, .int .i64 0, .string ⟨#[]⟩, .int .i64 0, .slice none 0 0, .slice none 0 0, .int .i64 0, .int .i64 0, .int .i64 0, .int .i64 0, .bool false, .string ⟨#[]⟩]
theorem zeroMsg (w : World) : (zeroValue 73).run Try.prog w = .ok (.agg zeroC) w := by kernel_rfl
theorem zeroOne : ∀ u ∈ zeroC.toList, u.oneCell' = true := by
  intro u hu
  simp only [zeroC, List.mem_cons, List.not_mem_nil, or_false] at hu
  rcases hu with rfl | rfl | rfl | rfl | rfl | rfl | rfl | rfl | rfl | rfl | rfl | rfl | rfl | rfl | rfl | rfl | rfl | rfl | rfl | rfl | rfl | rfl | rfl | rfl | rfl | rfl <;> rfl
theorem zeroCells1 : (Builtin.zeroCells zeroC 1).toList = zeroC.toList := by
  apply List.ext_getElem?
  intro i
  by_cases hi : i < 26
  · rw [List.getElem?_eq_getElem (by simp [Builtin.zeroCells, zeroC]; omega), List.getElem?_eq_getElem (by simp [zeroC]; omega)]
    simp [Builtin.zeroCells, zeroC, Nat.mod_eq_of_lt hi]
    rw [List.getElem?_eq_getElem (by simp; omega)]
    rfl
  · rw [List.getElem?_eq_none (by simp [Builtin.zeroCells, zeroC]; omega), List.getElem?_eq_none (by simp [zeroC]; omega)]

theorem clear_run (w : World) (ty : TypeId) (b o c : Nat) (ht : w.there b o 26) :
    (Builtin.clear_ #[147] ty #[.slice (some ⟨b, o, none⟩) 1 c]).run Try.prog w = .ok (.tuple #[]) (w.setCells b o zeroC.toList) := by
  have hst := run_storeCells_cells (P := Try.prog) b o zeroC.toList 0 w (fun j hj => by simpa using (ht j (by simpa [zeroC] using hj)).1) (fun j hj => by simpa using (ht j (by simpa [zeroC] using hj)).2) zeroOne
  simp only [Nat.add_zero] at hst
  have hz := zeroCells1
  have hc : (Value.agg zeroC).cells = zeroC := rfl
  have hzm := zeroMsg
  generalize zeroC = Z at *
  simp [Builtin.clear_, run_underlying Try.underlying147, hzm, hc, hz, hst]

theorem wpList_clear {w : World} {ops : Array Oper} {rest : List Oper} {o : Oper} {a : Act} {Q : Exit → Act → World → Prop} (hgd : o.guard = none) (s : Operand)
    (ho : o.op = .call { callee := .builtin .clear, args := #[s], argTypes := #[147] }) (b off c : Nat) (hs : a.eval s = .slice (some ⟨b, off, none⟩) 1 c) (ht : w.there b off 26)
    (h : wpList Try.prog ops Q rest (a.put o.dst (.tuple #[])) (w.setCells b off zeroC.toList)) : wpList Try.prog ops Q (o :: rest) a w :=
  wpList_plain hgd fun _ hK => by
    unfold Oper.wp execOp
    simp only [ho, resolve, invoke, builtin, Sem.run_bind, Sem.run_pure, Result.andThen_ok, List.map_toArray, List.map_cons, List.map_nil, hs, clear_run w o.type b off c ht]
    exact hK _ _ h

theorem own_there {w : World} {base : Nat} {e : TypeId} {size g n cap : Nat} {xs : List Value} (h : w.ownsRow base e size (.slice (some ⟨g, 0, none⟩) n cap) n xs) (o m : Nat) (ho : o + m ≤ cap * size) : w.there g o m := fun j hj => by
  refine ⟨?_, World.ownsRow.frozenAt h _⟩
  rcases h.2 with ⟨h', _⟩ | ⟨g', cap', cur, h', _, hg, _, _, hs, _⟩
  · simp at h'
  · simp only [Value.slice.injEq, Option.some.injEq, Addr.mk.injEq, and_true, true_and] at h'
    obtain ⟨rfl, rfl⟩ := h'
    rw [cell_of_row w g (o + j) cur e (0, 0) hg, Array.getElem?_eq_getElem (by omega)]
    rfl

set_option maxRecDepth 100000 in
set_option maxHeartbeats 2000000 in
theorem delete_any (w : World) (base g n cap : Nat) (L : List (Array Value)) (i : Nat) (h : w.ownsRow base 73 26 (.slice (some ⟨g, 0, none⟩) n cap) n (cellsOf L)) (hL : L.length = n) (ha : All26 L) (h1 : ∀ C ∈ L, ∀ u ∈ C.toList, u.oneCell' = true) (hi : i < n) :
    Calls Try.prog 83 #[.slice (some ⟨g, 0, none⟩) n cap, .int .i64 i, .int .i64 ((i : Int) + 1)] w fun e w' => e = .returned (.slice (some ⟨g, 0, none⟩) (n - 1) cap) ∧ w'.ownsRow base 73 26 (.slice (some ⟨g, 0, none⟩) (n - 1) cap) (n - 1) (cellsOf (L.eraseIdx i)) ∧ w.grownBy w' (some g) := by
  obtain ⟨i0, hi0, hz1, hz2⟩ := info_two infoMsg
  obtain ⟨hb1, hb2, hb3, hb4⟩ := own_bounds h
  unfold maxLen at hb4
  have HO := Lib.hid h
  have HL := Lib.hid hL
  have HA := Lib.hid ha
  have H1 := Lib.hid h1
  clear h hL ha h1
  have hne : ((i : Int) == (i : Int) + 1) = false := beq_eq_false_iff_ne.2 (by omega)
  have hp0 : (0 : Int) ≤ (i : Int) + 1 := by omega
  have hp1 : (i : Int) + 1 ≤ (n : Int) := by omega
  have hp2 : ((i : Int) + 1).toNat = i + 1 := by omega
  have hic : i ≤ cap := by omega
  have hin : (i : Int) ≤ (n : Int) := by omega
  obtain ⟨A, hA, hnews⟩ : ∃ A : Addr, (if cap = i + 1 then some (⟨g, 0, none⟩ : Addr) else some ⟨g, (i + 1) * 26, none⟩) = some A ∧ Hid (∀ j u, (cellsOf (L.drop (i + 1)))[j]? = some u → w.drew.cell? (A.add j) = some u) := by
    by_cases h : cap = i + 1
    · refine ⟨⟨g, 0, none⟩, by simp [h], fun j u hu => ?_⟩
      have h0 : L.drop (i + 1) = [] := List.drop_eq_nil_of_le (by have := HL.out; omega)
      rw [h0] at hu
      simp [cellsOf] at hu
    · refine ⟨⟨g, (i + 1) * 26, none⟩, by simp [h], fun j u hu => ?_⟩
      have hd := cells_drop HA.out (k := i + 1) (by have := HL.out; omega)
      rw [← hd, List.getElem?_drop] at hu
      rw [Addr.add_lit]
      have hl : (i + 1) * 26 + j < n * 26 := by
        have := (List.getElem?_eq_some_iff.1 hu).1
        rwa [cells_len HA.out, HL.out] at this
      exact (World.ownsRow.cellAt HO.out _ hl).trans hu
  have s1 : Hid ((cellsOf (L.drop (i + 1))).length = (n - (i + 1)) * 26) := Lib.hid (by rw [cells_len (HA.out.drop _), List.length_drop, HL.out])
  have s2 : Hid (∀ u ∈ cellsOf (L.drop (i + 1)), u.oneCell' = true) := Lib.hid (cells_one fun C hC => H1.out C (List.mem_of_mem_drop hC))
  have s3 : Hid (∀ j, j < (cellsOf (L.drop (i + 1))).length → (w.drew.cell? ⟨g, 0 + i * 26 + j, none⟩).isSome = true ∧ w.drew.frozen? ⟨g, 0 + i * 26 + j, none⟩ = false) := Lib.hid (fun j hj => by
    rw [s1.out] at hj
    rw [Nat.zero_add]
    refine ⟨?_, World.ownsRow.frozenAt HO.out _⟩
    show (w.cell? _).isSome = true
    rw [World.ownsRow.cellAt HO.out _ (by omega), List.getElem?_eq_getElem (by rw [cells_len HA.out, HL.out]; omega)]
    rfl)
  have ER : Hid (_) := Lib.hid (own_erase (w := w.drew) HO.out HL.out HA.out hi)
  go_enter Try.func83, Try.ntmps83
  go_wp2_with fail
  go_region_law (refine step_append_room rfl (.tmp 22) (.tmp 25) 147 rfl 73 i0 26 Try.underlying147 hi0 hz1 g 0 i cap (by simp [Act.eval, Act.put]) A (n - (i + 1)) (cap - (i + 1)) (cellsOf (L.drop (i + 1))) (by simp [Act.eval, Act.put]) s1.out hnews.out s2.out (by omega) s3.out ?_)
  clear hnews s1 s2 s3 hne hp0 hp1 hp2
  obtain ⟨k, hk⟩ : ∃ k, n - 1 = k := ⟨_, rfl⟩
  rw [hk] at ER
  rw [show i + (n - (i + 1)) = k by omega]
  have hck : (cap = k) = False := by simp only [eq_iff_iff, iff_false]; omega
  have hnk : n - k = 1 := by omega
  have hk0 : (0 : Int) ≤ (k : Int) := by omega
  have hkn : (k : Int) ≤ (n : Int) := by omega
  have hnc : (n : Int) ≤ (cap : Int) := by omega
  have hn0 : (0 : Int) ≤ (n : Int) := by omega
  have TH : Hid ((w.drew.setCells g (i * 26) (cellsOf (L.drop (i + 1)))).there g (k * 26) 26) := Lib.hid (own_there ER.out.1 _ _ (by omega))
  have FI : Hid (_) := Lib.hid (own_past ER.out.1 (k * 26) (Nat.le_refl _) zeroC.toList)
  have HK := Lib.hid hk
  clear hk
  go_wp2_with (refine wpList_clear rfl (.tmp 31) rfl g (k * 26) (cap - k) rfl TH.out ?_)
  go_ret
  rw [HK.out]
  have hd : w.grownBy w.drew (some g) := ⟨rfl, rfl, rfl, Nat.le_refl _, fun _ _ _ => rfl⟩
  exact ⟨rfl, FI.out.1, (hd.trans ER.out.2).trans FI.out.2⟩
end Go.Proofs.Ytmmaolhmhdjldaa.BagS
