/- lock, at a transaction that has asked for nothing: walked. -/
import Derived.Test.YtpaihfdmjkfegaaCpJ
import Derived.Deep.Onto
namespace Go.Proofs.Ytpaihfdmjkfegaa.Cl
open Go.RowKit Go.Lib Go.Maps Go.Proofs.Ytpaihfdmjkfegaa.MapF Go.Proofs.Ytpaihfdmjkfegaa.Msg Go.Proofs.Ytpaihfdmjkfegaa.Cls Go.Proofs.Ytpaihfdmjkfegaa.Ck

attribute [local go_sem ↓] loadMsg_eq storeMsg_eq buildMsg_eq
attribute [local go_sem] run_loadMsg run_storeMsg run_buildMsg
attribute [local go_sem ↓] loadAct_eq storeAct_eq storeCall_eq loadCall_eq
attribute [local go_sem] run_loadAct run_storeAct run_storeCall run_loadCall

/-- An act's cells, written out. -/
theorem ActV.cs_eq (a : ActV) : a.cs = #[.int .i64 a.who, .int .i64 a.call, .int .i64 a.n, .int .i64 a.c, .string a.key, .string a.value, .bool a.found, .int .i64 a.code, .int .i64 a.stamp, .int .i64 a.from_, .int .i64 a.to] := rfl
def lockM (home mode : Int) (key : ByteArray) : Array Value := #[.int .i64 6, .int .i64 0, .int .i64 0, .int .i64 0, .int .i64 0, .int .i64 0, .int .i64 0, .int .i64 0, .int .i64 0, .bool false, .slice none 0 0, .slice none 0 0,
   .int .i64 0, .int .i64 0, .int .i64 0, .int .i64 home, .string key, .int .i64 mode, .slice none 0 0, .slice none 0 0, .int .i64 0, .int .i64 0, .int .i64 0, .int .i64 0, .bool false, .string ⟨#[]⟩]
theorem lockM_ok (home mode : Int) (key : ByteArray) : MsgC (lockM home mode key) := ⟨rfl, by simp [lockM, Value.oneCell']⟩
theorem own_same {w w' : World} {base n size : Nat} {e : TypeId} {v : Value} {xs : List Value} (h : w.ownsRow base e size v n xs) (hb : ∀ b, b < w.heap.size → v.ownBlock = some b → w'.heap[b]? = w.heap[b]?) : w'.ownsRow base e size v n xs := by
  refine ⟨h.1, ?_⟩
  rcases h.2 with hn | ⟨g, cap, cur, rfl, hbs, hg, rest⟩
  · exact .inl hn
  · exact .inr ⟨g, cap, cur, rfl, hbs, (hb g (Array.getElem?_eq_some_iff.1 hg).1 rfl).trans hg, rest⟩
theorem own_chg {S : Nat → Prop} {w w' : World} {base n size g cap : Nat} {e : TypeId} {xs : List Value} (h : w.ownsRow base e size (.slice (some ⟨g, 0, none⟩) n cap) n xs) (k : Chg S w w') (hg : ¬ S g) : w'.ownsRow base e size (.slice (some ⟨g, 0, none⟩) n cap) n xs :=
  own_same h (fun b hb hv => k.block b hb (by have : g = b := by simpa [Value.ownBlock] using hv
                                              rwa [← this]))
/-- A transaction that has asked for one key. -/
structure Tx1 (w : World) (tb : Nat) (n c : Int) (k : Nat) (key : ByteArray) (gg gcap m1 m2 m3 m4 : Nat) : Prop where
  blk : Blk w tb 110 #[.int .i64 n, .int .i64 c, .int .i64 (k : Int), .slice (some ⟨gg, 0, none⟩) 1 gcap, .map (some m1), .map (some m2), .map (some m3), .map (some m4)]
  grp : w.ownsRow 0 3 1 (.slice (some ⟨gg, 0, none⟩) 1 gcap) 1 [.int .i64 (k : Int)]
  k1 : IsF mB w m1 1 (upd (fun _ => none) key (some true))
  k2 : Nil w m2
  k3 : Nil w m3
  k4 : Nil w m4

/-- What a lock's asking leaves. -/
structure Locked (lo p : Nat) (c : Client) (ob oc gb gc g q : Nat) (L : List Ent) (gs : List Nat) (sp : List ByteArray) (tb : Nat) (n cc : Int) (m1 m2 m3 m4 : Nat) (a : ActV) (mode : Int) (w w' : World) (b k x : Nat) : Prop where
  hk : k < g
  hx : gs[k]? = some x
  hb : w.heap.size ≤ b
  msg : Blk w' b 55 (aimedM (reqM (lockM k mode a.key) (c.seq + 1) n cc c.num) k x)
  cli : CliAt lo w' p { c with seq := c.seq + 1, waits := true, hinted := false, grp := k, M := reqM (lockM k mode a.key) (c.seq + 1) n cc c.num, act := a } ob oc gb gc g q L gs sp
  tx : ∃ gg gcap, w.heap.size ≤ gg ∧ Tx1 w' tb n cc k a.key gg gcap m1 m2 m3 m4
  chg : Chg (fun b => b = p ∨ b = tb ∨ b = m1) w w'
theorem Chg.grown {a b : World} {g : Nat} (h : a.grownBy b (some g)) : Chg (fun k => k = g) a b := ⟨h.os, h.tape, h.output, h.size, fun k hk hn => h.block k hk (fun e => hn (by injection e))⟩

theorem nil_ne {w : World} {g b : Nat} {t : TypeId} {cs : Array Value} (h : Blk w g t cs) (k : Nil w b) : b ≠ g := fun e => by
  rw [e] at k
  unfold Nil at k
  unfold Blk at h
  rw [h] at k
  cases k
theorem isF_same {P : Program} {t : TypeId} {κ α : Type} {M : MapTy P t κ α} {w w' : World} {b n : Nat} {f : κ → Option α} (h : IsF M w b n f) (hb : w'.heap[b]? = w.heap[b]?) : IsF M w' b n f := by
  obtain ⟨D, ⟨es, clock, e1, e2, e3, e4⟩, h2, h3⟩ := h
  exact ⟨D, ⟨es, clock, hb.trans e1, e2, e3, e4⟩, h2, h3⟩

theorem Tx0.below {w w' : World} {tb : Nat} {n c : Int} {m1 m2 m3 m4 : Nat} (h : Tx0 w tb n c m1 m2 m3 m4) (hb : Below w.heap.size w w') : Tx0 w' tb n c m1 m2 m3 m4 :=
  ⟨h.blk.below hb h.blk.lt, h.k1.below hb h.k1.lt, h.k2.below hb h.k2.lt, h.k3.below hb h.k3.lt, h.k4.below hb h.k4.lt⟩

set_option maxRecDepth 100000 in
set_option maxHeartbeats 4000000 in
theorem lock_any (lo p : Nat) (c : Client) (ob oc gb gc g q : Nat) (L : List Ent) (gs : List Nat) (sp : List ByteArray) (tb : Nat) (n cc : Int) (m1 m2 m3 m4 : Nat) (a : ActV) (mode : Int) (w : World) (h : CliAt lo w p c ob oc gb gc g q L gs sp) (hsp : sp.length + 1 = g) (hg8 : g ≤ 8)
    (ht : c.vt = .pointer (some ⟨tb, 0, none⟩)) (hT : Tx0 w tb n cc m1 m2 m3 m4) (hk : keyB a.key = true) (hs : 0 ≤ c.seq ∧ c.seq < 1000000) (w0 : World) (c0 : Client) (gs0 : List Nat) (h0 : CliAt lo w0 p c0 ob oc gb gc g q L gs0 sp) (K0 : Chg (fun b => b = p ∨ b = gb) w0 w) (he : c.vo = c0.vo ∧ c.vg = c0.vg ∧ c.D = c0.D) (hw0 : w0.heap.size ≤ tb ∧ w0.heap.size ≤ m1 ∧ w0.heap.size ≤ m2 ∧ w0.heap.size ≤ m3 ∧ w0.heap.size ≤ m4) (hmm : m1 ≠ m2 ∧ m1 ≠ m3 ∧ m1 ≠ m4) :
    Calls Try.prog 45 #[.pointer (some ⟨p, 0, none⟩), .agg a.cs, .int .i64 mode] w fun e w' => ∃ b k x, e = .returned (.tuple #[callV (.slice (some ⟨b, 0, none⟩) 1 1) a false, .int .i64 0]) ∧ Locked lo p c ob oc gb gc g q L gs sp tb n cc m1 m2 m3 m4 a mode w w' b k x := by
  have H := Lib.hid h
  have HT := Lib.hid hT
  have H0 := Lib.hid (And.intro h0 K0)
  have HE := Lib.hid he
  have hp := h.cl.blk.lt
  have pt : p ≠ tb := Blk.ne_ h.cl.blk hT.blk (by decide)
  have ok : okS a.key := by
    unfold keyB at hk
    simp only [Bool.and_eq_true, decide_eq_true_eq] at hk
    unfold okS maxLen
    omega
  have HK := Lib.hid hk
  obtain ⟨A, hA⟩ : ∃ A, A = a.cs := ⟨_, rfl⟩
  have A3 : A[4]? = some (.string a.key) := by rw [hA]; simp [ActV.cs]
  have AC : Hid (CellsN 11 A) := Lib.hid (hA ▸ a.cells)
  rw [← hA]
  have EA := Lib.hid hA
  clear h hT hk hA h0 K0 he
  go_enter Try.func45, Try.ntmps45
  go_upto_region 1 with (fail)
  refine world_out (fun W hW => ?_)
  obtain ⟨b4, hb4⟩ : ∃ b, b = w.heap.size := ⟨_, rfl⟩
  have BW : Hid (Below w.heap.size w W) := Lib.hid (by rw [hW]; exact ((Below.refl _ _).alloc (Nat.le_refl _) _).alloc (by simp) _)
  have A1 : Hid (Blk W b4 43 A) := Lib.hid (by rw [hW, hb4]; exact (Blk.new w 43 A).alloc _)
  have R1 : Hid (∃ Z, Blk W (b4 + 1) 102 Z ∧ Z.size = 13) := Lib.hid ⟨_, by rw [hW, hb4]; exact Blk.new2 w 43 A 102 _, rfl⟩
  have H1 := Lib.hid (H.out.keep BW.out)
  have T1 := Lib.hid (HT.out.below BW.out)
  have c7 := H1.out.cl.vt
  simp only [ht] at c7
  rw [← hb4]
  have hbw : w.heap.size ≤ b4 := by omega
  have hbp : p < b4 := by omega
  have hbt : tb < b4 := by rw [hb4]; exact HT.out.blk.lt
  have hbm : m1 < b4 ∧ m2 < b4 ∧ m3 < b4 ∧ m4 < b4 := by rw [hb4]; exact ⟨HT.out.k1.lt, HT.out.k2.lt, HT.out.k3.lt, HT.out.k4.lt⟩
  have a3 : W.cell? ⟨b4, 4, none⟩ = some (.string a.key) := by rw [A1.out.cell]; exact A3
  have t4 : W.cell? ⟨tb, 4, none⟩ = some (.map (some m1)) := T1.out.blk.cell 4
  have lk : ∀ j, (Instr.lookup 107 (.map (some m1)) (.string a.key) false).run Try.prog (W.drewN j) = .ok (.bool false) (W.drewN j) := fun j => (Nil.isF (M := mB) (w := W.drewN j) T1.out.k1).look Try.underlying107 (zero4 _) a.key ok
  have ln : ∀ j ty, (Builtin.len_ #[107] ty #[.map (some m1)]).run Try.prog (W.drewN j) = .ok (.int .i64 0) (W.drewN j) := fun j ty => Nil.len (w := W.drewN j) T1.out.k1 Try.underlying107 ty
  clear hW hb4 A3
  go_upto_region 2 with (fail)
  go_quiet (fail)
  go_upto_region 4 with (fail)
  refine world_out (fun V hV => ?_)
  have BV : Hid (Below w.heap.size w V) := Lib.hid (by rw [hV]; exact below_drewN BW.out _)
  have A2 : Hid (Blk V b4 43 A) := Lib.hid (by rw [hV]; exact A1.out)
  have R2 : Hid (∃ Z, Blk V (b4 + 1) 102 Z ∧ Z.size = 13) := Lib.hid (by rw [hV]; exact R1.out)
  have H2 := Lib.hid (H.out.keep BV.out)
  have T2 := Lib.hid (HT.out.below BV.out)
  have v4 : V.cell? ⟨b4, 4, none⟩ = some (.string a.key) := by rw [hV]; exact a3
  clear hV H1 T1 A1 R1 BW c7 a3 t4 lk ln
  have v2 := H2.out.cl.dir
  obtain ⟨DA, dc, hD, _, _, hDR, _⟩ := H2.out.dir
  have GA := Lib.hid (group_any c.D a.key sp DA dc V.drew HK.out hD hDR.in_ (by omega))
  have S1 : Hid (V.cell? ⟨p, 2, none⟩ = some (.pointer (some ⟨c.D, 0, none⟩)) ∧ V.cell? ⟨b4, 4, none⟩ = some (.string a.key)) := Lib.hid ⟨v2, v4⟩
  clear hD hDR
  go_region_held3 (fun v => v.cell? ⟨p, 2, none⟩ = some (.pointer (some ⟨c.D, 0, none⟩)) ∧ v.cell? ⟨b4, 4, none⟩ = some (.string a.key)) (first | exact S1.out) (first
    | (go_at_call 55; refine GA.out.mono ?_; rintro e w2 ⟨⟨k, rfl, hkl⟩, rfl⟩))
  go_upto_region 5 with (fail)
  refine world_out (fun X hX => ?_)
  have BX : Hid (Below w.heap.size w X) := Lib.hid (by rw [hX]; exact BV.out.drew)
  have A3 : Hid (Blk X b4 43 A) := Lib.hid (by rw [hX]; exact A2.out.drew)
  have R3 : Hid (∃ Z, Blk X (b4 + 1) 102 Z ∧ Z.size = 13) := Lib.hid (by rw [hX]; exact R2.out)
  have x4 : X.cell? ⟨b4, 4, none⟩ = some (.string a.key) := by rw [hX]; exact v4
  clear hX S1 v4 v2 GA H2 T2 A2 R2 BV
  have H3 := Lib.hid (H.out.keep BX.out)
  have T3 := Lib.hid (HT.out.below BX.out)
  have t4 : X.cell? ⟨tb, 4, none⟩ = some (.map (some m1)) := T3.out.blk.cell 4
  obtain ⟨w5, hst, hF, hturn⟩ := IsF.store (w := X.drew) (Nil.isF (M := mB) (w := X.drew) T3.out.k1) Try.underlying107 (by unfold maxLen; omega) a.key ok true
  have hst' : (Instr.mapUpdate 107 (.map (some m1)) (.string a.key) (.bool true)).run Try.prog X.drew = .ok () w5 := hst
  have K5 : Hid (Chg (fun j => j = m1) X w5) := Lib.hid (((Chg.refl _ X).drew).on (Chg.grown hturn.grown))
  have F5 := Lib.hid hF
  have tm1 : tb ≠ m1 := fun e => by
    have h1 := T3.out.blk
    have h2 := T3.out.k1
    rw [e] at h1
    unfold Blk at h1
    unfold Nil at h2
    rw [h1] at h2
    cases h2
  have S1 : Hid (X.cell? ⟨tb, 4, none⟩ = some (.map (some m1)) ∧ X.cell? ⟨b4, 4, none⟩ = some (.string a.key)) := Lib.hid ⟨t4, x4⟩
  have S2 : Hid (w5.cell? ⟨tb, 4, none⟩ = some (.map (some m1)) ∧ w5.cell? ⟨b4, 4, none⟩ = some (.string a.key)) := Lib.hid ⟨K5.out.cell t4 tm1, K5.out.cell x4 (by show b4 ≠ m1; omega)⟩
  clear hst hF hturn
  go_region_held3 (fun v => v.cell? ⟨tb, 4, none⟩ = some (.map (some m1)) ∧ v.cell? ⟨b4, 4, none⟩ = some (.string a.key)) (first | exact S1.out | exact S2.out) (fail)
  clear hst'
  have pm1 : p ≠ m1 := fun e => by
    have h1 := H3.out.cl.blk
    have h2 := T3.out.k1
    rw [e] at h1
    unfold Blk at h1
    unfold Nil at h2
    rw [h1] at h2
    cases h2
  have T5 : Hid (Blk w5 tb 110 #[.int .i64 n, .int .i64 cc, .int .i64 (-1), .slice none 0 0, .map (some m1), .map (some m2), .map (some m3), .map (some m4)]) := Lib.hid (T3.out.blk.chg K5.out tm1)
  have t2 : w5.cell? ⟨tb, 2, none⟩ = some (.int .i64 (-1)) := T5.out.cell 2
  have t3 : w5.cell? ⟨tb, 3, none⟩ = some (.slice none 0 0) := T5.out.cell 3
  have f2 := T5.out.frozen 2
  have f3 := T5.out.frozen 3
  have tlt := T5.out.lt
  clear S1 S2 t4 x4
  go_upto_region 8 with (fail)
  go_upto_region 10 with (go_at_call 56; refine (bsI_nil _ _).mono ?_; rintro e w8 ⟨rfl, rfl⟩)
  refine world_out (fun Y hY => ?_)
  have TY : Hid (Blk Y tb 110 #[.int .i64 n, .int .i64 cc, .int .i64 (k : Int), .slice none 0 0, .map (some m1), .map (some m2), .map (some m3), .map (some m4)]) := Lib.hid (by rw [hY]; exact T5.out.set_ 2 _)
  have KY : Hid (Chg (fun j => j = tb ∨ j = m1) X Y) := Lib.hid (by rw [hY]; exact (K5.out.more (fun _ _ e => .inr e)).set (p := ⟨tb, 2, none⟩) (.inr (.inl rfl)) _)
  have FY : Hid (IsF mB Y m1 1 (upd (fun _ => none) a.key (some true))) := Lib.hid (by
    rw [hY]
    exact F5.out.kept (row := some tb) ⟨rfl, rfl, rfl, by simp, fun j hj hne => Below.heap_setCell _ _ _ _ (fun e => hne (by rw [e]))⟩ (fun e => tm1 (by injection e with e; exact e.symm)))
  have AY : Hid (Blk Y b4 43 A) := Lib.hid (A3.out.chg KY.out (by omega))
  have RY : Hid (∃ Z, Blk Y (b4 + 1) 102 Z ∧ Z.size = 13) := Lib.hid (by obtain ⟨Z, h1, h2⟩ := R3.out; exact ⟨Z, h1.chg KY.out (by omega), h2⟩)
  clear hY t2 t3 f2 f3 T5 K5 F5 A3 R3
  have y3 : Y.cell? ⟨tb, 3, none⟩ = some (.slice none 0 0) := TY.out.cell 3
  have tY : tb < Y.heap.size := TY.out.lt
  have YC : Hid ((Y.alloc (.cells #[.int .i64 (k : Int)] 3)).cell? ⟨Y.heap.size, 0, none⟩ = some (.int .i64 (k : Int))) := Lib.hid (by simp [go_sem])
  have F9 : Hid (∀ v, Below (Y.alloc (.cells #[.int .i64 (k : Int)] 3)).heap.size (Y.alloc (.cells #[.int .i64 (k : Int)] 3)) v → v.cell? ⟨tb, 3, none⟩ = some (.slice none 0 0) ∧ v.frozen? ⟨tb, 3, none⟩ = false) := Lib.hid (fun v hv => by
    have h := (TY.out.alloc (.cells #[.int .i64 (k : Int)] 3)).below hv (TY.out.alloc _).lt
    exact ⟨h.cell 3, h.frozen 3⟩)
  go_upto_region 11 with (go_at_call 57; go_loud (refine (insert_nil _ _ _ _ YC.out).mono ?_; rintro e w9 ⟨gg, gcap, rfl, hgg, hgc, hb9⟩; have B9 := Lib.hid hb9; obtain ⟨n3, f3⟩ := F9.out _ hb9; clear hb9))
  refine world_out (fun Z hZ => ?_)
  have hgb0 : gb < w0.heap.size := by obtain ⟨cur, q1, _⟩ := H0.out.1.guess; exact q1.lt
  have TZ : Hid (Blk Z tb 110 #[.int .i64 n, .int .i64 cc, .int .i64 (k : Int), .slice (some ⟨gg, 0, none⟩) 1 gcap, .map (some m1), .map (some m2), .map (some m3), .map (some m4)]) := Lib.hid (by
    rw [hZ]
    exact ((TY.out.alloc _).below B9.out (TY.out.alloc _).lt).set_ 3 _)
  have KZ : Hid (Chg (fun j => j = tb ∨ j = m1) X Z) := Lib.hid (by rw [hZ]; exact ((KY.out.alloc _).then B9.out).set (p := ⟨tb, 3, none⟩) (.inr (.inl rfl)) _)
  have FZ : Hid (IsF mB Z m1 1 (upd (fun _ => none) a.key (some true))) := Lib.hid (by
    rw [hZ]
    have h := (FY.out.below FY.out.lt ((Below.refl _ _).alloc (Nat.le_refl _) (.cells #[.int .i64 (k : Int)] 3)))
    have h' := h.below h.lt B9.out
    exact h'.kept (row := some tb) ⟨rfl, rfl, rfl, by simp, fun j hj hne => Below.heap_setCell _ _ _ _ (fun e => hne (by rw [e]))⟩ (fun e => tm1 (by injection e with e; exact e.symm)))
  have AZ : Hid (Blk Z b4 43 A) := Lib.hid (by rw [hZ]; exact ((AY.out.alloc _).below B9.out (AY.out.alloc _).lt).far (p := ⟨tb, 3, none⟩) (by show b4 ≠ tb; omega) _)
  have RZ : Hid (∃ Z', Blk Z (b4 + 1) 102 Z' ∧ Z'.size = 13) := Lib.hid (by obtain ⟨Z', h1, h2⟩ := RY.out; rw [hZ]; exact ⟨Z', ((h1.alloc _).below B9.out (h1.alloc _).lt).far (p := ⟨tb, 3, none⟩) (by show b4 + 1 ≠ tb; omega) _, h2⟩)
  have GZ : Hid (Z.ownsRow 0 3 1 (.slice (some ⟨gg, 0, none⟩) 1 gcap) 1 [.int .i64 (k : Int)] ∧ b4 + 1 < gg) := Lib.hid (by
    have s0 : b4 + 1 < Y.heap.size := by obtain ⟨Z', h1, _⟩ := RY.out; exact h1.lt
    have s1 := KY.out.size
    have s2 : Y.heap.size + 1 ≤ gg := by simpa using hgg
    have s3 := BX.out.size
    have s4 := HT.out.blk.lt
    refine ⟨?_, by omega⟩
    rw [hZ]
    exact own_chg (World.ownsRow.mono hgc (Nat.zero_le _)) ((Chg.refl (fun j => j = tb) w9).set (p := ⟨tb, 3, none⟩) (.inr rfl) _) (by omega))
  have KW : Hid (Chg (fun j => j = tb ∨ j = m1) w Z) := Lib.hid ((Chg.of BX.out).on KZ.out)
  have K0Z : Hid (Chg (fun j => j = p ∨ j = gb) w0 Z) := Lib.hid (H0.out.2.trans KW.out (fun j hj e => by rcases e with e | e <;> omega))
  have CZ : Hid (ClAt Z p c) := Lib.hid (H.out.cl.chg KW.out (by omega))
  have N2 : Hid (Nil Z m2 ∧ Nil Z m3 ∧ Nil Z m4) := Lib.hid ⟨HT.out.k2.chg KW.out (fun e => by rcases e with e | e; exact (fun (x : m2 = tb) => by have h1 := HT.out.k2; have h2 := HT.out.blk; rw [x] at h1; unfold Nil at h1; unfold Blk at h2; rw [h1] at h2; cases h2) e; omega), HT.out.k3.chg KW.out (fun e => by rcases e with e | e; exact (fun (x : m3 = tb) => by have h1 := HT.out.k3; have h2 := HT.out.blk; rw [x] at h1; unfold Nil at h1; unfold Blk at h2; rw [h1] at h2; cases h2) e; omega), HT.out.k4.chg KW.out (fun e => by rcases e with e | e; exact (fun (x : m4 = tb) => by have h1 := HT.out.k4; have h2 := HT.out.blk; rw [x] at h1; unfold Nil at h1; unfold Blk at h2; rw [h1] at h2; cases h2) e; omega)⟩
  have hkg : k < g := by omega
  obtain ⟨x, hx⟩ : ∃ x, gs[k]? = some x := ⟨_, List.getElem?_eq_getElem (by rw [H.out.lenG]; exact hkg)⟩
  have pb : p ≠ tb ∧ p ≠ m1 := ⟨pt, pm1⟩
  have RQ : Hid (Calls Try.prog 54 #[.pointer (some ⟨p, 0, none⟩), .int .i64 (k : Int), .agg (lockM k mode a.key), .agg a.cs] Z.drew fun e w' => ∃ b, e = .returned (.slice (some ⟨b, 0, none⟩) 1 1) ∧ Z.heap.size ≤ b ∧ Blk w' b 55 (aimedM (reqM (lockM k mode a.key) (c.seq + 1) n cc c.num) k x) ∧
      ClAt w' p { c with seq := c.seq + 1, waits := true, hinted := false, grp := k, M := reqM (lockM k mode a.key) (c.seq + 1) n cc c.num, act := a } ∧ Chg (fun b => b = p) Z w') := Lib.hid (by
    have h := request_any p c tb _ n cc gb 0 g gc k x (lockM k mode a.key) a Z.drew ⟨CZ.out.blk.drew, CZ.out.msg⟩ ht TZ.out.drew rfl rfl H.out.vg hkg H.out.pg (by rw [Nat.zero_add]; exact KW.out.cell (H.out.node hx) (by show ¬ (gb = tb ∨ gb = m1); omega)) (lockM_ok _ _ _) rfl rfl hs
    exact h.mono (fun e w' ⟨b, r1, r2, r3, r4, r5⟩ => ⟨b, r1, r2, r3, r4, ((Chg.refl _ Z).drew).on r5⟩))
  have ZL : Hid (b4 < Z.heap.size ∧ tb < Z.heap.size) := Lib.hid ⟨AZ.out.lt, TZ.out.lt⟩
  have FS : Hid (∀ v, Chg (fun j => j = p ∨ j = b4 + 1) Z v → v.cell? ⟨tb, 2, none⟩ = some (.int .i64 (k : Int)) ∧ v.cell? ⟨b4, 4, none⟩ = some (.string a.key) ∧ HasN 11 v b4 0 ∧ valN 11 v b4 0 = #[.int .i64 a.who, .int .i64 a.call, .int .i64 a.n, .int .i64 a.c, .string a.key, .string a.value, .bool a.found, .int .i64 a.code, .int .i64 a.stamp, .int .i64 a.from_, .int .i64 a.to]) := Lib.hid (fun v hv => by
    have g1 := AZ.out.chg hv (by omega)
    have g2 := TZ.out.chg hv (by omega)
    have g3 := blkN_has g1 AC.out.1
    have g4 : v.cell? ⟨b4, 4, none⟩ = some (.string a.key) := by rw [g1.cell, EA.out, ActV.cs_eq]; rfl
    exact ⟨g2.cell 2, g4, g3.1, by rw [g3.2, EA.out, ActV.cs_eq]⟩)
  have S0 := Lib.hid (FS.out Z (Chg.refl _ _))
  have S0d := Lib.hid (FS.out Z.drew ((Chg.refl _ _).drew))
  clear TY KY FY AY RY y3 YC F9 B9 n3 f3 hgg hgc hZ
  go_region_held3 (fun v => v.cell? ⟨tb, 2, none⟩ = some (.int .i64 (k : Int)) ∧ v.cell? ⟨b4, 4, none⟩ = some (.string a.key) ∧ HasN 11 v b4 0 ∧ valN 11 v b4 0 = #[.int .i64 a.who, .int .i64 a.call, .int .i64 a.n, .int .i64 a.c, .string a.key, .string a.value, .bool a.found, .int .i64 a.code, .int .i64 a.stamp, .int .i64 a.from_, .int .i64 a.to]) (first | with_reducible exact S0.out | with_reducible exact S0d.out | with_reducible exact S1.out | with_reducible exact S2.out _) (first
    | (go_at_call 54; refine RQ.out.mono ?_; rintro e w12 ⟨b, rfl, hb1, hb2, hb3, hb4⟩
       have B12 := Lib.hid (And.intro hb1 (And.intro hb2 (And.intro hb3 hb4)))
       have S1 := Lib.hid (FS.out w12 (hb4.more (fun _ _ e => .inl e)))
       have S2 := Lib.hid (fun C : Array Value => FS.out (putN w12 (b4 + 1) 0 C) (putN_chg (hb4.more (fun _ _ e => .inl e)) (.inr (.inr rfl)) 0 C))
       have R12 : Hid (∃ Z', Blk w12 (b4 + 1) 102 Z' ∧ Z'.size = 13) := Lib.hid (Exists.elim RZ.out (fun Z' h => ⟨Z', h.1.chg hb4 (Nat.ne_of_gt (Nat.lt_succ_of_lt hbp)), h.2⟩))
       have rm : RoomN 13 w12 (b4 + 1) 0 := Exists.elim R12.out (fun Z' h => blkN_room h.1 h.2)
       have cw : CellsN 13 (#[.slice (some ⟨b, 0, none⟩) 1 1, .int .i64 a.who, .int .i64 a.call, .int .i64 a.n, .int .i64 a.c, .string a.key, .string a.value, .bool a.found, .int .i64 a.code, .int .i64 a.stamp, .int .i64 a.from_, .int .i64 a.to, .bool false]) := ⟨rfl, (by simp [Value.oneCell'])⟩
       clear hb1 hb2 hb3 hb4))
  have CS : Hid ((#[.slice (some ⟨b, 0, none⟩) 1 1, .int .i64 a.who, .int .i64 a.call, .int .i64 a.n, .int .i64 a.c, .string a.key, .string a.value, .bool a.found, .int .i64 a.code, .int .i64 a.stamp, .int .i64 a.from_, .int .i64 a.to, .bool false] : Array Value).size = 13) := Lib.hid rfl
  have CV : Hid (callV (.slice (some ⟨b, 0, none⟩) 1 1) a false = .agg #[.slice (some ⟨b, 0, none⟩) 1 1, .int .i64 a.who, .int .i64 a.call, .int .i64 a.n, .int .i64 a.c, .string a.key, .string a.value, .bool a.found, .int .i64 a.code, .int .i64 a.stamp, .int .i64 a.from_, .int .i64 a.to, .bool false]) := Lib.hid (by simp [callV, ActV.cs])
  clear S0 S0d S1 S2 FS rm cw RQ
  generalize (#[.slice (some ⟨b, 0, none⟩) 1 1, .int .i64 a.who, .int .i64 a.call, .int .i64 a.n, .int .i64 a.c, .string a.key, .string a.value, .bool a.found, .int .i64 a.code, .int .i64 a.stamp, .int .i64 a.from_, .int .i64 a.to, .bool false] : Array Value) = C at CS CV ⊢
  obtain ⟨q1, q2, q3, q4⟩ := B12.out
  have lb : b4 + 1 < Z.heap.size := by obtain ⟨Z', h1, _⟩ := RZ.out; exact h1.lt
  have K1 : Hid (Chg (fun j => j = p ∨ j = tb ∨ j = m1) w w12) := Lib.hid ((KW.out.more (fun _ _ e => .inr e)).on (q4.more (fun _ _ e => .inl e)))
  have KF : Hid (Chg (fun j => j = p ∨ j = tb ∨ j = m1) w (putN w12 (b4 + 1) 0 C)) := Lib.hid (putN_chg K1.out (.inl (by omega)) 0 C)
  have RF : Hid (Blk (putN w12 (b4 + 1) 0 C) (b4 + 1) 102 C) := Lib.hid (by obtain ⟨Z', h1, h2⟩ := R12.out; exact putN_fill h1 (h2.trans CS.out.symm))
  have CF : Hid (ClAt (putN w12 (b4 + 1) 0 C) p { c with seq := c.seq + 1, waits := true, hinted := false, grp := k, M := reqM (lockM k mode a.key) (c.seq + 1) n cc c.num, act := a }) := Lib.hid ⟨putN_far q3.blk (by omega), q3.msg⟩
  have BF : Hid (Blk (putN w12 (b4 + 1) 0 C) b 55 (aimedM (reqM (lockM k mode a.key) (c.seq + 1) n cc c.num) k x)) := Lib.hid (putN_far q2 (by omega))
  have KZF : Hid (Chg (fun j => j = p ∨ j = b4 + 1) Z (putN w12 (b4 + 1) 0 C)) := Lib.hid (putN_chg (q4.more (fun _ _ e => .inl e)) (.inr (.inr rfl)) 0 C)
  have ne2 : m2 ≠ p := nil_ne H.out.cl.blk HT.out.k2
  have ne3 : m3 ≠ p := nil_ne H.out.cl.blk HT.out.k3
  have ne4 : m4 ≠ p := nil_ne H.out.cl.blk HT.out.k4
  have gb4 := GZ.out.2
  have TF : Hid (Tx1 (putN w12 (b4 + 1) 0 C) tb n cc k a.key gg gcap m1 m2 m3 m4) := Lib.hid
    ⟨TZ.out.chg KZF.out (by omega), own_chg GZ.out.1 KZF.out (by omega), isF_same FZ.out (KZF.out.block m1 FZ.out.lt (by omega)), N2.out.1.chg KZF.out (by omega), N2.out.2.1.chg KZF.out (by omega), N2.out.2.2.chg KZF.out (by omega)⟩
  have K0F : Hid (Chg (fun j => j = p ∨ j = gb) w0 (putN w12 (b4 + 1) 0 C)) := Lib.hid (H0.out.2.trans KF.out (fun j hj e => by omega))
  have HF : Hid (CliAt lo (putN w12 (b4 + 1) 0 C) p { c with seq := c.seq + 1, waits := true, hinted := false, grp := k, M := reqM (lockM k mode a.key) (c.seq + 1) n cc c.num, act := a } ob oc gb gc g q L gs sp) := Lib.hid (by
    refine H0.out.1.to K0F.out CF.out HE.out.1 HE.out.2.1 HE.out.2.2 H.out.lenG ?_
    obtain ⟨cur, r1, r2⟩ := H.out.guess
    have pg := H.out.pg
    exact ⟨cur, r1.chg KF.out (by omega), r2⟩)
  have hbl : w.heap.size ≤ b := by have := KW.out.size; omega
  have hl := load_call CS.out RF.out.range
  clear KZF K0F CF RF
  generalize putN w12 (b4 + 1) 0 C = WF at hl HF TF BF KF ⊢
  go_wp2_with fail
  refine bodyPost_ret (v := .tuple #[.agg C, .int .i64 0]) (by simp [results, Try.results45, asAddr, hl]) rfl ⟨b, k, x, by rw [CV.out], ⟨hkg, hx, hbl, BF.out, HF.out, ⟨gg, gcap, by omega, TF.out⟩, KF.out⟩⟩
end Go.Proofs.Ytpaihfdmjkfegaa.Cl
