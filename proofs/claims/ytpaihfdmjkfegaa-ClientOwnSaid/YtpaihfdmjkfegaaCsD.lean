/- A transaction's parts changed; lock, at any transaction that may ask: walked. -/
import Derived.Test.YtpaihfdmjkfegaaCsA
import Derived.Deep.Onto
import Derived.Test.YtpaihfdmjkfegaaCsF
import Derived.Test.YtpaihfdmjkfegaaCsC
import Derived.Test.YtpaihfdmjkfegaaCsB
import Derived.Test.YtpaihfdmjkfegaaCpD
import Derived.WideShapes
import Derived.ChangeArms
import Derived.Deep.Slices
import Derived.Deep.Strs
import Derived.OpenShut
import Derived.SizedLaws
/- A transaction's parts changed; lock, at any transaction that may ask: walked. -/
namespace Go.Proofs.Ytpaihfdmjkfegaa.Cl
open Go.RowKit Go.Lib Go.Maps Go.Proofs.Ytpaihfdmjkfegaa.MapF Go.Proofs.Ytpaihfdmjkfegaa.Msg Go.Proofs.Ytpaihfdmjkfegaa.Cls Go.Proofs.Ytpaihfdmjkfegaa.Ck

section
variable {A S : Nat → Prop} {w w' : World} {x : TxB} {t : TxS}
theorem own_blk_ne' {base n size g : Nat} {e e' : TypeId} {v : Value} {xs : List Value} {cs : Array Value} (h : w.ownsRow base e size v n xs) (hg : Blk w g e' cs) (hne : e ≠ e') : v.ownBlock ≠ some g := own_blk_ne h hg hne
/-- The blocks of a transaction, named. -/
theorem TxAt.exact (h : TxAt A w x t) : TxAt (fun b => A b ∧ (b = x.tb ∨ b = x.m1 ∨ b = x.m2 ∨ b = x.m3 ∨ b = x.m4 ∨ x.vs.ownBlock = some b)) w x t :=
  ⟨h.blk, h.gr, fun b hb => ⟨h.grA b hb, by simp [hb]⟩, h.k1, h.k2, h.k3, h.k4, h.ne, ⟨⟨h.inA.1, by simp⟩, ⟨h.inA.2.1, by simp⟩, ⟨h.inA.2.2.1, by simp⟩, ⟨h.inA.2.2.2.1, by simp⟩, ⟨h.inA.2.2.2.2, by simp⟩⟩, h.ksN, h.lsN⟩
/-- A transaction's home is set. -/
theorem TxAt.setHome (h : TxAt A w x t) (hm : Int) : TxAt A (w.setCell ⟨x.tb, 2, none⟩ (.int .i64 hm)) x { t with home := hm } := by
  have K : Chg (fun j => j = x.tb) w (w.setCell ⟨x.tb, 2, none⟩ (.int .i64 hm)) := Chg.set (S := fun j => j = x.tb) (Chg.refl _ w) (p := ⟨x.tb, 2, none⟩) (.inr rfl) _
  obtain ⟨n1, n2, n3, n4⟩ := h.tm
  exact ⟨h.blk.set_ 2 _, own_same h.gr (fun b hb hv => K.block b hb (fun e => own_blk_ne h.gr h.blk (by decide) (e ▸ hv))), h.grA,
    isF_same h.k1 (K.block _ h.k1.lt (Ne.symm n1)), isF_same h.k2 (K.block _ h.k2.lt (Ne.symm n2)), isF_same h.k3 (K.block _ h.k3.lt (Ne.symm n3)), isF_same h.k4 (K.block _ h.k4.lt (Ne.symm n4)), h.ne, h.inA, h.ksN, h.lsN⟩
/-- A transaction's row of groups is another. -/
theorem TxAt.setGr (h : TxAt A w x t) (k : Chg (fun j => x.vs.ownBlock = some j) w w') {vs : Value} {gr : List Int} (ho : w'.ownsRow 0 3 1 vs gr.length (inC gr)) (ha : ∀ b, vs.ownBlock = some b → A b) :
    TxAt A (w'.setCell ⟨x.tb, 3, none⟩ vs) { x with vs := vs } { t with gr := gr } := by
  have nb : ¬ x.vs.ownBlock = some x.tb := own_blk_ne h.gr h.blk (by decide)
  have B1 : Blk w' x.tb 110 _ := h.blk.chg k nb
  have K : Chg (fun j => j = x.tb ∨ x.vs.ownBlock = some j) w (w'.setCell ⟨x.tb, 3, none⟩ vs) := (k.more (fun _ _ e => .inr e)).set (p := ⟨x.tb, 3, none⟩) (.inr (.inl rfl)) _
  have K2 : Chg (fun j => j = x.tb) w' (w'.setCell ⟨x.tb, 3, none⟩ vs) := Chg.set (S := fun j => j = x.tb) (Chg.refl _ w') (p := ⟨x.tb, 3, none⟩) (.inr rfl) _
  obtain ⟨n1, n2, n3, n4⟩ := h.tm
  have mk : ∀ {t' : TypeId} {κ α : Type} {M : MapTy Try.prog t' κ α} {b n : Nat} {f : κ → Option α}, IsF M w b n f → x.tb ≠ b → IsF M (w'.setCell ⟨x.tb, 3, none⟩ vs) b n f := fun hf hne =>
    isF_same hf (K.block _ hf.lt (fun e => by rcases e with e | e; exact hne e.symm; exact own_ne_map h.gr hf.isMp e))
  exact ⟨B1.set_ 3 _, own_same ho (fun b hb hv => K2.block b hb (fun e => own_blk_ne ho B1 (by decide) (e ▸ hv))), ha, mk h.k1 n1, mk h.k2 n2, mk h.k3 n3, mk h.k4 n4, h.ne, h.inA, h.ksN, h.lsN⟩
/-- A key is asked for. -/
theorem TxAt.setKey (h : TxAt A w x t) (k : Chg (fun j => j = x.m1) w w') {key : ByteArray} (hk : okS key) (hF : IsF mB w' x.m1 (x.N + 1) (setF (ins t.ks key))) : TxAt A w' { x with N := x.N + 1 } { t with ks := ins t.ks key } := by
  obtain ⟨n1, n2, n3, n4⟩ := h.tm
  have hn := h.ne
  refine ⟨h.blk.chg k n1, own_same h.gr (fun b hb hv => k.block b hb (fun e => own_ne_map h.gr h.k1.isMp (e ▸ hv))), h.grA, hF,
    (isF_same h.k2 (k.block _ h.k2.lt (Ne.symm hn.1))).mono (Nat.le_succ _), (isF_same h.k3 (k.block _ h.k3.lt (Ne.symm hn.2.1))).mono (Nat.le_succ _), (isF_same h.k4 (k.block _ h.k4.lt (Ne.symm hn.2.2.1))).mono (Nat.le_succ _), hn, h.inA, ⟨ins_nodup h.ksN.1 _, ?_⟩, h.lsN⟩
  intro y hy
  rcases mem_ins.1 hy with hy | rfl
  · exact h.ksN.2 y hy
  · exact hk
end

theorem okS_keyB {s : ByteArray} (h : keyB s = true) : okS s := by
  unfold keyB at h
  simp only [Bool.and_eq_true, decide_eq_true_eq] at h
  unfold okS maxLen
  omega
theorem mem_insL {l : List Int} {i : Nat} {x y : Int} : y ∈ insL l i x ↔ y ∈ l ∨ y = x := by
  unfold insL
  rw [List.mem_append, List.mem_cons]
  constructor
  · rintro (h | h | h)
    · exact .inl (List.mem_of_mem_take h)
    · exact .inr h
    · exact .inl (List.mem_of_mem_drop h)
  · rintro (h | h)
    · have : y ∈ l.take i ++ l.drop i := by rw [List.take_append_drop]; exact h
      rcases List.mem_append.1 this with h | h
      · exact .inl h
      · exact .inr (.inr h)
    · exact .inr (.inl h)
theorem insL_sorted {l : List Int} {i : Nat} {x : Int} (h : l.Pairwise (· < ·)) (hp : PlaceOf l x i) (hx : x ∉ l) : (insL l i x).Pairwise (· < ·) := by
  unfold insL
  have h2 : (l.take i ++ l.drop i).Pairwise (· < ·) := by rw [List.take_append_drop]; exact h
  rw [List.pairwise_append] at h2 ⊢
  have lo : ∀ y ∈ l.take i, y < x := fun y hy => by
    obtain ⟨j, hj, e⟩ := List.mem_iff_getElem.1 hy
    rw [List.length_take] at hj
    rw [List.getElem_take] at e
    exact (hp.2 j y (by rw [List.getElem?_eq_getElem (by omega), e])).2 (by omega)
  have hi : ∀ y ∈ l.drop i, x < y := fun y hy => by
    obtain ⟨j, hj, e⟩ := List.mem_iff_getElem.1 hy
    rw [List.length_drop] at hj
    rw [List.getElem_drop] at e
    have h1 := (hp.2 (i + j) y (by rw [List.getElem?_eq_getElem (by omega), e]))
    have h3 : ¬ y < x := fun h4 => by have := h1.1 h4; omega
    have h4 : y ≠ x := fun e2 => hx (by rw [← e2]; exact List.mem_of_mem_drop hy)
    omega
  refine ⟨h2.1, ?_, fun y hy z hz => ?_⟩
  · rw [List.pairwise_cons]
    exact ⟨hi, h2.2.1⟩
  · rcases List.mem_cons.1 hz with rfl | hz
    · exact lo y hy
    · exact h2.2.2 y hy z hz

/-- What a lock's asking leaves, at any transaction. -/
structure LockG (lo p : Nat) (c : Client) (ob oc gb gc g q : Nat) (L : List Ent) (gs : List Nat) (sp : List ByteArray) (w0 : World) (x : TxB) (t : TxS) (a : ActV) (mode : Int) (w w' : World) (b k nd : Nat) (vs : Value) (gr : List Int) (hm : Int) : Prop where
  hk : k < g
  hx : gs[k]? = some nd
  hb : w.heap.size ≤ b
  hmI : hm = if t.home < 0 then (k : Int) else t.home
  msg : Blk w' b 55 (aimedM (reqM (lockM hm mode a.key) (c.seq + 1) t.n t.c c.num) k nd)
  cli : CliAt lo w' p { c with seq := c.seq + 1, waits := true, hinted := false, grp := k, M := reqM (lockM hm mode a.key) (c.seq + 1) t.n t.c c.num, act := a } ob oc gb gc g q L gs sp
  tx : TxAt (fun b => w0.heap.size ≤ b) w' { x with vs := vs, N := x.N + 1 } { t with home := hm, gr := gr, ks := ins t.ks a.key }
  grS : gr.Pairwise (· < ·)
  grM : ∀ y, y ∈ gr ↔ y ∈ t.gr ∨ y = (k : Int)
  vsB : ∀ j, vs.ownBlock = some j → x.vs.ownBlock = some j ∨ w.heap.size ≤ j
  chg : Chg (fun j => j = p ∨ j = x.tb ∨ j = x.m1 ∨ x.vs.ownBlock = some j) w w'

theorem LockG.up {lo p : Nat} {c : Client} {ob oc gb gc g q : Nat} {L : List Ent} {gs : List Nat} {sp : List ByteArray} {w0 : World} {x : TxB} {t : TxS} {a : ActV} {mode : Int} {w v v' v'' : World} {b k nd g0 : Nat} {vs : Value} {gr : List Int} {hm : Int} (h : LockG lo p c ob oc gb gc g q L gs sp w0 x t a mode v v' b k nd vs gr hm) (hv : Below w.heap.size w v)
    (hT : TxAt (fun b => w0.heap.size ≤ b) w x t) (hp : p < w.heap.size) {c0 : Client} {gs0 : List Nat} (h0 : CliAt lo w0 p c0 ob oc gb gc g q L gs0 sp) (K0 : Chg (fun b => b = p ∨ b = gb) w0 w) (he : c.vo = c0.vo ∧ c.vg = c0.vg ∧ c.D = c0.D) (hg : w.heap.size ≤ g0 ∧ g0 < v.heap.size) (hc : Chg (fun j => j = g0) v' v'') :
    LockG lo p c ob oc gb gc g q L gs sp w0 x t a mode w v'' b k nd vs gr hm := by
  have s1 := hv.size
  have hb := h.hb
  have K1 : Chg (fun j => j = p ∨ j = x.tb ∨ j = x.m1 ∨ x.vs.ownBlock = some j) w v' := (Chg.of hv).on h.chg
  have K2 : Chg (fun j => j = p ∨ j = x.tb ∨ j = x.m1 ∨ x.vs.ownBlock = some j) w v'' := K1.trans hc (fun j hj e => by omega)
  have hgb : gb < w0.heap.size := by obtain ⟨cur, q1, _⟩ := h0.guess; exact q1.lt
  have s0 := K0.size
  have ha := hT.inA
  have hga := hT.grA
  have o1 : ∀ j, x.vs.ownBlock = some j → j < w.heap.size := fun j hj => (hT.gr.lt j hj).2
  have t1 := hT.blk.lt
  have t2 := hT.k1.lt
  have t3 := hT.k2.lt
  have t4 := hT.k3.lt
  have t5 := hT.k4.lt
  refine ⟨h.hk, h.hx, by omega, h.hmI, h.msg.chg hc (by omega), ?_, ?_, h.grS, h.grM, fun j hj => ?_, K2⟩
  · refine h0.to (K0.trans K2 (fun j hj e => ?_)) (h.cli.cl.chg hc (by omega)) he.1 he.2.1 he.2.2 h.cli.lenG ?_
    · rcases e with e | e | e | e
      · exact .inl e
      · omega
      · omega
      · have := hga j e; omega
    · obtain ⟨cur, r1, r2⟩ := h.cli.guess
      exact ⟨cur, r1.chg hc (by omega), r2⟩
  · refine (h.tx.exact.chg hc (fun j _ hj e => ?_)).more (fun j hj => hj.1)
    obtain ⟨_, hj⟩ := hj
    simp only at hj
    rcases hj with rfl | rfl | rfl | rfl | rfl | hj
    · omega
    · omega
    · omega
    · omega
    · omega
    · rcases h.vsB j hj with h1 | h1
      · have := o1 j h1; omega
      · omega
  · rcases h.vsB j hj with h1 | h1
    · exact .inl h1
    · exact .inr (by omega)

attribute [local go_sem ↓] loadMsg_eq storeMsg_eq buildMsg_eq
attribute [local go_sem] run_loadMsg run_storeMsg run_buildMsg
attribute [local go_sem ↓] loadAct_eq storeAct_eq storeCall_eq loadCall_eq
attribute [local go_sem] run_loadAct run_storeAct run_storeCall run_loadCall

def KeyR (W : World) (v31 : Value) (wr : World) : Prop := v31 = .bool false ∧ Below W.heap.size W wr
def HomeR (A : Nat → Prop) (x : TxB) (t : TxS) (hm : Int) (W : World) (_v50 : Value) (wr : World) : Prop := TxAt A wr x { t with home := hm } ∧ Chg (fun j => j = x.tb) W wr
def GrR (A : Nat → Prop) (x : TxB) (t : TxS) (k : Nat) (W : World) (_v65 : Value) (wr : World) : Prop := ∃ vs gr, TxAt A wr { x with vs := vs } { t with gr := gr } ∧ gr.Pairwise (· < ·) ∧ (∀ y, y ∈ gr ↔ y ∈ t.gr ∨ y = (k : Int)) ∧ (∀ j, vs.ownBlock = some j → x.vs.ownBlock = some j ∨ W.heap.size ≤ j) ∧ Chg (fun j => j = x.tb ∨ x.vs.ownBlock = some j) W wr

set_option maxRecDepth 100000 in
set_option maxHeartbeats 4000000 in
theorem lock_gen (lo p : Nat) (c : Client) (ob oc gb gc g q : Nat) (L : List Ent) (gs : List Nat) (sp : List ByteArray) (w0 : World) (x : TxB) (t : TxS) (a : ActV) (mode : Int) (w : World) (h : CliAt lo w p c ob oc gb gc g q L gs sp) (hsp : sp.length + 1 = g) (hg8 : g ≤ 8)
    (ht : c.vt = .pointer (some ⟨x.tb, 0, none⟩)) (hT : TxAt (fun b => w0.heap.size ≤ b) w x t) (hN : x.N + 1 < maxLen) (hgl : t.gr.length ≤ 100) (hgs : t.gr.Pairwise (· < ·)) (hkn : a.key ∈ t.ks ∨ t.ks.length < 16) (hk : keyB a.key = true) (hs : 0 ≤ c.seq ∧ c.seq < 1000000)
    (c0 : Client) (gs0 : List Nat) (h0 : CliAt lo w0 p c0 ob oc gb gc g q L gs0 sp) (K0 : Chg (fun b => b = p ∨ b = gb) w0 w) (he : c.vo = c0.vo ∧ c.vg = c0.vg ∧ c.D = c0.D) :
    Calls Try.prog 45 #[.pointer (some ⟨p, 0, none⟩), .agg a.cs, .int .i64 mode] w fun e w' => ∃ b k nd vs gr hm, e = .returned (.tuple #[callV (.slice (some ⟨b, 0, none⟩) 1 1) a false, .int .i64 0]) ∧ LockG lo p c ob oc gb gc g q L gs sp w0 x t a mode w w' b k nd vs gr hm := by
  have H := Lib.hid h
  have HT := Lib.hid hT
  have HTT := Lib.hid ht
  have H0 := Lib.hid (And.intro h0 K0)
  have HE := Lib.hid he
  have HG := Lib.hid (And.intro hgl hgs)
  have hp := h.cl.blk.lt
  have p0 : p < w0.heap.size := h0.cl.blk.lt
  have gb0 : gb < w0.heap.size := by obtain ⟨cur, q1, _⟩ := h0.guess; exact q1.lt
  have s0 := K0.size
  have inA := hT.inA
  have ok : okS a.key := okS_keyB hk
  have HK := Lib.hid hk
  obtain ⟨A, hA⟩ : ∃ A, A = a.cs := ⟨_, rfl⟩
  have A3 : A[4]? = some (.string a.key) := by rw [hA]; simp [ActV.cs]
  have AC : Hid (CellsN 11 A) := Lib.hid (hA ▸ a.cells)
  rw [← hA]
  have EA := Lib.hid hA
  have LN := Lib.hid (fun (v : World) (hv : Below w.heap.size w v) => isF_len (M := mB) (fun _ => rfl) (fun _ => Iff.rfl) ((hT.keep hv).k1) t.ks hT.ksN.1 hT.ksN.2 (fun y => by unfold setF; by_cases h : y ∈ t.ks <;> simp [h]) Try.underlying107 3)
  obtain ⟨kb, hkb⟩ : ∃ kb : Bool, kb = true ↔ a.key ∈ t.ks := by
    by_cases h : a.key ∈ t.ks
    · exact ⟨true, by simp [h]⟩
    · exact ⟨false, by simp [h]⟩
  have LK : Hid (∀ v, Below w.heap.size w v → (Instr.lookup 107 (.map (some x.m1)) (.string a.key) false).run Try.prog v = .ok (.bool kb) v) := Lib.hid (fun v hv => by
    have h := ((hT.keep hv).k1).look Try.underlying107 (z0 := false) (zero4 v) a.key ok
    refine h.trans ?_
    unfold setF
    by_cases hm : a.key ∈ t.ks
    · rw [if_pos hm, hkb.2 hm]; rfl
    · rw [if_neg hm, show kb = false from Bool.eq_false_iff.2 (fun e => hm (hkb.1 e))]; rfl)
  have KN : Hid (kb = true ∨ t.ks.length < 16) := Lib.hid (by
    rcases hkn with h | h
    · exact .inl (hkb.2 h)
    · exact .inr h)
  obtain ⟨nk, hnk⟩ : ∃ nk, nk = t.ks.length := ⟨_, rfl⟩
  rw [← hnk] at LN KN
  clear h hT hk hA h0 K0 he ht hkn hkb hgl hgs hnk
  go_enter Try.func45, Try.ntmps45
  go_upto_region 1 with (fail)
  refine world_out (fun W hW => ?_)
  obtain ⟨b4, hb4⟩ : ∃ b, b = w.heap.size := ⟨_, rfl⟩
  have BW : Hid (Below w.heap.size w W) := Lib.hid (by rw [hW]; exact ((Below.refl _ _).alloc (Nat.le_refl _) _).alloc (by simp) _)
  have A1 : Hid (Blk W b4 43 A) := Lib.hid (by rw [hW, hb4]; exact (Blk.new w 43 A).alloc _)
  have R1 : Hid (∃ Z, Blk W (b4 + 1) 102 Z ∧ Z.size = 13) := Lib.hid ⟨_, by rw [hW, hb4]; exact Blk.new2 w 43 A 102 _, rfl⟩
  have hbw : w.heap.size ≤ b4 := Nat.le_of_eq hb4.symm
  rw [← hb4]
  clear hW hb4
  have c7 := (H.out.cl.below BW.out hp).vt
  rw [HTT.out] at c7
  have t4 : W.cell? ⟨x.tb, 4, none⟩ = some (.map (some x.m1)) := (HT.out.keep BW.out).blk.cell 4
  have a3 : W.cell? ⟨b4, 4, none⟩ = some (.string a.key) := by rw [A1.out.cell]; exact A3
  have lkd : ∀ n, (Instr.lookup 107 (.map (some x.m1)) (.string a.key) false).run Try.prog (W.drewN n) = .ok (.bool kb) (W.drewN n) := fun n => LK.out _ (below_drewN BW.out n)
  have lnd : ∀ n, (Builtin.len_ #[107] 3 #[.map (some x.m1)]).run Try.prog (W.drewN n) = .ok (.int .i64 nk) (W.drewN n) := fun n => LN.out _ (below_drewN BW.out n)
  go_upto_region 2 with (fail)
  go_cut [31] from 12 (KeyR W)
  case first =>
    cases kb with
    | true =>
      go_quiet (fail)
      go_wp2_with fail
      go_meet
      case rel => exact ⟨rfl, below_drewN (Below.refl _ _) _⟩
    | false =>
      have h16 : ¬ (16 : Int) ≤ (nk : Int) := by
        rcases KN.out with h | h
        · cases h
        · omega
      go_quiet (fail)
      go_wp2_with fail
      go_meet
      case rel => exact ⟨rfl, below_drewN (Below.refl _ _) _⟩
  case rest =>
  obtain ⟨rfl, hBV0⟩ := hcut
  have BV : Hid (Below w.heap.size w wc) := Lib.hid (BW.out.trans (hBV0.mono BW.out.size))
  have A2 : Hid (Blk wc b4 43 A) := Lib.hid (A1.out.below hBV0 A1.out.lt)
  have R2 : Hid (∃ Z, Blk wc (b4 + 1) 102 Z ∧ Z.size = 13) := Lib.hid (by obtain ⟨Z, h1, h2⟩ := R1.out; exact ⟨Z, h1.below hBV0 h1.lt, h2⟩)
  have H2 := Lib.hid (H.out.keep BV.out)
  have v4 : wc.cell? ⟨b4, 4, none⟩ = some (.string a.key) := by rw [A2.out.cell]; exact A3
  clear hBV0 A1 R1 BW c7 t4 a3 lkd lnd LN LK KN A3
  go_upto_region 4 with (fail)
  have v2 := H2.out.cl.dir
  obtain ⟨DA, dc, hD, _, _, hDR, _⟩ := H2.out.dir
  have GA := Lib.hid (group_any c.D a.key sp DA dc wc.drew HK.out hD hDR.in_ (by omega))
  have S1 : Hid (wc.cell? ⟨p, 2, none⟩ = some (.pointer (some ⟨c.D, 0, none⟩)) ∧ wc.cell? ⟨b4, 4, none⟩ = some (.string a.key)) := Lib.hid ⟨v2, v4⟩
  clear hD hDR
  go_region_held3 (fun v => v.cell? ⟨p, 2, none⟩ = some (.pointer (some ⟨c.D, 0, none⟩)) ∧ v.cell? ⟨b4, 4, none⟩ = some (.string a.key)) (first | exact S1.out) (first
    | (go_at_call 55; refine GA.out.mono ?_; rintro e w2 ⟨⟨k, rfl, hkl⟩, rfl⟩))
  go_upto_region 5 with (fail)
  refine world_out (fun X hX => ?_)
  have BX : Hid (Below w.heap.size w X) := Lib.hid (by rw [hX]; exact BV.out.drew)
  have A3 : Hid (Blk X b4 43 A) := Lib.hid (by rw [hX]; exact A2.out.drew)
  have R3 : Hid (∃ Z, Blk X (b4 + 1) 102 Z ∧ Z.size = 13) := Lib.hid (by rw [hX]; exact R2.out)
  have x4 : X.cell? ⟨b4, 4, none⟩ = some (.string a.key) := by rw [hX]; exact v4
  clear hX S1 v4 v2 GA H2 A2 R2 BV
  have T3 := Lib.hid (HT.out.keep BX.out)
  have t4 : X.cell? ⟨x.tb, 4, none⟩ = some (.map (some x.m1)) := T3.out.blk.cell 4
  obtain ⟨w5, hst, hF, hturn⟩ := IsF.store (w := X.drew) (t := 107) (e := 4) T3.out.k1 Try.underlying107 (by show x.N < maxLen; omega) a.key ok true
  rw [setF_ins] at hF
  have hst' : (Instr.mapUpdate 107 (.map (some x.m1)) (.string a.key) (.bool true)).run Try.prog X.drew = .ok () w5 := hst
  have K5 : Hid (Chg (fun j => j = x.m1) X w5) := Lib.hid (((Chg.refl _ X).drew).on (Chg.grown hturn.grown))
  have T5 : Hid (TxAt (fun b => w0.heap.size ≤ b) w5 { x with N := x.N + 1 } { t with ks := ins t.ks a.key }) := Lib.hid (T3.out.setKey K5.out ok hF)
  have tm1 := T3.out.tm.1
  have m1l := HT.out.k1.lt
  have tbl := HT.out.blk.lt
  have b4m : b4 ≠ x.m1 := by omega
  have S1 : Hid (X.cell? ⟨x.tb, 4, none⟩ = some (.map (some x.m1)) ∧ X.cell? ⟨b4, 4, none⟩ = some (.string a.key)) := Lib.hid ⟨t4, x4⟩
  have S2 : Hid (w5.cell? ⟨x.tb, 4, none⟩ = some (.map (some x.m1)) ∧ w5.cell? ⟨b4, 4, none⟩ = some (.string a.key)) := Lib.hid ⟨K5.out.cell t4 tm1, K5.out.cell x4 b4m⟩
  clear hst hF hturn
  go_region_held3 (fun v => v.cell? ⟨x.tb, 4, none⟩ = some (.map (some x.m1)) ∧ v.cell? ⟨b4, 4, none⟩ = some (.string a.key)) (first | exact S1.out | exact S2.out) (fail)
  clear hst' S1 S2 t4 x4
  obtain ⟨hm, hhm⟩ : ∃ hm : Int, hm = if t.home < 0 then (k : Int) else t.home := ⟨_, rfl⟩
  have HM := Lib.hid hhm
  have t2 : w5.cell? ⟨x.tb, 2, none⟩ = some (.int .i64 t.home) := T5.out.blk.cell 2
  have f2 := T5.out.blk.frozen 2
  obtain ⟨x5, hx5⟩ : ∃ x5 : TxB, x5 = { x with N := x.N + 1 } := ⟨_, rfl⟩
  obtain ⟨t5, ht5⟩ : ∃ t5 : TxS, t5 = { t with ks := ins t.ks a.key } := ⟨_, rfl⟩
  rw [← hx5, ← ht5] at T5
  have e5 : x5.tb = x.tb ∧ x5.m1 = x.m1 ∧ x5.vs = x.vs ∧ t5.gr = t.gr ∧ t5.home = t.home := by rw [hx5, ht5]; exact ⟨rfl, rfl, rfl, rfl, rfl⟩
  have E5 := Lib.hid (And.intro hx5 ht5)
  have Q5 := Lib.hid e5
  clear hx5 ht5 e5 hhm
  go_upto_if 50 with (fail)
  go_cut [50] from 12 (HomeR (fun b => w0.heap.size ≤ b) x5 t5 hm w5)
  case first =>
    by_cases hh : t.home < 0
    · have em : hm = (k : Int) := by rw [HM.out, if_pos hh]
      go_wp2_with fail
      go_meet
      case rel =>
        rw [em, ← Q5.out.1]
        exact ⟨T5.out.setHome _, Chg.set (S := fun j => j = x5.tb) (Chg.refl _ w5) (p := ⟨x5.tb, 2, none⟩) (.inr rfl) _⟩
    · have em : hm = t5.home := by rw [HM.out, if_neg hh]; exact Q5.out.2.2.2.2.symm
      go_wp2_with fail
      go_meet
      case rel =>
        rw [em]
        exact ⟨T5.out, Chg.refl _ _⟩
  case rest =>
  obtain ⟨hT6, hK6⟩ := hcut
  have T6 := Lib.hid hT6
  have K6 : Hid (Chg (fun j => j = x.tb ∨ j = x.m1) X wc) := Lib.hid ((K5.out.more (fun _ _ e => .inr e)).on (hK6.more (fun _ _ e => .inl (e.trans Q5.out.1))))
  clear hT6 hK6 T5 K5 t2 f2
  generalize wc = Y at T6 K6 ⊢
  have y3 : Y.cell? ⟨x.tb, 3, none⟩ = some x.vs := by
    have := T6.out.blk.cell 3
    rw [Q5.out.1, Q5.out.2.2.1] at this
    exact this
  have GI : Hid (SlIn (fun _ => True) Y x.vs t.gr.length (inC t.gr)) := Lib.hid (by
    have h := T6.out.gr
    rw [Q5.out.2.2.1] at h
    have h' : Y.ownsRow 0 3 1 x.vs t.gr.length (inC t.gr) := by have e := Q5.out.2.2.2.1; simp only [e] at h; exact h
    rcases h'.2 with ⟨e, h0⟩ | ⟨gg, cp, cur, e, _⟩
    · rw [e] at h' ⊢
      rw [h0] at h' ⊢
      exact (SlIn.of_own h').more (fun _ _ => trivial)
    · rw [e] at h' ⊢
      exact (SlIn.of_own h').more (fun _ _ => trivial))
  have BS := Lib.hid (bsI (fun _ => True) t.gr x.vs (k : Int) Y GI.out (by have := HG.out.1; omega) HG.out.2)
  obtain ⟨fb, hfb⟩ : ∃ fb : Bool, fb = decide ((k : Int) ∈ t.gr) := ⟨_, rfl⟩
  have FB := Lib.hid hfb
  rw [← hfb] at BS
  clear hfb GI
  go_upto_if 65 with (go_at_call 56; refine BS.out.mono ?_; rintro e w8 ⟨i, rfl, hPl, rfl⟩; have PL := Lib.hid hPl; clear hPl)
  go_cut [65] from 12 (GrR (fun b => w0.heap.size ≤ b) x5 { t5 with home := hm } k w8)
  case first =>
    cases fb with
    | true =>
      go_wp2_with fail
      go_meet
      case rel =>
        have hmem : (k : Int) ∈ t.gr := of_decide_eq_true FB.out.symm
        refine ⟨x5.vs, t5.gr, T6.out, by rw [Q5.out.2.2.2.1]; exact HG.out.2, fun y => ?_, fun j hj => .inl hj, Chg.refl _ _⟩
        constructor
        · exact .inl
        · rintro (h | h)
          · exact h
          · rw [h]
            show (k : Int) ∈ t5.gr
            rw [Q5.out.2.2.2.1]
            exact hmem
    | false =>
      have hnm : (k : Int) ∉ t.gr := of_decide_eq_false FB.out.symm
      have HNM := Lib.hid hnm
      clear hnm
      have tbY : x.tb < w8.heap.size := by have := T6.out.blk.lt; rw [Q5.out.1] at this; exact this
      have OW : Hid ((w8.alloc (.cells #[.int .i64 (k : Int)] 3)).ownsRow 0 3 1 x.vs t.gr.length (inC t.gr)) := Lib.hid (by
        have h := T6.out.gr
        rw [Q5.out.2.2.1] at h
        have e := Q5.out.2.2.2.1
        simp only [e] at h
        exact h.alloc _)
      have NB : Hid (x.vs.ownBlock ≠ some w8.heap.size) := Lib.hid (fun e => by
        have h := T6.out.gr
        rw [Q5.out.2.2.1] at h
        have := (h.lt _ e).2
        omega)
      have IN := Lib.hid (insert_any 0 t.gr x.vs i w8.heap.size 1 (k : Int) (w8.alloc (.cells #[.int .i64 (k : Int)] 3)) (by have := HG.out.1; omega) PL.out.1 OW.out (Nat.zero_le _) (Blk.new w8 3 _) NB.out)
      have F9 : Hid (∀ v, Chg (fun j => x.vs.ownBlock = some j) (w8.alloc (.cells #[.int .i64 (k : Int)] 3)) v → v.cell? ⟨x.tb, 3, none⟩ = some x.vs ∧ v.frozen? ⟨x.tb, 3, none⟩ = false) := Lib.hid (fun v hv => by
        have hB := T6.out.blk.alloc (.cells #[.int .i64 (k : Int)] 3)
        have nb : ¬ x.vs.ownBlock = some x5.tb := by
          rw [← Q5.out.2.2.1]
          exact own_blk_ne T6.out.gr T6.out.blk (by decide)
        have h := hB.chg hv nb
        have h3 := h.cell 3
        have f3 := h.frozen 3
        rw [Q5.out.1, Q5.out.2.2.1] at h3
        rw [Q5.out.1] at f3
        exact ⟨h3, f3⟩)
      go_wp2_with (go_at_call 57; go_loud (refine IN.out.mono ?_; rintro e w9 ⟨gg, gcap, rfl, r1, r2, r3⟩; have I9 := Lib.hid (And.intro r1 (And.intro r2 r3)); obtain ⟨n3, f3⟩ := F9.out _ r2; clear r1 r2 r3))
      go_meet
      case rel =>
        obtain ⟨r1, r2, r3⟩ := I9.out
        have kk : Chg (fun j => x5.vs.ownBlock = some j) w8 w9 := by
          rw [Q5.out.2.2.1]
          exact ((Chg.refl _ w8).alloc _).on r2
        have ll : (insL t.gr i (k : Int)).length = t.gr.length + 1 := insL_len _ _ _
        have nn : ∀ j, (Value.slice (some ⟨gg, 0, none⟩) (t.gr.length + 1) gcap).ownBlock = some j → x5.vs.ownBlock = some j ∨ w8.heap.size ≤ j := fun j hj => by
          have : gg = j := by simpa [Value.ownBlock] using hj
          subst this
          rcases r3 with e | e
          · exact .inl (by rw [Q5.out.2.2.1]; exact e)
          · exact .inr (by have : w8.heap.size + 1 ≤ gg := by simpa using e
                           omega)
        refine ⟨_, insL t.gr i (k : Int), ?_, insL_sorted HG.out.2 PL.out HNM.out, fun y => ?_, nn, ?_⟩
        · rw [← Q5.out.1]
          exact T6.out.setGr (w' := w9) kk (gr := insL t.gr i (k : Int)) (by rw [ll]; exact r1) (fun j hj => by
            rcases nn j hj with e | e
            · exact T6.out.grA j e
            · have := BX.out.size
              have := K6.out.size
              show w0.heap.size ≤ j
              omega)
        · rw [mem_insL]
          show _ ↔ y ∈ t5.gr ∨ _
          rw [Q5.out.2.2.2.1]
        · refine (kk.more (fun _ _ e => .inr e)).set (p := ⟨x.tb, 3, none⟩) (.inr (.inl Q5.out.1.symm)) _
  case rest =>
  obtain ⟨vs, gr, hTZ, grS, grM, vsB, hKZ⟩ := hcut
  have TZ := Lib.hid hTZ
  have GZ := Lib.hid (And.intro grS (And.intro grM vsB))
  have KZ : Hid (Chg (fun j => j = x.tb ∨ j = x.m1 ∨ x.vs.ownBlock = some j) X wc) := Lib.hid ((K6.out.more (fun _ _ e => by rcases e with e | e; exact .inl e; exact .inr (.inl e))).on (hKZ.more (fun _ _ e => by rcases e with e | e; exact .inl (e.trans Q5.out.1); exact .inr (.inr (by rw [Q5.out.2.2.1] at e; exact e)))))
  have ZY : Hid (Chg (fun j => j = x.tb ∨ x.vs.ownBlock = some j) w8 wc) := Lib.hid (hKZ.more (fun _ _ e => by rcases e with e | e; exact .inl (e.trans Q5.out.1); exact .inr (by rw [Q5.out.2.2.1] at e; exact e)))
  clear hTZ grS grM vsB hKZ y3 BS
  generalize wc = Z at TZ KZ ZY ⊢
  have ovB : Hid (∀ j, x.vs.ownBlock = some j → w0.heap.size ≤ j ∧ j < w.heap.size) := Lib.hid (fun j hj => ⟨HT.out.grA j hj, (HT.out.gr.lt j hj).2⟩)
  have KW : Hid (Chg (fun j => j = x.tb ∨ j = x.m1 ∨ x.vs.ownBlock = some j) w Z) := Lib.hid ((Chg.of BX.out).on KZ.out)
  have AZ : Hid (Blk Z b4 43 A) := Lib.hid (A3.out.chg KZ.out (fun e => by rcases e with e | e | e; omega; omega; have := ovB.out _ e; omega))
  have RZ : Hid (∃ Z', Blk Z (b4 + 1) 102 Z' ∧ Z'.size = 13) := Lib.hid (by obtain ⟨Z', h1, h2⟩ := R3.out; exact ⟨Z', h1.chg KZ.out (fun e => by rcases e with e | e | e; omega; omega; have := ovB.out _ e; omega), h2⟩)
  have CZ : Hid (ClAt Z p c) := Lib.hid (H.out.cl.chg KW.out (fun e => by rcases e with e | e | e; omega; omega; have := ovB.out _ e; omega))
  have K0Z : Hid (Chg (fun j => j = p ∨ j = gb) w0 Z) := Lib.hid (H0.out.2.trans KW.out (fun j hj e => by rcases e with e | e | e; omega; omega; have := ovB.out _ e; omega))
  have hkg : k < g := by omega
  obtain ⟨nd, hx⟩ : ∃ nd, gs[k]? = some nd := ⟨_, List.getElem?_eq_getElem (by rw [H.out.lenG]; exact hkg)⟩
  have gbne : ¬ (gb = x.tb ∨ gb = x.m1 ∨ x.vs.ownBlock = some gb) := fun e => by rcases e with e | e | e; omega; omega; have := ovB.out _ e; omega
  have TB : Hid (Blk Z x.tb 110 #[.int .i64 t.n, .int .i64 t.c, .int .i64 hm, vs, .map (some x.m1), .map (some x.m2), .map (some x.m3), .map (some x.m4)]) := Lib.hid (by
    have := TZ.out.blk
    rw [E5.out.1, E5.out.2] at this
    exact this)
  have RQ : Hid (Calls Try.prog 54 #[.pointer (some ⟨p, 0, none⟩), .int .i64 (k : Int), .agg (lockM hm mode a.key), .agg a.cs] Z.drew fun e w' => ∃ b, e = .returned (.slice (some ⟨b, 0, none⟩) 1 1) ∧ Z.heap.size ≤ b ∧ Blk w' b 55 (aimedM (reqM (lockM hm mode a.key) (c.seq + 1) t.n t.c c.num) k nd) ∧
      ClAt w' p { c with seq := c.seq + 1, waits := true, hinted := false, grp := k, M := reqM (lockM hm mode a.key) (c.seq + 1) t.n t.c c.num, act := a } ∧ Chg (fun b => b = p) Z w') := Lib.hid (by
    have h := request_any p c x.tb _ t.n t.c gb 0 g gc k nd (lockM hm mode a.key) a Z.drew ⟨CZ.out.blk.drew, CZ.out.msg⟩ HTT.out TB.out.drew rfl rfl H.out.vg hkg H.out.pg (by rw [Nat.zero_add]; exact KW.out.cell (H.out.node hx) gbne) (lockM_ok _ _ _) rfl rfl hs
    exact h.mono (fun e w' ⟨b, r1, r2, r3, r4, r5⟩ => ⟨b, r1, r2, r3, r4, ((Chg.refl _ Z).drew).on r5⟩))
  have hbp : p < b4 := by omega
  have hbt : x.tb < b4 := by omega
  have FS : Hid (∀ v, Chg (fun j => j = p ∨ j = b4 + 1) Z v → v.cell? ⟨x.tb, 2, none⟩ = some (.int .i64 hm) ∧ v.cell? ⟨b4, 4, none⟩ = some (.string a.key) ∧ HasN 11 v b4 0 ∧ valN 11 v b4 0 = #[.int .i64 a.who, .int .i64 a.call, .int .i64 a.n, .int .i64 a.c, .string a.key, .string a.value, .bool a.found, .int .i64 a.code, .int .i64 a.stamp, .int .i64 a.from_, .int .i64 a.to]) := Lib.hid (fun v hv => by
    have g1 := AZ.out.chg hv (by omega)
    have g2 := TB.out.chg hv (by omega)
    have g3 := blkN_has g1 AC.out.1
    have g4 : v.cell? ⟨b4, 4, none⟩ = some (.string a.key) := by rw [g1.cell, EA.out, ActV.cs_eq]; rfl
    exact ⟨g2.cell 2, g4, g3.1, by rw [g3.2, EA.out, ActV.cs_eq]⟩)
  have S0 := Lib.hid (FS.out Z (Chg.refl _ _))
  have S0d := Lib.hid (FS.out Z.drew ((Chg.refl _ _).drew))
  go_upto_region 11 with (fail)
  go_region_held3 (fun v => v.cell? ⟨x.tb, 2, none⟩ = some (.int .i64 hm) ∧ v.cell? ⟨b4, 4, none⟩ = some (.string a.key) ∧ HasN 11 v b4 0 ∧ valN 11 v b4 0 = #[.int .i64 a.who, .int .i64 a.call, .int .i64 a.n, .int .i64 a.c, .string a.key, .string a.value, .bool a.found, .int .i64 a.code, .int .i64 a.stamp, .int .i64 a.from_, .int .i64 a.to]) (first | with_reducible exact S0.out | with_reducible exact S0d.out | with_reducible exact S1.out | with_reducible exact S2.out _) (first
    | (go_at_call 54; refine RQ.out.mono ?_; rintro e w12 ⟨b, rfl, hb1, hb2, hb3, hb4⟩
       have B12 := Lib.hid (And.intro hb1 (And.intro hb2 (And.intro hb3 hb4)))
       have S1 := Lib.hid (FS.out w12 (hb4.more (fun _ _ e => .inl e)))
       have S2 := Lib.hid (fun C : Array Value => FS.out (putN w12 (b4 + 1) 0 C) (putN_chg (hb4.more (fun _ _ e => .inl e)) (.inr (.inr rfl)) 0 C))
       have R12 : Hid (∃ Z', Blk w12 (b4 + 1) 102 Z' ∧ Z'.size = 13) := Lib.hid (Exists.elim RZ.out (fun Z' h => ⟨Z', h.1.chg hb4 (Nat.ne_of_gt (Nat.lt_succ_of_lt hbp)), h.2⟩))
       have rm : RoomN 13 w12 (b4 + 1) 0 := Exists.elim R12.out (fun Z' h => blkN_room h.1 h.2)
       have cw : CellsN 13 (#[.slice (some ⟨b, 0, none⟩) 1 1, .int .i64 a.who, .int .i64 a.call, .int .i64 a.n, .int .i64 a.c, .string a.key, .string a.value, .bool a.found, .int .i64 a.code, .int .i64 a.stamp, .int .i64 a.from_, .int .i64 a.to, .bool false]) := ⟨rfl, (by simp [Value.oneCell'])⟩
       clear hb1 hb2 hb3 hb4))
  have CS : Hid ((#[.slice (some ⟨b, 0, none⟩) 1 1, .int .i64 a.who, .int .i64 a.call, .int .i64 a.n, .int .i64 a.c, .string a.key, .string a.value, .bool a.found, .int .i64 a.code, .int .i64 a.stamp, .int .i64 a.from_, .int .i64 a.to, .bool false] : Array Value).size = 13) := Lib.hid rfl
  have CV : Hid (callV (.slice (some ⟨b, 0, none⟩) 1 1) a false = .agg #[.slice (some ⟨b, 0, none⟩) 1 1, .int .i64 a.who, .int .i64 a.call, .int .i64 a.n, .int .i64 a.c, .string a.key, .string a.value, .bool a.found, .int .i64 a.code, .int .i64 a.stamp, .int .i64 a.from_, .int .i64 a.to, .bool false]) := Lib.hid (by simp [callV, ActV.cs])
  clear S0 S0d S1 S2 FS rm cw RQ
  generalize (#[.slice (some ⟨b, 0, none⟩) 1 1, .int .i64 a.who, .int .i64 a.call, .int .i64 a.n, .int .i64 a.c, .string a.key, .string a.value, .bool a.found, .int .i64 a.code, .int .i64 a.stamp, .int .i64 a.from_, .int .i64 a.to, .bool false] : Array Value) = C at CS CV ⊢
  obtain ⟨q1, q2, q3, q4⟩ := B12.out
  have lb : b4 + 1 < Z.heap.size := by obtain ⟨Z', h1, _⟩ := RZ.out; exact h1.lt
  have K1 : Hid (Chg (fun j => j = p ∨ j = x.tb ∨ j = x.m1 ∨ x.vs.ownBlock = some j) w w12) := Lib.hid ((KW.out.more (fun _ _ e => .inr e)).on (q4.more (fun _ _ e => .inl e)))
  have KF : Hid (Chg (fun j => j = p ∨ j = x.tb ∨ j = x.m1 ∨ x.vs.ownBlock = some j) w (putN w12 (b4 + 1) 0 C)) := Lib.hid (putN_chg K1.out (.inl (by omega)) 0 C)
  have RF : Hid (Blk (putN w12 (b4 + 1) 0 C) (b4 + 1) 102 C) := Lib.hid (by obtain ⟨Z', h1, h2⟩ := R12.out; exact putN_fill h1 (h2.trans CS.out.symm))
  have CF : Hid (ClAt (putN w12 (b4 + 1) 0 C) p { c with seq := c.seq + 1, waits := true, hinted := false, grp := k, M := reqM (lockM hm mode a.key) (c.seq + 1) t.n t.c c.num, act := a }) := Lib.hid ⟨putN_far q3.blk (by omega), q3.msg⟩
  have BF : Hid (Blk (putN w12 (b4 + 1) 0 C) b 55 (aimedM (reqM (lockM hm mode a.key) (c.seq + 1) t.n t.c c.num) k nd)) := Lib.hid (putN_far q2 (by omega))
  have KZF : Hid (Chg (fun j => j = p ∨ j = b4 + 1) Z (putN w12 (b4 + 1) 0 C)) := Lib.hid (putN_chg (q4.more (fun _ _ e => .inl e)) (.inr (.inr rfl)) 0 C)
  have sY : w8.heap.size ≤ Z.heap.size := ZY.out.size
  have sX : b4 + 1 < w8.heap.size := by
    have h1 := K6.out.size
    obtain ⟨Z', h2, _⟩ := R3.out
    have := h2.lt
    omega
  have nvs : Hid (∀ j, vs.ownBlock = some j → x.vs.ownBlock = some j ∨ w8.heap.size ≤ j) := Lib.hid (fun j hj => by
    have := GZ.out.2.2 j hj
    rw [Q5.out.2.2.1] at this
    exact this)
  have TF : Hid (TxAt (fun b => w0.heap.size ≤ b) (putN w12 (b4 + 1) 0 C) { x with vs := vs, N := x.N + 1 } { t with home := hm, gr := gr, ks := ins t.ks a.key }) := Lib.hid (by
    have h1 := TZ.out
    rw [E5.out.1, E5.out.2] at h1
    refine (h1.exact.chg KZF.out (fun j _ hj e => ?_)).more (fun j hj => hj.1)
    obtain ⟨hj0, hj⟩ := hj
    simp only at hj
    have u2 := HT.out.k2.lt
    have u3 := HT.out.k3.lt
    have u4 := HT.out.k4.lt
    rcases hj with rfl | rfl | rfl | rfl | rfl | hj
    · omega
    · omega
    · omega
    · omega
    · omega
    · rcases nvs.out j hj with h2 | h2
      · have := ovB.out j h2
        omega
      · omega)
  have K0F : Hid (Chg (fun j => j = p ∨ j = gb) w0 (putN w12 (b4 + 1) 0 C)) := Lib.hid (H0.out.2.trans KF.out (fun j hj e => by rcases e with e | e | e | e; exact .inl e; omega; omega; have := ovB.out _ e; omega))
  have HF : Hid (CliAt lo (putN w12 (b4 + 1) 0 C) p { c with seq := c.seq + 1, waits := true, hinted := false, grp := k, M := reqM (lockM hm mode a.key) (c.seq + 1) t.n t.c c.num, act := a } ob oc gb gc g q L gs sp) := Lib.hid (by
    refine H0.out.1.to K0F.out CF.out HE.out.1 HE.out.2.1 HE.out.2.2 H.out.lenG ?_
    obtain ⟨cur, r1, r2⟩ := H.out.guess
    have pg := H.out.pg
    exact ⟨cur, r1.chg KF.out (fun e => by rcases e with e | e | e | e; exact pg e.symm; omega; omega; have := ovB.out _ e; omega), r2⟩)
  have hbl : w.heap.size ≤ b := by have := KW.out.size; omega
  have hl := load_call CS.out RF.out.range
  clear KZF K0F CF RF
  generalize putN w12 (b4 + 1) 0 C = WF at hl HF TF BF KF ⊢
  go_wp2_with fail
  refine bodyPost_ret (v := .tuple #[.agg C, .int .i64 0]) (by simp [results, Try.results45, asAddr, hl]) rfl ⟨b, k, nd, vs, gr, hm, by rw [CV.out], ⟨hkg, hx, hbl, HM.out, BF.out, HF.out, TF.out, GZ.out.1, fun y => ?_, fun j hj => ?_, KF.out⟩⟩
  · have := GZ.out.2.1 y
    rw [show ({ t5 with home := hm } : TxS).gr = t.gr from Q5.out.2.2.2.1] at this
    exact this
  · rcases nvs.out j hj with h1 | h1
    · exact .inl h1
    · exact .inr (by omega)
end Go.Proofs.Ytpaihfdmjkfegaa.Cl

/- Call at a read, a write, a deletion, at any transaction: what it hands back, all ways. -/
namespace Go.Proofs.Ytpaihfdmjkfegaa.Cl
open Go.RowKit Go.Lib Go.Maps Go.Proofs.Ytpaihfdmjkfegaa.MapF Go.Proofs.Ytpaihfdmjkfegaa.Msg Go.Proofs.Ytpaihfdmjkfegaa.Ck

/-- What a write lays. -/
def wv (kd : Int) (val : ByteArray) : ByteArray := if kd = 3 then val else ⟨#[]⟩
/-- A call is answered at once. -/
def DoneR (kd : Int) (key val : ByteArray) (t t' : TxS) (ac : ActV) : Prop :=
  (kd = 2 ∧ t' = t ∧ ((∃ y, t.la key = some y ∧ ac.found = !y.2.2 ∧ ac.value = y.2.1) ∨ (t.la key = none ∧ ∃ y, t.rd key = some y ∧ ac.found = y.1 ∧ ac.value = y.2.1))) ∨
  (kd ≠ 2 ∧ ac.value = wv kd val ∧ t' = layT t key (wv kd val) (kd == 4))
/-- An act that asks. -/
def AskR (kd : Int) (key val : ByteArray) (t : TxS) (ac : ActV) : Prop := ac.call = kd ∧ ac.key = key ∧ ac.value = wv kd val ∧ (kd = 2 → t.la key = none ∧ t.rd key = none)

/-- What a call hands back. -/
inductive CallR (lo p : Nat) (c : Client) (ob oc gb gc g q : Nat) (L : List Ent) (gs : List Nat) (sp : List ByteArray) (w0 : World) (x : TxB) (t : TxS) (kd : Int) (key val : ByteArray) (w : World) : Option Addr → Nat → Nat → ActV → Bool → Int → World → Prop
  | err {er : Int} {w' : World} (her : er = 120 ∨ er = 9 ∨ er = 230) (hb : Below w.heap.size w w') : CallR lo p c ob oc gb gc g q L gs sp w0 x t kd key val w none 0 0 zeroAct false er w'
  | done {ac : ActV} {w' : World} (t' : TxS) (n : Nat) (ok : okS key) (hd : DoneR kd key val t t' ac) (hn : n ≤ x.N + 1) (ht : TxAt (fun b => w0.heap.size ≤ b) w' { x with N := n } t') (hc : Chg (fun b => b = x.m2 ∨ b = x.m4) w w') : CallR lo p c ob oc gb gc g q L gs sp w0 x t kd key val w none 0 0 ac true 0 w'
  | ask {ac : ActV} {w' : World} {b : Nat} (k nd : Nat) (vs : Value) (gr : List Int) (hm mode : Int) (ok : okS key) (ha : AskR kd key val t ac) (hl : LockG lo p c ob oc gb gc g q L gs sp w0 x t ac mode w w' b k nd vs gr hm) : CallR lo p c ob oc gb gc g q L gs sp w0 x t kd key val w (some ⟨b, 0, none⟩) 1 1 ac false 0 w'

section
variable (lo p : Nat) (c : Client) (ob oc gb gc g q : Nat) (L : List Ent) (gs : List Nat) (sp : List ByteArray) (w0 : World) (x : TxB) (t : TxS) (key val : ByteArray) (w : World)

theorem mineB (A0 : Nat → Prop) (hT : TxAt A0 w x t) (hk : okS key) (bb : Bool) (hb : bb = true ↔ key ∈ t.mi) : ∀ v, Below w.heap.size w v → (Instr.lookup 107 (.map (some x.m2)) (.string key) false).run Try.prog v = .ok (.bool bb) v := fun v hv => by
  have h := ((hT.keep hv).k2).look Try.underlying107 (z0 := false) (zero4 v) key hk
  refine h.trans ?_
  unfold setF
  by_cases hm : key ∈ t.mi
  · rw [if_pos hm, hb.2 hm]; rfl
  · rw [if_neg hm, show bb = false from Bool.eq_false_iff.2 (fun e => hm (hb.1 e))]; rfl

/-- A call whose does asks. -/
theorem ask_of (kd : Int) (hp : p < w.heap.size) (hT : TxAt (fun b => w0.heap.size ≤ b) w x t) (a : ActV) (mode : Int)
    (c0 : Client) (gs0 : List Nat) (h0 : CliAt lo w0 p c0 ob oc gb gc g q L gs0 sp) (K0 : Chg (fun b => b = p ∨ b = gb) w0 w) (he : c.vo = c0.vo ∧ c.vg = c0.vg ∧ c.D = c0.D)
    (hd : ∀ W, Below w.heap.size w W → Calls Try.prog 27 #[.pointer (some ⟨p, 0, none⟩), .int .i64 kd, .string key, .string val] W fun e w' => ∃ A m cap a' d er, e = .returned (.tuple #[callV (.slice A m cap) a' d, .int .i64 er]) ∧ er = 0 ∧ d = false ∧ a' = a ∧ m = 1 ∧ cap = 1 ∧ ∃ b k nd vs gr hm, A = some ⟨b, 0, none⟩ ∧ LockG lo p c ob oc gb gc g q L gs sp w0 x t a mode W w' b k nd vs gr hm) :
    Calls Try.prog 14 #[.pointer (some ⟨p, 0, none⟩), .int .i64 kd, .string key, .string val] w fun e w' => ∃ b k nd vs gr hm, e = .returned (.tuple #[.slice (some ⟨b, 0, none⟩) 1 1, .agg a.cs, .bool false, .int .i64 0]) ∧ LockG lo p c ob oc gb gc g q L gs sp w0 x t a mode w w' b k nd vs gr hm := by
  have t1 := hT.blk.lt
  have t2 := hT.k1.lt
  have hv : ∀ j, x.vs.ownBlock = some j → j < w.heap.size := fun j hj => (hT.gr.lt j hj).2
  have hh := call_ok p kd key val w (fun W w' A m cap a' d => d = false ∧ a' = a ∧ m = 1 ∧ cap = 1 ∧ ∃ b k nd vs gr hm, A = some ⟨b, 0, none⟩ ∧ LockG lo p c ob oc gb gc g q L gs sp w0 x t a mode W w' b k nd vs gr hm)
    (fun W hW => (hd W hW).mono (fun e w' ⟨A, m, cap, a', d, er, he', r0, r1, r2, r3, r4, b, k, nd, vs, gr, hm, r5, hL⟩ => by
      subst r0
      exact ⟨A, m, cap, a', d, he', ⟨r1, r2, r3, r4, b, k, nd, vs, gr, hm, r5, hL⟩, _, hL.chg, fun e => by rcases e with e | e | e | e; omega; omega; omega; have := hv _ e; omega⟩))
    (fun W w' w'' A m cap a' d hW hlt hR hc => by
      obtain ⟨r1, r2, r3, r4, b, k, nd, vs, gr, hm, r5, hL⟩ := hR
      exact ⟨r1, r2, r3, r4, b, k, nd, vs, gr, hm, r5, hL.up hW hT hp h0 K0 he ⟨Nat.le_refl _, hlt⟩ hc⟩)
  exact hh.mono (fun e w' ⟨A, m, cap, a', d, he', r1, r2, r3, r4, b, k, nd, vs, gr, hm, r5, hL⟩ => by
    subst r1 r2 r3 r4 r5
    exact ⟨b, k, nd, vs, gr, hm, he', hL⟩)

/-- What a does that asks says. -/
abbrev AskW (a : ActV) (mode : Int) (W w' : World) (A : Option Addr) (m cap : Nat) (a' : ActV) (d : Bool) (er : Int) : Prop :=
  er = 0 ∧ d = false ∧ a' = a ∧ m = 1 ∧ cap = 1 ∧ ∃ b k nd vs gr hm, A = some ⟨b, 0, none⟩ ∧ LockG lo p c ob oc gb gc g q L gs sp w0 x t a mode W w' b k nd vs gr hm
abbrev ManyW (W w' : World) (A : Option Addr) (m cap : Nat) (a' : ActV) (d : Bool) (er : Int) : Prop := A = none ∧ m = 0 ∧ cap = 0 ∧ a' = zeroAct ∧ d = false ∧ er = 230 ∧ Below W.heap.size W w'

theorem call_ask_w (h : CliAt lo w p c ob oc gb gc g q L gs sp) (hsp : sp.length + 1 = g) (hg8 : g ≤ 8) (ht : c.vt = .pointer (some ⟨x.tb, 0, none⟩)) (hw : c.waits = false) (hT : TxAt (fun b => w0.heap.size ≤ b) w x t) (hN : x.N + 1 < maxLen) (hgl : t.gr.length ≤ 100) (hgs : t.gr.Pairwise (· < ·)) (hk : keyB key = true) (hs : 0 ≤ c.seq ∧ c.seq < 1000000) (c0 : Client) (gs0 : List Nat) (h0 : CliAt lo w0 p c0 ob oc gb gc g q L gs0 sp) (K0 : Chg (fun b => b = p ∨ b = gb) w0 w) (he : c.vo = c0.vo ∧ c.vg = c0.vg ∧ c.D = c0.D) (hv : val.size ≤ 200) (hm : key ∉ t.mi) (hkn : key ∈ t.ks ∨ t.ks.length < 16) :
    Calls Try.prog 14 #[.pointer (some ⟨p, 0, none⟩), .int .i64 3, .string key, .string val] w fun e w' => ∃ b k nd vs gr hm, e = .returned (.tuple #[.slice (some ⟨b, 0, none⟩) 1 1, .agg (actW c.num 3 t.n t.c key val).cs, .bool false, .int .i64 0]) ∧ LockG lo p c ob oc gb gc g q L gs sp w0 x t (actW c.num 3 t.n t.c key val) 2 w w' b k nd vs gr hm := by
  have hp := h.cl.blk.lt
  have t1 := hT.blk.lt
  have t2 := hT.k1.lt
  have hvb : ∀ j, x.vs.ownBlock = some j → j < w.heap.size := fun j hj => (hT.gr.lt j hj).2
  refine ask_of lo p c ob oc gb gc g q L gs sp w0 x t key val w 3 hp hT _ 2 c0 gs0 h0 K0 he (fun W hW => ?_)
  refine (does_write lo p c ob oc gb gc g q L gs sp W (h.keep hW) x.tb _ t.n t.c key val ht hw (hT.keep hW).blk rfl rfl x.m2 rfl hk hv (fun V hV => mineB x t key w _ hT (okS_key hk) false ⟨fun e => (nomatch e), fun e => absurd e hm⟩ V (hW.trans (hV.mono hW.size))) (AskW lo p c ob oc gb gc g q L gs sp w0 x t (actW c.num 3 t.n t.c key val) 2) (fun V hV => ?_) (fun V w' w'' A m cap a d er hV hlt hR hc => ?_)).mono (fun e w' r => r)
  · have hB := hW.trans (hV.mono hW.size)
    refine (lock_gen lo p c ob oc gb gc g q L gs sp w0 x t (actW c.num 3 t.n t.c key val) 2 V (h.keep hB) hsp hg8 ht (hT.keep hB) hN hgl hgs hkn hk hs c0 gs0 h0 (K0.then hB) he).mono ?_
    rintro e w' ⟨b, k, nd, vs, gr, hm, he', hL⟩
    exact ⟨some ⟨b, 0, none⟩, 1, 1, _, false, 0, he', ⟨rfl, rfl, rfl, rfl, rfl, b, k, nd, vs, gr, hm, rfl, hL⟩, _, hL.chg, fun e => by have := hW.size; rcases e with e | e | e | e; omega; omega; omega; have := hvb _ e; omega⟩
  · obtain ⟨r0, r1, r2, r3, r4, b, k, nd, vs, gr, hm, r5, hL⟩ := hR
    exact ⟨r0, r1, r2, r3, r4, b, k, nd, vs, gr, hm, r5, hL.up hV (hT.keep hW) (Nat.lt_of_lt_of_le hp hW.size) h0 (K0.then hW) he ⟨Nat.le_refl _, hlt⟩ hc⟩
theorem call_ask_d (h : CliAt lo w p c ob oc gb gc g q L gs sp) (hsp : sp.length + 1 = g) (hg8 : g ≤ 8) (ht : c.vt = .pointer (some ⟨x.tb, 0, none⟩)) (hw : c.waits = false) (hT : TxAt (fun b => w0.heap.size ≤ b) w x t) (hN : x.N + 1 < maxLen) (hgl : t.gr.length ≤ 100) (hgs : t.gr.Pairwise (· < ·)) (hk : keyB key = true) (hs : 0 ≤ c.seq ∧ c.seq < 1000000) (c0 : Client) (gs0 : List Nat) (h0 : CliAt lo w0 p c0 ob oc gb gc g q L gs0 sp) (K0 : Chg (fun b => b = p ∨ b = gb) w0 w) (he : c.vo = c0.vo ∧ c.vg = c0.vg ∧ c.D = c0.D) (hm : key ∉ t.mi) (hkn : key ∈ t.ks ∨ t.ks.length < 16) :
    Calls Try.prog 14 #[.pointer (some ⟨p, 0, none⟩), .int .i64 4, .string key, .string val] w fun e w' => ∃ b k nd vs gr hm, e = .returned (.tuple #[.slice (some ⟨b, 0, none⟩) 1 1, .agg (actW c.num 4 t.n t.c key ⟨#[]⟩).cs, .bool false, .int .i64 0]) ∧ LockG lo p c ob oc gb gc g q L gs sp w0 x t (actW c.num 4 t.n t.c key ⟨#[]⟩) 2 w w' b k nd vs gr hm := by
  have hp := h.cl.blk.lt
  have t1 := hT.blk.lt
  have t2 := hT.k1.lt
  have hvb : ∀ j, x.vs.ownBlock = some j → j < w.heap.size := fun j hj => (hT.gr.lt j hj).2
  refine ask_of lo p c ob oc gb gc g q L gs sp w0 x t key val w 4 hp hT _ 2 c0 gs0 h0 K0 he (fun W hW => ?_)
  refine (does_del lo p c ob oc gb gc g q L gs sp W (h.keep hW) x.tb _ t.n t.c key val ht hw (hT.keep hW).blk rfl rfl x.m2 rfl hk (fun V hV => mineB x t key w _ hT (okS_key hk) false ⟨fun e => (nomatch e), fun e => absurd e hm⟩ V (hW.trans (hV.mono hW.size))) (AskW lo p c ob oc gb gc g q L gs sp w0 x t (actW c.num 4 t.n t.c key ⟨#[]⟩) 2) (fun V hV => ?_) (fun V w' w'' A m cap a d er hV hlt hR hc => ?_)).mono (fun e w' r => r)
  · have hB := hW.trans (hV.mono hW.size)
    refine (lock_gen lo p c ob oc gb gc g q L gs sp w0 x t (actW c.num 4 t.n t.c key ⟨#[]⟩) 2 V (h.keep hB) hsp hg8 ht (hT.keep hB) hN hgl hgs hkn hk hs c0 gs0 h0 (K0.then hB) he).mono ?_
    rintro e w' ⟨b, k, nd, vs, gr, hm, he', hL⟩
    exact ⟨some ⟨b, 0, none⟩, 1, 1, _, false, 0, he', ⟨rfl, rfl, rfl, rfl, rfl, b, k, nd, vs, gr, hm, rfl, hL⟩, _, hL.chg, fun e => by have := hW.size; rcases e with e | e | e | e; omega; omega; omega; have := hvb _ e; omega⟩
  · obtain ⟨r0, r1, r2, r3, r4, b, k, nd, vs, gr, hm, r5, hL⟩ := hR
    exact ⟨r0, r1, r2, r3, r4, b, k, nd, vs, gr, hm, r5, hL.up hV (hT.keep hW) (Nat.lt_of_lt_of_le hp hW.size) h0 (K0.then hW) he ⟨Nat.le_refl _, hlt⟩ hc⟩
theorem call_ask_r (h : CliAt lo w p c ob oc gb gc g q L gs sp) (hsp : sp.length + 1 = g) (hg8 : g ≤ 8) (ht : c.vt = .pointer (some ⟨x.tb, 0, none⟩)) (hw : c.waits = false) (hT : TxAt (fun b => w0.heap.size ≤ b) w x t) (hN : x.N + 1 < maxLen) (hgl : t.gr.length ≤ 100) (hgs : t.gr.Pairwise (· < ·)) (hk : keyB key = true) (hs : 0 ≤ c.seq ∧ c.seq < 1000000) (c0 : Client) (gs0 : List Nat) (h0 : CliAt lo w0 p c0 ob oc gb gc g q L gs0 sp) (K0 : Chg (fun b => b = p ∨ b = gb) w0 w) (he : c.vo = c0.vo ∧ c.vg = c0.vg ∧ c.D = c0.D) (hla : t.la key = none) (hrd : t.rd key = none) (hkn : key ∈ t.ks ∨ t.ks.length < 16) :
    Calls Try.prog 14 #[.pointer (some ⟨p, 0, none⟩), .int .i64 2, .string key, .string val] w fun e w' => ∃ b k nd vs gr hm, e = .returned (.tuple #[.slice (some ⟨b, 0, none⟩) 1 1, .agg (actOf c.num 2 t.n t.c key).cs, .bool false, .int .i64 0]) ∧ LockG lo p c ob oc gb gc g q L gs sp w0 x t (actOf c.num 2 t.n t.c key) 1 w w' b k nd vs gr hm := by
  have hp := h.cl.blk.lt
  have t1 := hT.blk.lt
  have t2 := hT.k1.lt
  have hvb : ∀ j, x.vs.ownBlock = some j → j < w.heap.size := fun j hj => (hT.gr.lt j hj).2
  refine ask_of lo p c ob oc gb gc g q L gs sp w0 x t key val w 2 hp hT _ 1 c0 gs0 h0 K0 he (fun W hW => ?_)
  refine (does_ask lo p c ob oc gb gc g q L gs sp W (h.keep hW) x.tb _ t.n t.c key val ht hw (hT.keep hW).blk rfl rfl hk (AskW lo p c ob oc gb gc g q L gs sp w0 x t (actOf c.num 2 t.n t.c key) 1) (fun V hV => ?_) (fun V w' w'' A m cap a d er hV hlt hR hc => ?_)).mono (fun e w' r => r)
  · have hB := hW.trans (hV.mono hW.size)
    have hr := read_ask p c _ x t (actOf c.num 2 t.n t.c key) V (h.keep hB).cl ht (hT.keep hB) (okS_key hk) hla hrd (AskW lo p c ob oc gb gc g q L gs sp w0 x t (actOf c.num 2 t.n t.c key) 1)
      (fun U hU => (lock_gen lo p c ob oc gb gc g q L gs sp w0 x t (actOf c.num 2 t.n t.c key) 1 U ((h.keep hB).keep hU) hsp hg8 ht ((hT.keep hB).keep hU) hN hgl hgs hkn hk hs c0 gs0 h0 ((K0.then hB).then hU) he).mono (by
        rintro e w' ⟨b, k, nd, vs, gr, hm, he', hL⟩
        exact ⟨some ⟨b, 0, none⟩, 1, 1, _, false, 0, he', ⟨rfl, rfl, rfl, rfl, rfl, b, k, nd, vs, gr, hm, rfl, hL⟩, _, hL.chg, fun j hj hj2 e => by have := hB.size; rcases e with e | e | e | e; omega; omega; omega; have := hvb _ e; omega⟩))
      (fun U w' w'' A m cap a d er g0 hU hg1 hg2 hR hc => by
        obtain ⟨r0, r1, r2, r3, r4, b, k, nd, vs, gr, hm, r5, hL⟩ := hR
        exact ⟨r0, r1, r2, r3, r4, b, k, nd, vs, gr, hm, r5, hL.up hU (hT.keep hB) (Nat.lt_of_lt_of_le hp hB.size) h0 (K0.then hB) he ⟨hg1, hg2⟩ hc⟩)
    refine hr.mono ?_
    rintro e w' ⟨A, m, cap, a', d, er, he', r0, r1, r2, r3, r4, b, k, nd, vs, gr, hm, r5, hL⟩
    exact ⟨A, m, cap, a', d, er, he', ⟨r0, r1, r2, r3, r4, b, k, nd, vs, gr, hm, r5, hL⟩, _, hL.chg, fun e => by have := hW.size; rcases e with e | e | e | e; omega; omega; omega; have := hvb _ e; omega⟩
  · obtain ⟨r0, r1, r2, r3, r4, b, k, nd, vs, gr, hm, r5, hL⟩ := hR
    exact ⟨r0, r1, r2, r3, r4, b, k, nd, vs, gr, hm, r5, hL.up hV (hT.keep hW) (Nat.lt_of_lt_of_le hp hW.size) h0 (K0.then hW) he ⟨Nat.le_refl _, hlt⟩ hc⟩

theorem call_many_w (h : CliAt lo w p c ob oc gb gc g q L gs sp) (ht : c.vt = .pointer (some ⟨x.tb, 0, none⟩)) (hw : c.waits = false) (hT : TxAt (fun b => w0.heap.size ≤ b) w x t) (hk : keyB key = true) (hv : val.size ≤ 200) (hm : key ∉ t.mi) (hkn : key ∉ t.ks) (h16 : 16 ≤ t.ks.length) :
    Calls Try.prog 14 #[.pointer (some ⟨p, 0, none⟩), .int .i64 3, .string key, .string val] w fun e w' => e = .returned (.tuple #[.slice none 0 0, .agg zeroAct.cs, .bool false, .int .i64 230]) ∧ Below w.heap.size w w' := by
  refine call_err p 3 key val 230 w (by decide) (fun W hW => ?_)
  refine (does_write lo p c ob oc gb gc g q L gs sp W (h.keep hW) x.tb _ t.n t.c key val ht hw (hT.keep hW).blk rfl rfl x.m2 rfl hk hv (fun V hV => mineB x t key w _ hT (okS_key hk) false ⟨fun e => (nomatch e), fun e => absurd e hm⟩ V (hW.trans (hV.mono hW.size))) ManyW (fun V hV => ?_) (fun V w' w'' A m cap a d er hV hlt hR hc => ?_)).mono ?_
  · have hB := hW.trans (hV.mono hW.size)
    refine (lock_many p c _ x t (actW c.num 3 t.n t.c key val) 2 V (h.keep hB).cl ht (hT.keep hB) (okS_key hk) hkn h16).mono ?_
    rintro e w' ⟨rfl, hb⟩
    exact ⟨none, 0, 0, zeroAct, false, 230, rfl, ⟨rfl, rfl, rfl, rfl, rfl, rfl, hb⟩, fun _ => False, Chg.of hb, id⟩
  · obtain ⟨r0, r1, r2, r3, r4, r5, hb⟩ := hR
    exact ⟨r0, r1, r2, r3, r4, r5, ((Chg.of (S := fun j => W.heap.size ≤ j) (hV.trans (hb.mono hV.size))).trans hc (fun j hj e => by omega)).below (Nat.le_refl _) (fun j hj => hj)⟩
  · rintro e w' ⟨A, m, cap, a, d, er, rfl, r0, r1, r2, r3, r4, r5, hb⟩
    subst r0 r1 r2 r3 r4 r5
    exact ⟨rfl, hb⟩
theorem call_many_d (h : CliAt lo w p c ob oc gb gc g q L gs sp) (ht : c.vt = .pointer (some ⟨x.tb, 0, none⟩)) (hw : c.waits = false) (hT : TxAt (fun b => w0.heap.size ≤ b) w x t) (hk : keyB key = true) (hm : key ∉ t.mi) (hkn : key ∉ t.ks) (h16 : 16 ≤ t.ks.length) :
    Calls Try.prog 14 #[.pointer (some ⟨p, 0, none⟩), .int .i64 4, .string key, .string val] w fun e w' => e = .returned (.tuple #[.slice none 0 0, .agg zeroAct.cs, .bool false, .int .i64 230]) ∧ Below w.heap.size w w' := by
  refine call_err p 4 key val 230 w (by decide) (fun W hW => ?_)
  refine (does_del lo p c ob oc gb gc g q L gs sp W (h.keep hW) x.tb _ t.n t.c key val ht hw (hT.keep hW).blk rfl rfl x.m2 rfl hk (fun V hV => mineB x t key w _ hT (okS_key hk) false ⟨fun e => (nomatch e), fun e => absurd e hm⟩ V (hW.trans (hV.mono hW.size))) ManyW (fun V hV => ?_) (fun V w' w'' A m cap a d er hV hlt hR hc => ?_)).mono ?_
  · have hB := hW.trans (hV.mono hW.size)
    refine (lock_many p c _ x t (actW c.num 4 t.n t.c key ⟨#[]⟩) 2 V (h.keep hB).cl ht (hT.keep hB) (okS_key hk) hkn h16).mono ?_
    rintro e w' ⟨rfl, hb⟩
    exact ⟨none, 0, 0, zeroAct, false, 230, rfl, ⟨rfl, rfl, rfl, rfl, rfl, rfl, hb⟩, fun _ => False, Chg.of hb, id⟩
  · obtain ⟨r0, r1, r2, r3, r4, r5, hb⟩ := hR
    exact ⟨r0, r1, r2, r3, r4, r5, ((Chg.of (S := fun j => W.heap.size ≤ j) (hV.trans (hb.mono hV.size))).trans hc (fun j hj e => by omega)).below (Nat.le_refl _) (fun j hj => hj)⟩
  · rintro e w' ⟨A, m, cap, a, d, er, rfl, r0, r1, r2, r3, r4, r5, hb⟩
    subst r0 r1 r2 r3 r4 r5
    exact ⟨rfl, hb⟩
theorem call_many_r (h : CliAt lo w p c ob oc gb gc g q L gs sp) (ht : c.vt = .pointer (some ⟨x.tb, 0, none⟩)) (hw : c.waits = false) (hT : TxAt (fun b => w0.heap.size ≤ b) w x t) (hk : keyB key = true) (hla : t.la key = none) (hrd : t.rd key = none) (hkn : key ∉ t.ks) (h16 : 16 ≤ t.ks.length) :
    Calls Try.prog 14 #[.pointer (some ⟨p, 0, none⟩), .int .i64 2, .string key, .string val] w fun e w' => e = .returned (.tuple #[.slice none 0 0, .agg zeroAct.cs, .bool false, .int .i64 230]) ∧ Below w.heap.size w w' := by
  refine call_err p 2 key val 230 w (by decide) (fun W hW => ?_)
  refine (does_ask lo p c ob oc gb gc g q L gs sp W (h.keep hW) x.tb _ t.n t.c key val ht hw (hT.keep hW).blk rfl rfl hk ManyW (fun V hV => ?_) (fun V w' w'' A m cap a d er hV hlt hR hc => ?_)).mono ?_
  · have hB := hW.trans (hV.mono hW.size)
    have hr := read_ask p c _ x t (actOf c.num 2 t.n t.c key) V (h.keep hB).cl ht (hT.keep hB) (okS_key hk) hla hrd ManyW
      (fun U hU => (lock_many p c _ x t (actOf c.num 2 t.n t.c key) 1 U ((h.keep hB).keep hU).cl ht ((hT.keep hB).keep hU) (okS_key hk) hkn h16).mono (by
        rintro e w' ⟨rfl, hb⟩
        exact ⟨none, 0, 0, zeroAct, false, 230, rfl, ⟨rfl, rfl, rfl, rfl, rfl, rfl, hb⟩, fun _ => False, Chg.of hb, fun _ _ _ => id⟩))
      (fun U w' w'' A m cap a d er g0 hU hg1 hg2 hR hc => by
        obtain ⟨r0, r1, r2, r3, r4, r5, hb⟩ := hR
        exact ⟨r0, r1, r2, r3, r4, r5, ((Chg.of (S := fun j => V.heap.size ≤ j) (hU.trans (hb.mono hU.size))).trans hc (fun j hj e => by omega)).below (Nat.le_refl _) (fun j hj => hj)⟩)
    refine hr.mono ?_
    rintro e w' ⟨A, m, cap, a', d, er, he', r0, r1, r2, r3, r4, r5, hb⟩
    exact ⟨A, m, cap, a', d, er, he', ⟨r0, r1, r2, r3, r4, r5, hb⟩, fun _ => False, Chg.of hb, id⟩
  · obtain ⟨r0, r1, r2, r3, r4, r5, hb⟩ := hR
    exact ⟨r0, r1, r2, r3, r4, r5, ((Chg.of (S := fun j => W.heap.size ≤ j) (hV.trans (hb.mono hV.size))).trans hc (fun j hj e => by omega)).below (Nat.le_refl _) (fun j hj => hj)⟩
  · rintro e w' ⟨A, m, cap, a, d, er, rfl, r0, r1, r2, r3, r4, r5, hb⟩
    subst r0 r1 r2 r3 r4 r5
    exact ⟨rfl, hb⟩

/-- What a does that is answered at once says. -/
abbrev HadW (a : ActV) (W w' : World) (A : Option Addr) (m cap : Nat) (a' : ActV) (d : Bool) (er : Int) : Prop := A = none ∧ m = 0 ∧ cap = 0 ∧ a' = a ∧ d = true ∧ er = 0 ∧ Below W.heap.size W w'
theorem call_had (h : CliAt lo w p c ob oc gb gc g q L gs sp) (ht : c.vt = .pointer (some ⟨x.tb, 0, none⟩)) (hw : c.waits = false) (hT : TxAt (fun b => w0.heap.size ≤ b) w x t) (hk : keyB key = true) (a : ActV) (hr : ∀ V, Below w.heap.size w V → Calls Try.prog 44 #[.pointer (some ⟨p, 0, none⟩), .agg (actOf c.num 2 t.n t.c key).cs] V fun e w' => e = .returned (.tuple #[callV (.slice none 0 0) a true, .int .i64 0]) ∧ Below V.heap.size V w') :
    Calls Try.prog 14 #[.pointer (some ⟨p, 0, none⟩), .int .i64 2, .string key, .string val] w fun e w' => e = .returned (.tuple #[.slice none 0 0, .agg a.cs, .bool true, .int .i64 0]) ∧ Below w.heap.size w w' := by
  have hh := call_ok p 2 key val w (fun W w' A m cap a' d => HadW a W w' A m cap a' d 0)
    (fun W hW => by
      refine (does_ask lo p c ob oc gb gc g q L gs sp W (h.keep hW) x.tb _ t.n t.c key val ht hw (hT.keep hW).blk rfl rfl hk (HadW a) (fun V hV => ?_) (fun V w' w'' A m cap a' d er hV hlt hR hc => ?_)).mono ?_
      · refine (hr V (hW.trans (hV.mono hW.size))).mono ?_
        rintro e w' ⟨rfl, hb⟩
        exact ⟨none, 0, 0, a, true, 0, rfl, ⟨rfl, rfl, rfl, rfl, rfl, rfl, hb⟩, fun _ => False, Chg.of hb, id⟩
      · obtain ⟨r0, r1, r2, r3, r4, r5, hb⟩ := hR
        exact ⟨r0, r1, r2, r3, r4, r5, ((Chg.of (S := fun j => W.heap.size ≤ j) (hV.trans (hb.mono hV.size))).trans hc (fun j hj e => by omega)).below (Nat.le_refl _) (fun j hj => hj)⟩
      · rintro e w' ⟨A, m, cap, a', d, er, rfl, r0, r1, r2, r3, r4, r5, hb⟩
        subst r0 r1 r2 r3 r4 r5
        exact ⟨none, 0, 0, a', true, rfl, ⟨rfl, rfl, rfl, rfl, rfl, rfl, hb⟩, fun _ => False, Chg.of hb, id⟩)
    (fun W w' w'' A m cap a' d hW hlt hR hc => by
      obtain ⟨r0, r1, r2, r3, r4, r5, hb⟩ := hR
      exact ⟨r0, r1, r2, r3, r4, r5, ((Chg.of (S := fun j => w.heap.size ≤ j) (hW.trans (hb.mono hW.size))).trans hc (fun j hj e => by omega)).below (Nat.le_refl _) (fun j hj => hj)⟩)
  refine hh.mono ?_
  rintro e w' ⟨A, m, cap, a', d, rfl, r0, r1, r2, r3, r4, r5, hb⟩
  subst r0 r1 r2 r3 r4
  exact ⟨rfl, hb⟩

/-- A write that is laid at once. -/
abbrev LaidW (del : Bool) (v : ByteArray) (W w' : World) : Prop := TxAt (fun b => w0.heap.size ≤ b) w' { x with N := x.N + 1 } (layT t key v del) ∧ Chg (fun b => b = x.m2 ∨ b = x.m4) W w'
theorem laidW_up {A : Nat → Prop} (hT : TxAt A w x t) (del : Bool) (v : ByteArray) {W w' w'' : World} (hW : Below w.heap.size w W) (_hlt : w.heap.size < W.heap.size) (hR : LaidW w0 x t key del v W w') (hc : Chg (fun j => j = w.heap.size) w' w'') : LaidW w0 x t key del v w w'' := by
  obtain ⟨h1, h2⟩ := hR
  have t1 := hT.blk.lt
  have t2 := hT.k1.lt
  have t3 := hT.k2.lt
  have t4 := hT.k3.lt
  have t5 := hT.k4.lt
  have hv : ∀ j, x.vs.ownBlock = some j → j < w.heap.size := fun j hj => (hT.gr.lt j hj).2
  refine ⟨(h1.exact.chg hc (fun j _ hj e => ?_)).more (fun j hj => hj.1), ((Chg.of hW).on h2).trans hc (fun j hj e => by omega)⟩
  obtain ⟨_, hj⟩ := hj
  simp only at hj
  rcases hj with rfl | rfl | rfl | rfl | rfl | hj
  · omega
  · omega
  · omega
  · omega
  · omega
  · have := hv j hj
    omega
theorem call_lay_w (h : CliAt lo w p c ob oc gb gc g q L gs sp) (ht : c.vt = .pointer (some ⟨x.tb, 0, none⟩)) (hw : c.waits = false) (hT : TxAt (fun b => w0.heap.size ≤ b) w x t) (hN : x.N + 1 < maxLen) (hk : keyB key = true) (hv : val.size ≤ 200) (hm : key ∈ t.mi) :
    Calls Try.prog 14 #[.pointer (some ⟨p, 0, none⟩), .int .i64 3, .string key, .string val] w fun e w' => e = .returned (.tuple #[.slice none 0 0, .agg (actW c.num 3 t.n t.c key val).cs, .bool true, .int .i64 0]) ∧ LaidW w0 x t key false val w w' := by
  have t3 := hT.k2.lt
  have t5 := hT.k4.lt
  have hh := call_ok p 3 key val w (fun W w' A m cap a' d => A = none ∧ m = 0 ∧ cap = 0 ∧ a' = actW c.num 3 t.n t.c key val ∧ d = true ∧ LaidW w0 x t key false val W w')
    (fun W hW => by
      refine (does_lay lo p c ob oc gb gc g q L gs sp W (h.keep hW) x.tb _ t.n t.c key val ht hw (hT.keep hW).blk rfl rfl x.m2 rfl hk hv (fun V hV => mineB x t key w _ hT (okS_key hk) true ⟨fun _ => hm, fun _ => rfl⟩ V (hW.trans (hV.mono hW.size))) (LaidW w0 x t key false val) (fun V hV => ?_) (fun V w' w'' hV hlt hR hc => ?_)).mono ?_
      · have hB := hW.trans (hV.mono hW.size)
        refine (lay_any _ p c x t (actW c.num 3 t.n t.c key val) V (h.keep hB).cl ht (hT.keep hB) hN (okS_key hk)).mono ?_
        rintro e w' ⟨rfl, r1, r2⟩
        exact ⟨rfl, ⟨r1, r2⟩, _, r2, fun j hj e => by have := hW.size; omega⟩
      · exact laidW_up w0 x t key W (hT.keep hW) false val hV hlt hR hc
      · rintro e w' ⟨rfl, hR⟩
        exact ⟨none, 0, 0, _, true, rfl, ⟨rfl, rfl, rfl, rfl, rfl, hR⟩, _, hR.2, fun e => by omega⟩)
    (fun W w' w'' A m cap a' d hW hlt hR hc => by
      obtain ⟨r0, r1, r2, r3, r4, hR⟩ := hR
      exact ⟨r0, r1, r2, r3, r4, laidW_up w0 x t key w hT false val hW hlt hR hc⟩)
  refine hh.mono ?_
  rintro e w' ⟨A, m, cap, a', d, rfl, r0, r1, r2, r3, r4, hR⟩
  subst r0 r1 r2 r3 r4
  exact ⟨rfl, hR⟩
theorem call_lay_d (h : CliAt lo w p c ob oc gb gc g q L gs sp) (ht : c.vt = .pointer (some ⟨x.tb, 0, none⟩)) (hw : c.waits = false) (hT : TxAt (fun b => w0.heap.size ≤ b) w x t) (hN : x.N + 1 < maxLen) (hk : keyB key = true) (hm : key ∈ t.mi) :
    Calls Try.prog 14 #[.pointer (some ⟨p, 0, none⟩), .int .i64 4, .string key, .string val] w fun e w' => e = .returned (.tuple #[.slice none 0 0, .agg (actW c.num 4 t.n t.c key ⟨#[]⟩).cs, .bool true, .int .i64 0]) ∧ LaidW w0 x t key true ⟨#[]⟩ w w' := by
  have t3 := hT.k2.lt
  have t5 := hT.k4.lt
  have hh := call_ok p 4 key val w (fun W w' A m cap a' d => A = none ∧ m = 0 ∧ cap = 0 ∧ a' = actW c.num 4 t.n t.c key ⟨#[]⟩ ∧ d = true ∧ LaidW w0 x t key true ⟨#[]⟩ W w')
    (fun W hW => by
      refine (does_laydel lo p c ob oc gb gc g q L gs sp W (h.keep hW) x.tb _ t.n t.c key val ht hw (hT.keep hW).blk rfl rfl x.m2 rfl hk (fun V hV => mineB x t key w _ hT (okS_key hk) true ⟨fun _ => hm, fun _ => rfl⟩ V (hW.trans (hV.mono hW.size))) (LaidW w0 x t key true ⟨#[]⟩) (fun V hV => ?_) (fun V w' w'' hV hlt hR hc => ?_)).mono ?_
      · have hB := hW.trans (hV.mono hW.size)
        refine (lay_any _ p c x t (actW c.num 4 t.n t.c key ⟨#[]⟩) V (h.keep hB).cl ht (hT.keep hB) hN (okS_key hk)).mono ?_
        rintro e w' ⟨rfl, r1, r2⟩
        exact ⟨rfl, ⟨r1, r2⟩, _, r2, fun j hj e => by have := hW.size; omega⟩
      · exact laidW_up w0 x t key W (hT.keep hW) true ⟨#[]⟩ hV hlt hR hc
      · rintro e w' ⟨rfl, hR⟩
        exact ⟨none, 0, 0, _, true, rfl, ⟨rfl, rfl, rfl, rfl, rfl, hR⟩, _, hR.2, fun e => by omega⟩)
    (fun W w' w'' A m cap a' d hW hlt hR hc => by
      obtain ⟨r0, r1, r2, r3, r4, hR⟩ := hR
      exact ⟨r0, r1, r2, r3, r4, laidW_up w0 x t key w hT true ⟨#[]⟩ hW hlt hR hc⟩)
  refine hh.mono ?_
  rintro e w' ⟨A, m, cap, a', d, rfl, r0, r1, r2, r3, r4, hR⟩
  subst r0 r1 r2 r3 r4
  exact ⟨rfl, hR⟩
end

/-- Call at a read, a write or a deletion: all ways. -/
theorem call_all (lo p : Nat) (c : Client) (ob oc gb gc g q : Nat) (L : List Ent) (gs : List Nat) (sp : List ByteArray) (w0 : World) (x : TxB) (t : TxS) (kd : Int) (hkd : kd = 2 ∨ kd = 3 ∨ kd = 4) (key val : ByteArray) (w : World) (h : CliAt lo w p c ob oc gb gc g q L gs sp) (hsp : sp.length + 1 = g) (hg8 : g ≤ 8)
    (ht : c.vt = .pointer (some ⟨x.tb, 0, none⟩)) (hw : c.waits = false) (hT : TxAt (fun b => w0.heap.size ≤ b) w x t) (hN : x.N + 1 < maxLen) (hgl : t.gr.length ≤ 100) (hgs : t.gr.Pairwise (· < ·)) (hs : 0 ≤ c.seq ∧ c.seq < 1000000)
    (c0 : Client) (gs0 : List Nat) (h0 : CliAt lo w0 p c0 ob oc gb gc g q L gs0 sp) (K0 : Chg (fun b => b = p ∨ b = gb) w0 w) (he : c.vo = c0.vo ∧ c.vg = c0.vg ∧ c.D = c0.D) :
    Calls Try.prog 14 #[.pointer (some ⟨p, 0, none⟩), .int .i64 kd, .string key, .string val] w fun e w' => ∃ A m cap ac d er, e = .returned (.tuple #[.slice A m cap, .agg ac.cs, .bool d, .int .i64 er]) ∧ CallR lo p c ob oc gb gc g q L gs sp w0 x t kd key val w A m cap ac d er w' := by
  have dn : ∀ {w' : World}, Below w.heap.size w w' → TxAt (fun b => w0.heap.size ≤ b) w' { x with N := x.N } t ∧ Chg (fun b => b = x.m2 ∨ b = x.m4) w w' := fun hb => ⟨hT.keep hb, Chg.of hb⟩
  cases hk : keyB key with
  | false =>
    rcases hkd with rfl | rfl | rfl
    · refine (call_err p 2 key val 120 w (by decide) (fun W hW => does_badr lo p c ob oc gb gc g q L gs sp W (h.keep hW) x.tb _ t.n t.c key val ht hw (hT.keep hW).blk rfl rfl hk)).mono ?_
      rintro e w' ⟨he, hb⟩
      exact ⟨_, _, _, _, _, _, he, .err (.inl rfl) hb⟩
    · refine (call_err p 3 key val 120 w (by decide) (fun W hW => does_badw lo p c ob oc gb gc g q L gs sp W (h.keep hW) x.tb _ t.n t.c key val ht hw (hT.keep hW).blk rfl rfl hk)).mono ?_
      rintro e w' ⟨he, hb⟩
      exact ⟨_, _, _, _, _, _, he, .err (.inl rfl) hb⟩
    · refine (call_err p 4 key val 120 w (by decide) (fun W hW => does_badd lo p c ob oc gb gc g q L gs sp W (h.keep hW) x.tb _ t.n t.c key val ht hw (hT.keep hW).blk rfl rfl hk)).mono ?_
      rintro e w' ⟨he, hb⟩
      exact ⟨_, _, _, _, _, _, he, .err (.inl rfl) hb⟩
  | true =>
    have ok := okS_key hk
    rcases hkd with rfl | rfl | rfl
    · cases hla : t.la key with
      | some y =>
        refine (call_had lo p c ob oc gb gc g q L gs sp w0 x t key val w h ht hw hT hk _ (fun V hV => read_laid p c _ x t (actOf c.num 2 t.n t.c key) y V (h.keep hV).cl ht (hT.keep hV) ok hla)).mono ?_
        rintro e w' ⟨he, hb⟩
        exact ⟨_, _, _, _, _, _, he, .done t x.N ok (.inl ⟨rfl, rfl, .inl ⟨y, hla, rfl, rfl⟩⟩) (Nat.le_succ _) (dn hb).1 (dn hb).2⟩
      | none =>
        cases hrd : t.rd key with
        | some y =>
          refine (call_had lo p c ob oc gb gc g q L gs sp w0 x t key val w h ht hw hT hk _ (fun V hV => read_seen p c _ x t (actOf c.num 2 t.n t.c key) y V (h.keep hV).cl ht (hT.keep hV) ok hla hrd)).mono ?_
          rintro e w' ⟨he, hb⟩
          exact ⟨_, _, _, _, _, _, he, .done t x.N ok (.inl ⟨rfl, rfl, .inr ⟨hla, y, hrd, rfl, rfl⟩⟩) (Nat.le_succ _) (dn hb).1 (dn hb).2⟩
        | none =>
          by_cases hkn : key ∈ t.ks ∨ t.ks.length < 16
          · refine (call_ask_r lo p c ob oc gb gc g q L gs sp w0 x t key val w h hsp hg8 ht hw hT hN hgl hgs hk hs c0 gs0 h0 K0 he hla hrd hkn).mono ?_
            rintro e w' ⟨b, k, nd, vs, gr, hm, he, hL⟩
            exact ⟨_, _, _, _, _, _, he, .ask k nd vs gr hm 1 ok ⟨rfl, rfl, rfl, fun _ => ⟨hla, hrd⟩⟩ hL⟩
          · refine (call_many_r lo p c ob oc gb gc g q L gs sp w0 x t key val w h ht hw hT hk hla hrd (fun hh => hkn (.inl hh)) (by omega)).mono ?_
            rintro e w' ⟨he, hb⟩
            exact ⟨_, _, _, _, _, _, he, .err (.inr (.inr rfl)) hb⟩
    · by_cases hv : val.size ≤ 200
      · by_cases hm : key ∈ t.mi
        · refine (call_lay_w lo p c ob oc gb gc g q L gs sp w0 x t key val w h ht hw hT hN hk hv hm).mono ?_
          rintro e w' ⟨he, h1, h2⟩
          exact ⟨_, _, _, _, _, _, he, .done _ (x.N + 1) ok (.inr ⟨by decide, rfl, rfl⟩) (Nat.le_refl _) h1 h2⟩
        · by_cases hkn : key ∈ t.ks ∨ t.ks.length < 16
          · refine (call_ask_w lo p c ob oc gb gc g q L gs sp w0 x t key val w h hsp hg8 ht hw hT hN hgl hgs hk hs c0 gs0 h0 K0 he hv hm hkn).mono ?_
            rintro e w' ⟨b, k, nd, vs, gr, hm, he, hL⟩
            exact ⟨_, _, _, _, _, _, he, .ask k nd vs gr hm 2 ok ⟨rfl, rfl, rfl, fun e => absurd e (by decide)⟩ hL⟩
          · refine (call_many_w lo p c ob oc gb gc g q L gs sp w0 x t key val w h ht hw hT hk hv hm (fun hh => hkn (.inl hh)) (by omega)).mono ?_
            rintro e w' ⟨he, hb⟩
            exact ⟨_, _, _, _, _, _, he, .err (.inr (.inr rfl)) hb⟩
      · refine (call_err p 3 key val 9 w (by decide) (fun W hW => does_long lo p c ob oc gb gc g q L gs sp W (h.keep hW) x.tb _ t.n t.c key val ht hw (hT.keep hW).blk rfl rfl hk (by omega))).mono ?_
        rintro e w' ⟨he, hb⟩
        exact ⟨_, _, _, _, _, _, he, .err (.inr (.inl rfl)) hb⟩
    · by_cases hm : key ∈ t.mi
      · refine (call_lay_d lo p c ob oc gb gc g q L gs sp w0 x t key val w h ht hw hT hN hk hm).mono ?_
        rintro e w' ⟨he, h1, h2⟩
        exact ⟨_, _, _, _, _, _, he, .done _ (x.N + 1) ok (.inr ⟨by decide, rfl, rfl⟩) (Nat.le_refl _) h1 h2⟩
      · by_cases hkn : key ∈ t.ks ∨ t.ks.length < 16
        · refine (call_ask_d lo p c ob oc gb gc g q L gs sp w0 x t key val w h hsp hg8 ht hw hT hN hgl hgs hk hs c0 gs0 h0 K0 he hm hkn).mono ?_
          rintro e w' ⟨b, k, nd, vs, gr, hm, he, hL⟩
          exact ⟨_, _, _, _, _, _, he, .ask k nd vs gr hm 2 ok ⟨rfl, rfl, rfl, fun e => absurd e (by decide)⟩ hL⟩
        · refine (call_many_d lo p c ob oc gb gc g q L gs sp w0 x t key val w h ht hw hT hk hm (fun hh => hkn (.inl hh)) (by omega)).mono ?_
          rintro e w' ⟨he, hb⟩
          exact ⟨_, _, _, _, _, _, he, .err (.inr (.inr rfl)) hb⟩
end Go.Proofs.Ytpaihfdmjkfegaa.Cl

/- Take at any call of a transaction; answer; Call at a commit where nothing was asked for. -/
namespace Go.Proofs.Ytpaihfdmjkfegaa.Cl
open Go.RowKit Go.Lib Go.Maps Go.Proofs.Ytpaihfdmjkfegaa.MapF Go.Proofs.Ytpaihfdmjkfegaa.Msg Go.Proofs.Ytpaihfdmjkfegaa.Ck

theorem answer_any (M : Array Value) (v : ByteArray) (fo : Bool) (s n c : Int) (w : World) (hM : MsgC M) (m12 : M[12]? = some (.int .i64 s)) (m13 : M[13]? = some (.int .i64 n)) (m14 : M[14]? = some (.int .i64 c)) :
    Calls Try.prog 16 #[.agg M, .string v, .bool fo] w fun e w' => e = .returned (.agg (ansM s n c 0 fo (pickS fo v ⟨#[]⟩))) ∧ Below w.heap.size w w' := by
  cases fo with
  | true => exact answer_yes M v s n c w hM m12 m13 m14
  | false => exact answer_no M v s n c w hM m12 m13 m14

/-- A transaction has read a key. -/
theorem TxAt.setRd {A : Nat → Prop} {w w' : World} {x : TxB} {t : TxS} (h : TxAt A w x t) (k : Chg (fun j => j = x.m3) w w') {rd : ByteArray → Option (Bool × ByteArray × Int)} (hF : IsF mS w' x.m3 (x.N + 1) rd) : TxAt A w' { x with N := x.N + 1 } { t with rd := rd } := by
  obtain ⟨n1, n2, n3, n4⟩ := h.tm
  have hn := h.ne
  exact ⟨h.blk.chg k n3, own_same h.gr (fun b hb hv => k.block b hb (fun e => own_ne_map h.gr h.k3.isMp (e ▸ hv))), h.grA,
    (isF_same h.k1 (k.block _ h.k1.lt hn.2.1)).mono (Nat.le_succ _), (isF_same h.k2 (k.block _ h.k2.lt hn.2.2.2.1)).mono (Nat.le_succ _), hF, (isF_same h.k4 (k.block _ h.k4.lt (Ne.symm hn.2.2.2.2.2))).mono (Nat.le_succ _), hn, h.inA, h.ksN, h.lsN⟩

/-- How a step of the law goes on. -/
structure Step (kd : Int) (key val : ByteArray) (t t' : TxS) (ac : ActV) : Prop where
  n : t'.n = t.n
  c : t'.c = t.c
  it : (kd = 2 ∧ t'.la = t.la ∧ t'.ls = t.ls ∧ ∃ y, t.la key = some y ∧ ac.found = !y.2.2 ∧ ac.value = y.2.1 ∧ t'.rd = t.rd) ∨
    (kd = 2 ∧ t'.la = t.la ∧ t'.ls = t.ls ∧ t.la key = none ∧ ∃ st, t'.rd = upd t.rd key (some (ac.found, ac.value, st)) ∧ (t.rd key = none ∨ t.rd key = some (ac.found, ac.value, st))) ∨
    (kd ≠ 2 ∧ t'.rd = t.rd ∧ ac.value = wv kd val ∧ t'.la = upd t.la key (some (key, wv kd val, kd == 4)) ∧ t'.ls = ins t.ls key)
theorem upd_same {κ α : Type} (f : κ → Option α) (x : κ) (y : α) (h : f x = some y) : upd f x (some y) = f := by
  funext z
  unfold upd
  split
  · rename_i e; rw [e, h]
  · rfl
theorem DoneR.step {kd : Int} {key val : ByteArray} {t t' : TxS} {ac : ActV} (h : DoneR kd key val t t' ac) : Step kd key val t t' ac := by
  rcases h with ⟨h1, rfl, h2⟩ | ⟨h1, h2, rfl⟩
  · refine ⟨rfl, rfl, ?_⟩
    rcases h2 with ⟨y, e1, e2, e3⟩ | ⟨e0, y, e1, e2, e3⟩
    · exact .inl ⟨h1, rfl, rfl, y, e1, e2, e3, rfl⟩
    · refine .inr (.inl ⟨h1, rfl, rfl, e0, y.2.2, ?_, .inr ?_⟩)
      · rw [e2, e3]
        exact (upd_same _ _ _ e1).symm
      · rw [e2, e3]
        exact e1
  · exact ⟨rfl, rfl, .inr (.inr ⟨h1, rfl, h2, rfl, rfl⟩)⟩

/-- Take at an answer, OK, to what was asked. -/
theorem take_all (lo p : Nat) (c : Client) (ob oc gb gc g q : Nat) (L : List Ent) (gs : List Nat) (sp : List ByteArray) (A0 : Nat → Prop) (x : TxB) (t : TxS) (kd : Int) (hkd : kd = 2 ∨ kd = 3 ∨ kd = 4) (key val : ByteArray) (fo : Bool) (v : ByteArray) (s : Int) (w : World) (h : CliAt lo w p c ob oc gb gc g q L gs sp)
    (hw : c.waits = true) (ht : c.vt = .pointer (some ⟨x.tb, 0, none⟩)) (hT : TxAt A0 w x t) (hN : x.N + 1 < maxLen) (ok : okS key) (ha : AskR kd key val t c.act)
    (M12 : c.M[12]? = some (.int .i64 s)) (M13 : c.M[13]? = some (.int .i64 t.n)) (M14 : c.M[14]? = some (.int .i64 t.c)) :
    Calls Try.prog 15 #[.pointer (some ⟨p, 0, none⟩), .agg (ansM s t.n t.c 0 fo (pickS fo v ⟨#[]⟩))] w fun e w' => ∃ ac t', e = .returned (.tuple #[.agg ac.cs, .bool true]) ∧ Step kd key val t t' ac ∧ t'.home = t.home ∧ t'.gr = t.gr ∧ t'.ks = t.ks ∧
      ClAt w' p { c with waits := false, cnt := newCnt c.cnt 0 } ∧ TxAt A0 w' { x with N := x.N + 1 } t' ∧ Chg (fun b => b = p ∨ b = x.m2 ∨ b = x.m3 ∨ b = x.m4) w w' := by
  obtain ⟨ha1, ha2, ha3, ha4⟩ := ha
  have wr := fun (kd : Int) (hkd : kd = 3 ∨ kd = 4) (e : c.act.call = kd) => take_lay kd hkd p c A0 x t (ansM s t.n t.c 0 fo (pickS fo v ⟨#[]⟩)) s t.n t.c 0 w h.cl hw e ht hT hN (ha2 ▸ ok) (ansM_ok _ _ _ _ _ _) rfl rfl rfl rfl rfl rfl M12 M13 M14
  have fin : ∀ kd : Int, kd ≠ 2 → c.act.call = kd → c.act.value = wv kd val → Step kd key val t (layT t c.act.key c.act.value (c.act.call == 4)) (okAct c.act) := fun kd h2 e1 e2 => by
    refine ⟨rfl, rfl, .inr (.inr ⟨h2, rfl, e2, ?_, ?_⟩)⟩
    · show upd t.la c.act.key _ = _
      rw [ha2, e2, e1]
    · show ins t.ls c.act.key = _
      rw [ha2]
  rcases hkd with rfl | rfl | rfl
  · have hpt : p ≠ x.tb := h.cl.blk.ne_ hT.blk (by decide)
    have pm3 : p ≠ x.m3 := hT.k3.isMp.ne_blk h.cl.blk
    refine (take_read lo p c ob oc gb gc g q L gs sp x.tb x.m3 x.N t.rd (ansM s t.n t.c 0 fo (pickS fo v ⟨#[]⟩)) s t.n t.c 0 fo (pickS fo v ⟨#[]⟩) w h hw ha1 ht (hT.blk.cell 6) hpt hT.k3 (by omega) (ha2 ▸ ok) (ansM_ok _ _ _ _ _ _) rfl rfl rfl rfl rfl rfl rfl rfl M12 M13 M14).mono ?_
    rintro e w' ⟨rfl, r1, r2, r3⟩
    refine ⟨_, { t with rd := upd t.rd c.act.key (some (fo, (pickS fo (pickS fo v ⟨#[]⟩) c.act.value), 0)) }, rfl, ⟨rfl, rfl, .inr (.inl ⟨rfl, rfl, rfl, (ha4 rfl).1, 0, ?_, .inl (ha4 rfl).2⟩)⟩, rfl, rfl, rfl, r1.cl, ?_, r3.more (fun _ _ e => by rcases e with e | e; exact .inl e; exact .inr (.inr (.inl e)))⟩
    · show upd t.rd c.act.key _ = _
      rw [ha2]
      rfl
    · obtain ⟨n1, n2, n3, n4⟩ := hT.tm
      have hn := hT.ne
      have hpA : ∀ b, x.vs.ownBlock = some b → b ≠ p := fun b hb e => own_blk_ne hT.gr h.cl.blk (by decide) (e ▸ hb)
      have pm1 : p ≠ x.m1 := hT.k1.isMp.ne_blk h.cl.blk
      have pm2 : p ≠ x.m2 := hT.k2.isMp.ne_blk h.cl.blk
      have pm4 : p ≠ x.m4 := hT.k4.isMp.ne_blk h.cl.blk
      refine ⟨hT.blk.chg r3 (fun e => by rcases e with e | e; exact hpt e.symm; exact n3 e), own_same hT.gr (fun b hb hv => r3.block b hb (fun e => by rcases e with e | e; exact hpA b hv e; exact own_ne_map hT.gr hT.k3.isMp (e ▸ hv))), hT.grA,
        (isF_same hT.k1 (r3.block _ hT.k1.lt (fun e => by rcases e with e | e; exact pm1 e.symm; exact hn.2.1 e))).mono (Nat.le_succ _), (isF_same hT.k2 (r3.block _ hT.k2.lt (fun e => by rcases e with e | e; exact pm2 e.symm; exact hn.2.2.2.1 e))).mono (Nat.le_succ _), r2,
        (isF_same hT.k4 (r3.block _ hT.k4.lt (fun e => by rcases e with e | e; exact pm4 e.symm; exact hn.2.2.2.2.2 e.symm))).mono (Nat.le_succ _), hn, hT.inA, hT.ksN, hT.lsN⟩
  · refine (wr 3 (.inl rfl) ha1).mono ?_
    rintro e w' ⟨rfl, r1, r2, r3⟩
    exact ⟨_, _, rfl, fin 3 (by decide) ha1 ha3, rfl, rfl, rfl, r1, r2, r3.more (fun _ _ e => by rcases e with e | e | e; exact .inl e; exact .inr (.inl e); exact .inr (.inr (.inr e)))⟩
  · refine (wr 4 (.inr rfl) ha1).mono ?_
    rintro e w' ⟨rfl, r1, r2, r3⟩
    exact ⟨_, _, rfl, fin 4 (by decide) ha1 ha3, rfl, rfl, rfl, r1, r2, r3.more (fun _ _ e => by rcases e with e | e | e; exact .inl e; exact .inr (.inl e); exact .inr (.inr (.inr e)))⟩

/-- Call at a commit where nothing was asked for. -/
theorem call_commit_none (lo p : Nat) (c : Client) (ob oc gb gc g q : Nat) (L : List Ent) (gs : List Nat) (sp : List ByteArray) (A0 : Nat → Prop) (xb : TxB) (t : TxS) (key val : ByteArray) (w : World) (h : CliAt lo w p c ob oc gb gc g q L gs sp) (ht : c.vt = .pointer (some ⟨xb.tb, 0, none⟩)) (hw : c.waits = false) (hT : TxAt A0 w xb t) (hks : t.ks = []) :
    Calls Try.prog 14 #[.pointer (some ⟨p, 0, none⟩), .int .i64 5, .string key, .string val] w fun e w' => e = .returned (.tuple #[.slice none 0 0, .agg (actOf c.num 5 t.n t.c ⟨#[]⟩).cs, .bool true, .int .i64 0]) ∧ Chg (fun b => b = p) w w' := by
  have hp := h.cl.blk.lt
  have hh := call_ok p 5 key val w (fun W w' A m cap a d => d = true ∧ a = actOf c.num 5 t.n t.c ⟨#[]⟩ ∧ A = none ∧ m = 0 ∧ cap = 0 ∧ Chg (fun b => b = p) W w')
    (fun W hW => (does_commit lo p c ob oc gb gc g q L gs sp W (h.keep hW) xb.tb _ t.n t.c key val ht hw (hT.keep hW).blk rfl rfl
      (fun W' w' A m cap a d er => er = 0 ∧ d = true ∧ a = actOf c.num 5 t.n t.c ⟨#[]⟩ ∧ A = none ∧ m = 0 ∧ cap = 0 ∧ Chg (fun b => b = p) W' w')
      (fun V hV => (end_none p c A0 xb t (actOf c.num 5 t.n t.c ⟨#[]⟩) V ((h.keep hW).keep hV).cl ht ((hT.keep hW).keep hV) hks).mono (by
        rintro e w' ⟨rfl, r1, r2⟩
        exact ⟨none, 0, 0, _, true, rfl, ⟨rfl, rfl, rfl, rfl, rfl, rfl, r2⟩, _, r2, fun e => by have := hW.size; omega⟩))
      (fun V w' w'' A m cap a d er hV hlt hR hc => by
        obtain ⟨r0, r1, r2, r3, r4, r5, hE⟩ := hR
        exact ⟨r0, r1, r2, r3, r4, r5, ((Chg.of hV).on hE).trans hc (fun j hj e => by omega)⟩)).mono (by
      rintro e w' ⟨A, m, cap, a, d, er, he', r0, r1, r2, r3, r4, r5, hE⟩
      subst r0
      exact ⟨A, m, cap, a, d, he', ⟨r1, r2, r3, r4, r5, hE⟩, _, hE, fun e => by omega⟩))
    (fun W w' w'' A m cap a d hW hlt hR hc => by
      obtain ⟨r1, r2, r3, r4, r5, hE⟩ := hR
      exact ⟨r1, r2, r3, r4, r5, ((Chg.of hW).on hE).trans hc (fun j hj e => by omega)⟩)
  refine hh.mono ?_
  rintro e w' ⟨A, m, cap, a, d, rfl, r1, r2, r3, r4, r5, hE⟩
  subst r1 r2 r3 r4 r5
  exact ⟨rfl, hE⟩

/-- map[string]api.Act. -/
def mA : MapTy Try.prog 9 ByteArray ActV where
  kv s := .string s
  kl s := .string s.data.toList
  ev a := .agg a.cs
  ed p := .agg [.lit (.int .i64 p.who), .lit (.int .i64 p.call), .lit (.int .i64 p.n), .lit (.int .i64 p.c), .lit (.string p.key.data.toList), .lit (.string p.value.data.toList), .lit (.bool p.found), .lit (.int .i64 p.code), .lit (.int .i64 p.stamp), .lit (.int .i64 p.from_), .lit (.int .i64 p.to)]
  ok := okS
  law := string_keyed Try.underlying9
  hkey _ h := Go.WideMaps.keyOf_string_mk Try.underlying9 h
  kinj x y h := by
    obtain ⟨⟨x⟩⟩ := x
    obtain ⟨⟨y⟩⟩ := y
    simp at h
    rw [h]
  einj a b h := by
    obtain ⟨a1, a2, a3, a4, ⟨⟨a5⟩⟩, ⟨⟨a6⟩⟩, a7, a8, a9, a10, a11⟩ := a
    obtain ⟨b1, b2, b3, b4, ⟨⟨b5⟩⟩, ⟨⟨b6⟩⟩, b7, b8, b9, b10, b11⟩ := b
    simp at h
    obtain ⟨rfl, rfl, rfl, rfl, rfl, rfl, rfl, rfl, rfl, rfl, rfl⟩ := h
    rfl
  vinj a b h := by
    obtain ⟨a1, a2, a3, a4, a5, a6, a7, a8, a9, a10, a11⟩ := a
    obtain ⟨b1, b2, b3, b4, b5, b6, b7, b8, b9, b10, b11⟩ := b
    simp [ActV.cs] at h
    obtain ⟨rfl, rfl, rfl, rfl, rfl, rfl, rfl, rfl, rfl, rfl, rfl⟩ := h
    rfl
theorem zero43 (w : World) : (zeroValue 43).run Try.prog w = .ok (mA.ev zeroAct) w := by kernel_rfl

/-- The groups that were asked. -/
theorem gr_cases {l : List Int} (h : l.Pairwise (· < ·)) (hl : ∀ y ∈ l, y = 0 ∨ y = 1) : l = [] ∨ l = [0] ∨ l = [1] ∨ l = [0, 1] := by
  match l, h, hl with
  | [], _, _ => exact .inl rfl
  | [a], _, hl =>
    rcases hl a (by simp) with rfl | rfl
    · exact .inr (.inl rfl)
    · exact .inr (.inr (.inl rfl))
  | [a, b], h, hl =>
    have h1 := hl a (by simp)
    have h2 := hl b (by simp)
    have h3 : a < b := by simpa using h
    have : a = 0 := by omega
    have : b = 1 := by omega
    subst a b
    exact .inr (.inr (.inr rfl))
  | a :: b :: c :: r, h, hl =>
    have h1 := hl a (by simp)
    have h2 := hl b (by simp)
    have h4 := hl c (by simp)
    simp only [List.pairwise_cons, List.mem_cons] at h
    have h3 := h.1 b (.inl rfl)
    have h5 := h.2.1 c (.inl rfl)
    omega
theorem wv_two {val : ByteArray} : wv 2 val = ⟨#[]⟩ := rfl
/-- A transaction is as it was where a block apart is changed. -/
theorem TxAt.apart {A : Nat → Prop} {w w' : World} {x : TxB} {t : TxS} (h : TxAt A w x t) {b B1 : Nat} (k : Chg (fun j => j = b) w w') (hb : B1 ≤ b) (hx : x.tb < B1 ∧ x.m1 < B1 ∧ x.m2 < B1 ∧ x.m3 < B1 ∧ x.m4 < B1) (hv : x.vs.ownBlock ≠ some b) : TxAt A w' x t := by
  refine (h.exact.chg k (fun j _ hj e => ?_)).more (fun j hj => hj.1)
  obtain ⟨_, hj⟩ := hj
  subst e
  rcases hj with e | e | e | e | e | e
  · omega
  · omega
  · omega
  · omega
  · omega
  · exact hv e
end Go.Proofs.Ytpaihfdmjkfegaa.Cl

/- A []Op that came in, opened: each act's cells. -/
namespace Go.Proofs.Ytpaihfdmjkfegaa.Cl
open Go.RowKit Go.Lib Go.Proofs.Ytpaihfdmjkfegaa.Msg
open Go.ChangeShapes Go.WideShapes Go.Deep

/-- What is read of this type is one value a cell. -/
def OneT (P : Program) (t : TypeId) : Prop :=
  ∀ {H : Type} (enc : TypeId × Value → H) (w : World) (base : Nat) (spare : Nat → Bool) (held : Bool) (fuel : Nat) (cs : List Value) (x : DataW H × List MemPlace), DataW.trod enc P w base spare held fuel t cs = some x → ∀ v ∈ cs, v.oneCell' = true
section
variable {P : Program} {t e : TypeId}
theorem oneT_int {k : IntKind} (ht : P.underlying t = some (.int k)) : OneT P t := by
  intro H enc w base spare held fuel cs x h v hv
  obtain ⟨n, rfl, _⟩ := DataW.trod_int ht h
  rw [List.mem_singleton.1 hv]
  rfl
theorem oneT_bool (ht : P.underlying t = some .bool) : OneT P t := by
  intro H enc w base spare held fuel cs x h v hv
  obtain ⟨n, rfl, _⟩ := DataW.trod_bool ht h
  rw [List.mem_singleton.1 hv]
  rfl
theorem oneT_string (ht : P.underlying t = some .string) : OneT P t := by
  intro H enc w base spare held fuel cs x h v hv
  obtain ⟨n, rfl, _⟩ := DataW.trod_string ht h
  rw [List.mem_singleton.1 hv]
  rfl
theorem oneT_slice (ht : P.underlying t = some (.slice e)) : OneT P t := by
  intro H enc w base spare held fuel cs x h v hv
  rcases open_slice ht h with ⟨rfl, _⟩ | ⟨a, len, cap, m, n, D, Pl, rfl, _⟩
  · rw [List.mem_singleton.1 hv]
    rfl
  · rw [List.mem_singleton.1 hv]
    rfl
/-- Each cell lies in a field. -/
def coverB (P : Program) (fs : Array Field) (n : Nat) : Bool := (List.range n).all fun i => fs.any fun f => decide (f.offset ≤ i) && decide (i < f.offset + P.cellsOf f.type)
theorem oneT_struct {fs : Array Field} (ht : P.underlying t = some (.struct fs)) (hc : coverB P fs (P.cellsOf t) = true) (hf : ∀ f ∈ fs, OneT P f.type) : OneT P t := by
  intro H enc w base spare held fuel cs x h v hv
  obtain ⟨xs, m, _, _, hlen, hxs, hfl⟩ := DataW.trod_struct ht h
  obtain ⟨i, hi, rfl⟩ := List.mem_iff_getElem.1 hv
  have h1 := List.all_eq_true.1 hc i (List.mem_range.2 (by omega))
  obtain ⟨j, hj, h2⟩ := Array.any_eq_true.1 h1
  simp only [Bool.and_eq_true, decide_eq_true_eq] at h2
  have hj' : j < xs.length := by omega
  have h3 := hfl j fs[j] (Array.getElem?_eq_getElem hj)
  rw [List.getElem?_eq_getElem hj'] at h3
  refine hf fs[j] (Array.getElem_mem hj) enc w base spare held m _ _ h3 _ (List.mem_iff_getElem?.2 ⟨i - fs[j].offset, ?_⟩)
  rw [List.getElem?_take, if_pos (by omega), List.getElem?_drop, List.getElem?_eq_getElem (by omega)]
  congr 2
  omega
end

/-- An act of the law's list. -/
def OpC (C : Array Value) (kind : Int) (key val : ByteArray) (fo : Bool) (v : ByteArray) : Prop :=
  CellsN 30 C ∧ C[0]? = some (.int .i64 kind) ∧ C[1]? = some (.string key) ∧ C[2]? = some (.string val) ∧ C[27]? = some (.bool fo) ∧ C[28]? = some (.string v)
def OpsIn (w : World) (B : Nat) (A : Option Addr) (n : Nat) : Prop :=
  0 < n → ∃ b o, A = some ⟨b, o, none⟩ ∧ b < B ∧ ∀ i, i < n → ∃ C kind key val fo v, OpC C kind key val fo v ∧ w.rangeAt b (o + i * 30) C.toList

theorem one3 : OneT Try.prog 3 := oneT_int Try.underlying3
theorem one9 : OneT Try.prog 9 := oneT_string Try.underlying9
theorem one4 : OneT Try.prog 4 := oneT_bool Try.underlying4
theorem takeOne {cs : List Value} {o : Nat} {v : Value} (h : (cs.drop o).take 1 = [v]) : cs[o]? = some v := by
  have h1 : ((cs.drop o).take 1)[0]? = some v := by rw [h]; rfl
  rw [List.getElem?_take, if_pos (by omega), List.getElem?_drop] at h1
  exact h1
theorem cellsOf3 : Try.prog.cellsOf 3 = 1 := by kernel_rfl
theorem cellsOf9 : Try.prog.cellsOf 9 = 1 := by kernel_rfl
theorem cellsOf4 : Try.prog.cellsOf 4 = 1 := by kernel_rfl
theorem cellsOf55 : Try.prog.cellsOf 55 = 26 := by kernel_rfl
theorem cellsOf57 : Try.prog.cellsOf 57 = 30 := by kernel_rfl
theorem one50 : OneT Try.prog 50 := oneT_struct Try.underlying50 (by kernel_rfl) (fun f hf => by
  simp only [List.mem_toArray, List.mem_cons, List.not_mem_nil, or_false] at hf
  rcases hf with rfl | rfl <;> exact one3)
theorem one41 : OneT Try.prog 41 := oneT_struct Try.underlying41 (by kernel_rfl) (fun f hf => by
  simp only [List.mem_toArray, List.mem_cons, List.not_mem_nil, or_false] at hf
  rcases hf with rfl | rfl <;> exact one3)
theorem one55 : OneT Try.prog 55 := oneT_struct Try.underlying55 (by kernel_rfl) (fun f hf => by
  simp only [List.mem_toArray, List.mem_cons, List.not_mem_nil, or_false] at hf
  rcases hf with rfl | rfl | rfl | rfl | rfl | rfl | rfl | rfl | rfl | rfl | rfl | rfl | rfl | rfl | rfl | rfl | rfl | rfl | rfl | rfl | rfl | rfl | rfl
  all_goals first | exact one3 | exact one9 | exact one4 | exact one50 | exact one41 | exact oneT_int Try.underlying28 | exact oneT_slice Try.underlying51 | exact oneT_slice Try.underlying52 | exact oneT_slice Try.underlying53 | exact oneT_slice Try.underlying23)
theorem one57 : OneT Try.prog 57 := oneT_struct Try.underlying57 (by kernel_rfl) (fun f hf => by
  simp only [List.mem_toArray, List.mem_cons, List.not_mem_nil, or_false] at hf
  rcases hf with rfl | rfl | rfl | rfl | rfl
  all_goals first | exact one3 | exact one9 | exact one4 | exact one55)
theorem plainA {w : World} {a : Addr} {v : Value} (h : w.cell? (a.add 0) = some v) : a = ⟨a.block, a.off, none⟩ ∧ a.block < w.heap.size := by
  obtain ⟨ab, ao, sp⟩ := a
  have e : (⟨ab, ao, sp⟩ : Addr).add 0 = ⟨ab, ao, sp⟩ := rfl
  rw [e] at h
  have hs : sp = none := by
    unfold World.cell? at h
    cases sp with
    | none => rfl
    | some z =>
      split at h
      · simp at h
      · cases h
  subst hs
  exact ⟨rfl, World.block_lt_of_cell? w _ h⟩
theorem op_of {H : Type} {enc : TypeId × Value → H} {w : World} {base : Nat} {spare : Nat → Bool} {held : Bool} {fuel : Nat} {cs : List Value} {y : DataW H × List MemPlace} (h : DataW.trod enc Try.prog w base spare held fuel 57 cs = some y) :
    cs.length = 30 ∧ ∃ kind key val fo v, OpC cs.toArray kind key val fo v := by
  have h1 := one57 enc w base spare held fuel cs y h
  obtain ⟨xs, m, _, _, hlen, hxs, hf⟩ := DataW.trod_struct Try.underlying57 h
  rw [cellsOf57] at hlen
  have hx : ∀ i, i < 5 → ∃ y, xs[i]? = some y := fun i hi => by
    have hl : xs.length = 5 := hxs
    exact ⟨xs[i]'(by omega), List.getElem?_eq_getElem (by omega)⟩
  obtain ⟨y0, e0⟩ := hx 0 (by omega)
  obtain ⟨y1, e1⟩ := hx 1 (by omega)
  obtain ⟨y2, e2⟩ := hx 2 (by omega)
  obtain ⟨y3, e3⟩ := hx 3 (by omega)
  have h0 := hf 0 _ rfl
  have h2 := hf 1 _ rfl
  have h3 := hf 2 _ rfl
  have h4 := hf 3 _ rfl
  rw [e0] at h0; rw [e1] at h2; rw [e2] at h3; rw [e3] at h4
  change DataW.trod enc Try.prog w base spare held m 3 ((cs.drop 0).take (Try.prog.cellsOf 3)) = some y0 at h0
  change DataW.trod enc Try.prog w base spare held m 9 ((cs.drop 1).take (Try.prog.cellsOf 9)) = some y1 at h2
  change DataW.trod enc Try.prog w base spare held m 9 ((cs.drop 2).take (Try.prog.cellsOf 9)) = some y2 at h3
  change DataW.trod enc Try.prog w base spare held m 55 ((cs.drop 3).take (Try.prog.cellsOf 55)) = some y3 at h4
  rw [cellsOf3] at h0
  rw [cellsOf9] at h2 h3
  rw [cellsOf55] at h4
  obtain ⟨a0, z0, _, _⟩ := DataW.trod_int Try.underlying3 h0
  obtain ⟨a1, z1, _, _⟩ := DataW.trod_string Try.underlying9 h2
  obtain ⟨a2, z2, _, _⟩ := DataW.trod_string Try.underlying9 h3
  obtain ⟨us, m3, _, _, hl3, hu3, hf3⟩ := DataW.trod_struct Try.underlying55 h4
  have hy : ∀ i, i < 23 → ∃ y, us[i]? = some y := fun i hi => by
    have hl : us.length = 23 := hu3
    exact ⟨us[i]'(by omega), List.getElem?_eq_getElem (by omega)⟩
  obtain ⟨u0, f0⟩ := hy 21 (by omega)
  obtain ⟨u1, f1⟩ := hy 22 (by omega)
  have g0 := hf3 21 _ rfl
  have g1 := hf3 22 _ rfl
  rw [f0] at g0; rw [f1] at g1
  change DataW.trod enc Try.prog w base spare held m3 4 ((((cs.drop 3).take 26).drop 24).take (Try.prog.cellsOf 4)) = some u0 at g0
  change DataW.trod enc Try.prog w base spare held m3 9 ((((cs.drop 3).take 26).drop 25).take (Try.prog.cellsOf 9)) = some u1 at g1
  rw [cellsOf4] at g0
  rw [cellsOf9] at g1
  obtain ⟨b0, t0, _⟩ := DataW.trod_bool Try.underlying4 g0
  obtain ⟨b1, t1, _, _⟩ := DataW.trod_string Try.underlying9 g1
  have q0 := takeOne t0
  have q1 := takeOne t1
  rw [List.getElem?_take, if_pos (by omega), List.getElem?_drop] at q0 q1
  refine ⟨hlen, a0, a1, a2, b0, b1, ⟨by simpa using hlen, ?_⟩, ?_, ?_, ?_, ?_, ?_⟩
  · rw [Array.all_eq_true]
    intro i hi
    rw [List.getElem_toArray]
    exact h1 _ (List.getElem_mem _)
  · simpa using takeOne z0
  · simpa using takeOne z1
  · simpa using takeOne z2
  · simpa using q0
  · simpa using q1
theorem ops_of {H : Type} {enc : TypeId × Value → H} {w : World} {base : Nat} {spare : Nat → Bool} {held : Bool} {fuel : Nat} {v : Value} {x : DataW H × List MemPlace} (h : DataW.trod enc Try.prog w base spare held fuel 36 [v] = some x) :
    ∃ (A : Option Addr) (n c : Nat), v = .slice A n c ∧ OpsIn w w.heap.size A n := by
  rcases open_slice Try.underlying36 h with ⟨hc, _⟩ | ⟨a, len, cap, m, n, D, Pl, hc, _, hl, hm, hmm, _, hx⟩
  · have e : v = .slice none 0 0 := by simpa using hc
    exact ⟨none, 0, 0, e, fun h => absurd h (by simp)⟩
  · have e : v = .slice (some a) len cap := by simpa using hc
    have hlm : len ≤ m := by rw [hmm]; split <;> omega
    refine ⟨some a, len, cap, e, fun hp => ?_⟩
    have key : ∀ i, i < len → ∃ C kind key val fo v, OpC C kind key val fo v ∧ ∀ (j : Nat) u, C.toList[j]? = some u → w.cell? (a.add (i * 30 + j)) = some u := fun i hi => by
      obtain ⟨cs', h1, h2⟩ := hx i (by omega)
      rw [cellsOf57] at h1
      obtain ⟨_, hlen, hcell⟩ := World.cells?_some h1
      obtain ⟨_, kind, key, val, fo, v, hO⟩ := op_of h2
      refine ⟨cs'.toArray, kind, key, val, fo, v, hO, fun j u hu => ?_⟩
      have hj : j < 30 := by
        have := (List.getElem?_eq_some_iff.1 hu).1
        simp at this
        omega
      have := hcell j hj
      have hu' : cs'[j]? = some u := hu
      rw [hu'] at this
      rw [← this, Go.Deep.add_add]
    obtain ⟨C, kind, ke, val, fo, v', hO, hc0⟩ := key 0 hp
    have h00 := hc0 0 (.int .i64 kind) (by rw [Array.getElem?_toList]; exact hO.2.1)
    obtain ⟨ea, hb⟩ := plainA h00
    refine ⟨a.block, a.off, by rw [← ea], hb, fun i hi => ?_⟩
    obtain ⟨C, kind, ke, val, fo, v', hO, hci⟩ := key i hi
    refine ⟨C, kind, ke, val, fo, v', hO, fun j u hu => ?_⟩
    have := hci j u hu
    rw [ea, Addr.add_lit] at this
    rwa [Nat.add_assoc]
end Go.Proofs.Ytpaihfdmjkfegaa.Cl

/- ClientOwn: what its loop holds, and how it goes on. -/
namespace Go.Proofs.Ytpaihfdmjkfegaa.Cl
open Go.RowKit Go.Lib Go.Maps Go.Proofs.Ytpaihfdmjkfegaa.MapF Go.Proofs.Ytpaihfdmjkfegaa.Msg Go.Proofs.Ytpaihfdmjkfegaa.Ck

theorem size30 : (Try.prog.info? 57).map (·.size) = some 30 := by kernel_rfl
def loadOp (v : Value) : Sem Value := Instr.loadAt 57 v
theorem loadOp_eq (v : Value) : Instr.loadAt 57 v = loadOp v := rfl
theorem run_loadOp {w : World} {b o : Nat} (h : HasN 30 w b o) : (loadOp (.pointer (some ⟨b, o, none⟩))).run Try.prog w = .ok (.agg (valN 30 w b o)) w := by
  have hr := hasN_range h
  have := run_loadAt_mid (P := Try.prog) w b o 57 (valN 30 w b o).toList _ hr.2 Try.underlying57 rfl (size30.trans (by rw [Array.length_toList, hr.1]))
  rw [Array.toArray_toList] at this
  exact this
def storeOp (p v : Value) : Sem Unit := Instr.storeAt 57 p v
theorem storeOp_eq (p v : Value) : Instr.storeAt 57 p v = storeOp p v := rfl
theorem run_storeOp {w : World} {b o : Nat} {C : Array Value} (h : RoomN 30 w b o) (hC : CellsN 30 C) : (storeOp (.pointer (some ⟨b, o, none⟩)) (.agg C)).run Try.prog w = .ok () (putN w b o C) :=
  run_storeAt_mid (P := Try.prog) w b o 57 C (by rw [hC.1]; exact h) (size30.trans (by rw [hC.1])) hC.2

/-- Who was asked. -/
def askC (l : List Int) : Array Value := #[.bool (decide ((0 : Int) ∈ l)), .bool (decide ((1 : Int) ∈ l))]
/-- Where a transaction stands. -/
def HomeAt (t : TxS) : Prop := (t.ks = [] ∧ t.gr = [] ∧ t.home = -1) ∨ (t.ks ≠ [] ∧ t.gr ≠ [] ∧ ∃ k : Nat, k < 2 ∧ t.home = (k : Int))
/-- What the law's loop holds of its client. -/
structure OwnC (w0 : World) (lo p : Nat) (c0 : Client) (ob oc gb gc g q : Nat) (L : List Ent) (sp : List ByteArray) (B1 ab : Nat) (wt : Bool) (i : Nat) (wr : World) (c : Client) (x : TxB) (t : TxS) : Prop where
  cli : CliAt lo wr p c ob oc gb gc g q L (heads L) sp
  waits : c.waits = wt
  vt : c.vt = .pointer (some ⟨x.tb, 0, none⟩)
  D : c.D = c0.D
  seq : 0 ≤ c.seq ∧ c.seq ≤ (i : Int)
  tx : TxAt (fun b => w0.heap.size ≤ b) wr x t
  N : x.N ≤ 3 * i
  xB : x.tb < B1 ∧ x.m1 < B1 ∧ x.m2 < B1 ∧ x.m3 < B1 ∧ x.m4 < B1
  ksl : t.ks.length ≤ i
  grS : t.gr.Pairwise (· < ·)
  grI : ∀ y ∈ t.gr, y = 0 ∨ y = 1
  home : HomeAt t
  asked : Blk wr ab 48 (askC t.gr)
  K0 : Chg (fun b => b = p ∨ b = gb) w0 wr

section
variable {w0 : World} {lo p : Nat} {c0 : Client} {ob oc gb gc g q : Nat} {L : List Ent} {sp : List ByteArray} {B1 ab : Nat} {wt : Bool} {i : Nat} {wr w' : World} {c : Client} {x : TxB} {t : TxS}
theorem OwnC.keep (h : OwnC w0 lo p c0 ob oc gb gc g q L sp B1 ab wt i wr c x t) (k : Below wr.heap.size wr w') : OwnC w0 lo p c0 ob oc gb gc g q L sp B1 ab wt i w' c x t :=
  ⟨h.cli.keep k, h.waits, h.vt, h.D, h.seq, h.tx.keep k, h.N, h.xB, h.ksl, h.grS, h.grI, h.home, h.asked.below k h.asked.lt, h.K0.then k⟩
theorem OwnC.more (h : OwnC w0 lo p c0 ob oc gb gc g q L sp B1 ab wt i wr c x t) {j : Nat} (hj : i ≤ j) : OwnC w0 lo p c0 ob oc gb gc g q L sp B1 ab wt j wr c x t :=
  ⟨h.cli, h.waits, h.vt, h.D, ⟨h.seq.1, by have := h.seq.2; omega⟩, h.tx, by have := h.N; omega, h.xB, by have := h.ksl; omega, h.grS, h.grI, h.home, h.asked, h.K0⟩
theorem ins_len (l : List ByteArray) (k : ByteArray) : (ins l k).length ≤ l.length + 1 := by
  unfold ins
  split
  · omega
  · rw [List.length_append]; exact Nat.le_refl _
theorem ins_ne (l : List ByteArray) (k : ByteArray) : ins l k ≠ [] := fun e => by
  have := (mem_ins (l := l) (k := k) (x := k)).2 (.inr rfl)
  rw [e] at this
  cases this
/-- A block of the law's own is changed. -/
theorem OwnC.apart (h0 : CliAt lo w0 p c0 ob oc gb gc g q L (heads L) sp) (hB : w0.heap.size ≤ B1) (h : OwnC w0 lo p c0 ob oc gb gc g q L sp B1 ab wt i wr c x t) {b : Nat} (k : Chg (fun j => j = b) wr w') (hb : B1 ≤ b) (hab : b ≠ ab) (hv : x.vs.ownBlock ≠ some b) : OwnC w0 lo p c0 ob oc gb gc g q L sp B1 ab wt i w' c x t := by
  have hc := CliAt.move h0 h.cli h.K0 k (fun j _ e => .inr (by omega)) (h.cli.cl.chg k (fun e => by have := h0.cl.blk.lt; omega)) rfl rfl h.D
  exact ⟨hc.1, h.waits, h.vt, h.D, h.seq, h.tx.apart k hb h.xB hv, h.N, h.xB, h.ksl, h.grS, h.grI, h.home, h.asked.chg k (Ne.symm hab), hc.2⟩
/-- A map of the law's own is as it was behind a call. -/
theorem map_kept {t' : TypeId} {κ α : Type} {M : MapTy Try.prog t' κ α} {b n : Nat} {f : κ → Option α} {S : Nat → Prop} (hF : IsF M wr b n f) (hT : TxAt (fun b => w0.heap.size ≤ b) wr x t) (k : Chg S wr w') (hb : B1 ≤ b) (hS : ∀ j, S j → j < B1 ∨ x.vs.ownBlock = some j) : IsF M w' b n f :=
  isF_same hF (k.block b hF.lt (fun e => by
    rcases hS b e with e | e
    · omega
    · exact own_ne_map hT.gr hF.isMp e))
theorem blk_kept {b : Nat} {ty : TypeId} {C : Array Value} {S : Nat → Prop} (hC : Blk wr b ty C) (hy : ty ≠ 3) (hT : TxAt (fun b => w0.heap.size ≤ b) wr x t) (k : Chg S wr w') (hb : B1 ≤ b) (hS : ∀ j, S j → j < B1 ∨ x.vs.ownBlock = some j) : Blk w' b ty C :=
  hC.chg k (fun e => by
    rcases hS b e with e | e
    · omega
    · exact own_blk_ne hT.gr hC (Ne.symm hy) e)

/-- A call that was answered at once. -/
theorem OwnC.done (h0 : CliAt lo w0 p c0 ob oc gb gc g q L (heads L) sp) (hab : B1 ≤ ab) (h : OwnC w0 lo p c0 ob oc gb gc g q L sp B1 ab wt i wr c x t) {kd : Int} {key val : ByteArray} {ac : ActV} {t' : TxS} {n : Nat} (hd : DoneR kd key val t t' ac) (hn : n ≤ x.N + 1) (ht : TxAt (fun b => w0.heap.size ≤ b) w' { x with N := n } t') (hc : Chg (fun b => b = x.m2 ∨ b = x.m4) wr w') :
    OwnC w0 lo p c0 ob oc gb gc g q L sp B1 ab wt (i + 1) w' c { x with N := n } t' := by
  have hx := h.xB
  have e : t'.home = t.home ∧ t'.gr = t.gr ∧ t'.ks = t.ks := by
    rcases hd with ⟨_, rfl, _⟩ | ⟨_, _, rfl⟩
    · exact ⟨rfl, rfl, rfl⟩
    · exact ⟨rfl, rfl, rfl⟩
  have inA := h.tx.inA
  have p0 := h0.cl.blk.lt
  have hm := CliAt.move h0 h.cli h.K0 hc (fun j _ e => .inr (by rcases e with rfl | rfl; exact inA.2.2.1; exact inA.2.2.2.2)) (h.cli.cl.chg hc (fun e => by omega)) rfl rfl h.D
  refine ⟨hm.1, h.waits, h.vt, h.D, ⟨h.seq.1, by have := h.seq.2; omega⟩, ht, ?_, hx, ?_, ?_, ?_, ?_, ?_, hm.2⟩
  · have := h.N
    show n ≤ _
    omega
  · rw [e.2.2]; have := h.ksl; omega
  · rw [e.2.1]; exact h.grS
  · rw [e.2.1]; exact h.grI
  · unfold HomeAt; rw [e.1, e.2.1, e.2.2]; exact h.home
  · rw [e.2.1]; exact h.asked.chg hc (fun e => by omega)

/-- A call that asks, and the note of whom it asked. -/
theorem OwnC.ask (h0 : CliAt lo w0 p c0 ob oc gb gc g q L (heads L) sp) (hab : B1 ≤ ab) (hg2 : g = 2) (h : OwnC w0 lo p c0 ob oc gb gc g q L sp B1 ab false i wr c x t) {ac : ActV} {mode : Int} {b k nd : Nat} {vs : Value} {gr : List Int} {hm : Int} (hl : LockG lo p c ob oc gb gc g q L (heads L) sp w0 x t ac mode wr w' b k nd vs gr hm) :
    OwnC w0 lo p c0 ob oc gb gc g q L sp B1 ab true (i + 1) (w'.setCell ⟨ab, k, none⟩ (.bool true)) { c with seq := c.seq + 1, waits := true, hinted := false, grp := k, M := reqM (lockM hm mode ac.key) (c.seq + 1) t.n t.c c.num, act := ac } { x with vs := vs, N := x.N + 1 } { t with home := hm, gr := gr, ks := ins t.ks ac.key } := by
  have hx := h.xB
  have inA := h.tx.inA
  have p0 := h0.cl.blk.lt
  have gb0 : gb < w0.heap.size := by obtain ⟨cur, q1, _⟩ := h0.guess; exact q1.lt
  have ovA := h.tx.grA
  have K1 : Chg (fun b => b = p ∨ b = gb) w0 w' := h.K0.trans hl.chg (fun j hj e => by
    rcases e with e | e | e | e
    · exact .inl e
    · omega
    · omega
    · have := ovA j e; omega)
  have kk : k < 2 := by have := hl.hk; omega
  have ask0 : Blk w' ab 48 (askC t.gr) := blk_kept (B1 := B1) h.asked (by decide) h.tx hl.chg hab (fun j e => by
    rcases e with e | e | e | e
    · exact .inl (by omega)
    · exact .inl (by omega)
    · exact .inl (by omega)
    · exact .inr e)
  have K2 : Chg (fun j => j = ab) w' (w'.setCell ⟨ab, k, none⟩ (.bool true)) := Chg.set (S := fun j => j = ab) (Chg.refl _ w') (p := ⟨ab, k, none⟩) (.inr rfl) _
  have hmv := CliAt.move h0 hl.cli K1 K2 (fun j _ e => .inr (by omega)) (hl.cli.cl.chg K2 (fun e => by omega)) rfl rfl h.D
  have nvs : vs.ownBlock ≠ some ab := own_blk_ne hl.tx.gr ask0 (by decide)
  have grI : ∀ y ∈ gr, y = 0 ∨ y = 1 := fun y hy => by
    rcases (hl.grM y).1 hy with e | e
    · exact h.grI y e
    · omega
  refine ⟨hmv.1, rfl, h.vt, h.D, ⟨by have := h.seq.1; show 0 ≤ c.seq + 1; omega, by have := h.seq.2; show c.seq + 1 ≤ _; omega⟩, hl.tx.apart K2 hab hx nvs, by have := h.N; show x.N + 1 ≤ _; omega, hx, ?_, hl.grS, grI, ?_, ?_, hmv.2⟩
  · have := ins_len t.ks ac.key
    have := h.ksl
    show (ins t.ks ac.key).length ≤ _
    omega
  · refine .inr ⟨ins_ne _ _, fun e => ?_, ?_⟩
    · have := (hl.grM (k : Int)).2 (.inr rfl)
      rw [show gr = [] from e] at this
      cases this
    · rcases h.home with ⟨_, _, e⟩ | ⟨_, _, k', hk', e⟩
      · exact ⟨k, kk, by show hm = _; rw [hl.hmI, if_pos (by omega)]⟩
      · exact ⟨k', hk', by show hm = _; rw [hl.hmI, if_neg (by omega)]; exact e⟩
  · have e : askC gr = (askC t.gr).setIfInBounds k (.bool true) := by
      have m0 := hl.grM 0
      have m1 := hl.grM 1
      unfold askC
      obtain rfl | rfl : k = 0 ∨ k = 1 := by omega
      · rw [show decide ((0 : Int) ∈ gr) = true from decide_eq_true (m0.2 (.inr rfl)), show decide ((1 : Int) ∈ gr) = decide ((1 : Int) ∈ t.gr) from decide_eq_decide.2 ⟨fun h => by rcases m1.1 h with h | h; exact h; exact absurd h (by decide), fun h => m1.2 (.inl h)⟩]
        rfl
      · rw [show decide ((1 : Int) ∈ gr) = true from decide_eq_true (m1.2 (.inr rfl)), show decide ((0 : Int) ∈ gr) = decide ((0 : Int) ∈ t.gr) from decide_eq_decide.2 ⟨fun h => by rcases m0.1 h with h | h; exact h; exact absurd h (by decide), fun h => m0.2 (.inl h)⟩]
        rfl
    show Blk _ ab 48 (askC gr)
    rw [e]
    exact ask0.set_ k _
/-- Take, at what was asked. -/
theorem OwnC.took (h0 : CliAt lo w0 p c0 ob oc gb gc g q L (heads L) sp) (hab : B1 ≤ ab) (h : OwnC w0 lo p c0 ob oc gb gc g q L sp B1 ab true i wr c x t) {t' : TxS} (e : t'.home = t.home ∧ t'.gr = t.gr ∧ t'.ks = t.ks) {n : Int} (hcl : ClAt w' p { c with waits := false, cnt := n }) (ht : TxAt (fun b => w0.heap.size ≤ b) w' { x with N := x.N + 1 } t') (hN : x.N + 1 ≤ 3 * i) (hc : Chg (fun b => b = p ∨ b = x.m2 ∨ b = x.m3 ∨ b = x.m4) wr w') :
    OwnC w0 lo p c0 ob oc gb gc g q L sp B1 ab false i w' { c with waits := false, cnt := n } { x with N := x.N + 1 } t' := by
  have hx := h.xB
  have inA := h.tx.inA
  have p0 := h0.cl.blk.lt
  have hm := CliAt.move h0 h.cli h.K0 hc (fun j _ e => by
    rcases e with e | e | e | e
    · exact .inl e
    · exact .inr (by rw [e]; exact inA.2.2.1)
    · exact .inr (by rw [e]; exact inA.2.2.2.1)
    · exact .inr (by rw [e]; exact inA.2.2.2.2)) hcl rfl rfl h.D
  refine ⟨hm.1, rfl, h.vt, h.D, h.seq, ht, hN, hx, ?_, ?_, ?_, ?_, ?_, hm.2⟩
  · rw [e.2.2]; exact h.ksl
  · rw [e.2.1]; exact h.grS
  · rw [e.2.1]; exact h.grI
  · unfold HomeAt; rw [e.1, e.2.1, e.2.2]; exact h.home
  · rw [e.2.1]; exact h.asked.chg hc (fun e => by omega)
end

/-- The values that are told agree. -/
def ReadR (fr : ByteArray → Option ActV) (t : TxS) : Prop := ∀ k, (fr k).map (fun r => (r.found, r.value)) = (t.rd k).map (fun y => (y.1, y.2.1))
theorem ReadR.upd {fr : ByteArray → Option ActV} {t t' : TxS} (h : ReadR fr t) {key : ByteArray} {ac : ActV} {st : Int} (e : t'.rd = upd t.rd key (some (ac.found, ac.value, st))) : ReadR (upd fr key (some ac)) t' := fun k => by
  rw [e]
  unfold MapF.upd
  split
  · rfl
  · exact h k
theorem chk_parts0 : newErr 0 4 (chk 2 1 4 64 [⟨#[109]⟩] []) = 0 := by
  have h1 : rangeB 2 1 4 64 1 = true := by decide
  have h2 : dirErr [⟨#[109]⟩] = 0 := by
    simp [dirErr, dirE, keyB]
    decide
  simp [newErr, chk, h1, h2]
/-- A transaction that has begun. -/
theorem Begun.txAt0 {p : Nat} {c : Client} {w0 w' : World} {tb m1 m2 m3 m4 : Nat} (h : Begun p c w0 w' tb m1 m2 m3 m4) : TxAt (fun b => w0.heap.size ≤ b) w' ⟨tb, m1, m2, m3, m4, .slice none 0 0, 0⟩ ⟨c.cnt + 1, c.num, -1, [], [], [], fun _ => none, fun _ => none, []⟩ := by
  have T := h.tx
  have n := h.new
  have e0 : (fun _ => none) = setF [] := by funext y; rw [setF_none]
  refine ⟨T.blk, World.ownsRow_nil _ _ _ _, fun b hb => (by cases hb), ?_, ?_, Nil.isF T.k3, Nil.isF T.k4, h.ne, n, ⟨List.nodup_nil, fun k hk => (nomatch hk)⟩, ⟨List.nodup_nil, fun k hk => (nomatch hk), fun k => by simp, fun k y hy => (nomatch hy)⟩⟩
  · show IsF mB w' m1 0 (setF [])
    rw [← e0]
    exact Nil.isF T.k1
  · show IsF mB w' m2 0 (setF [])
    rw [← e0]
    exact Nil.isF T.k2
theorem LockG.keep {lo p : Nat} {c : Client} {ob oc gb gc g q : Nat} {L : List Ent} {gs : List Nat} {sp : List ByteArray} {w0 : World} {x : TxB} {t : TxS} {a : ActV} {mode : Int} {w w' w'' : World} {b k nd : Nat} {vs : Value} {gr : List Int} {hm : Int} (h : LockG lo p c ob oc gb gc g q L gs sp w0 x t a mode w w' b k nd vs gr hm) (kk : Below w'.heap.size w' w'') :
    LockG lo p c ob oc gb gc g q L gs sp w0 x t a mode w w'' b k nd vs gr hm :=
  ⟨h.hk, h.hx, h.hb, h.hmI, h.msg.below kk h.msg.lt, h.cli.keep kk, h.tx.keep kk, h.grS, h.grM, h.vsB, h.chg.then kk⟩
/-- What is known where a call of the law's loop is done. -/
structure Mid (w0 : World) (lo p : Nat) (c0 : Client) (ob oc gb gc g q : Nat) (L : List Ent) (sp : List ByteArray) (B1 ab bw br b9 b12 : Nat) (i : Nat) (kd : Int) (key val : ByteArray) (t : TxS) (fr : ByteArray → Option ActV) (O : Array Value) (wr : World) (ac : ActV) (c' : Client) (x' : TxB) (t' : TxS) : Prop where
  act : Blk wr b12 43 ac.cs
  step : Step kd key val t t' ac
  own : OwnC w0 lo p c0 ob oc gb gc g q L sp B1 ab false (i + 1) wr c' x' t'
  wrote : IsF mW wr bw i t.la
  read : IsF mA wr br i fr
  op : Blk wr b9 57 O
  ok : okS key
def MidR (w0 : World) (lo p : Nat) (c0 : Client) (ob oc gb gc g q : Nat) (L : List Ent) (sp : List ByteArray) (B1 ab bw br b9 b12 : Nat) (i : Nat) (kd : Int) (key val : ByteArray) (t : TxS) (fr : ByteArray → Option ActV) (O : Array Value) (_v13 : Value) (wr : World) : Prop :=
  ∃ ac c' x' t', Mid w0 lo p c0 ob oc gb gc g q L sp B1 ab bw br b9 b12 i kd key val t fr O wr ac c' x' t'
theorem mod3 (more : Int) : ∃ q : Nat, q < 3 ∧ wrap64 ((IntKind.u64.wrap more).tmod 3) = (q : Int) := by
  have hw : 0 ≤ IntKind.u64.wrap more := by rw [IntKind.wrap_u64]; omega
  have h1 : (IntKind.u64.wrap more).tmod 3 = (IntKind.u64.wrap more) % 3 := Int.tmod_eq_emod_of_nonneg hw
  have h2 := Int.emod_nonneg (IntKind.u64.wrap more) (b := 3) (by omega)
  have h3 := Int.emod_lt_of_pos (IntKind.u64.wrap more) (b := 3) (by omega)
  refine ⟨((IntKind.u64.wrap more) % 3).toNat, by omega, ?_⟩
  rw [h1, IntWalk.wrap64_in _ (by constructor <;> omega)]
  omega
theorem bytes_total : ∀ x y : List UInt8, Op.bytesLess y x = false → x ≠ y → Op.bytesLess x y = true
  | [], [], _, h => absurd rfl h
  | [], _ :: _, _, _ => rfl
  | _ :: _, [], h, _ => by simp [Op.bytesLess] at h
  | a :: x, b :: y, h, hn => by
    simp only [Op.bytesLess, Bool.or_eq_false_iff, Bool.and_eq_false_iff, decide_eq_false_iff_not, beq_eq_false_iff_ne, Bool.or_eq_true, Bool.and_eq_true, decide_eq_true_eq, beq_iff_eq] at h ⊢
    rcases UInt8.lt_or_eq_of_le (UInt8.not_lt.1 h.1) with h1 | h1
    · exact .inl h1
    · subst h1
      refine .inr ⟨rfl, bytes_total x y ?_ (fun e => hn (by rw [e]))⟩
      rcases h.2 with h2 | h2
      · exact absurd rfl h2
      · exact h2
/-- What was laid stands in rising order. -/
theorem Laid.rise {t : TxS} {ws : List WrV} (h : Laid t ws) (hn : t.ls.Nodup) {i j : Nat} {y z : WrV} (hi : ws[i]? = some y) (hj : ws[j]? = some z) (hij : i < j) : Op.bytesLess y.1.toList z.1.toList = true := by
  obtain ⟨q1, q2⟩ := List.getElem?_eq_some_iff.1 hi
  obtain ⟨q3, q4⟩ := List.getElem?_eq_some_iff.1 hj
  have h1 := (List.pairwise_iff_getElem.1 h.2.2) i j q1 q3 hij
  rw [q2, q4] at h1
  refine bytes_total _ _ h1 (fun e => ?_)
  have nd : (ws.map (·.1)).Nodup := h.1.nodup_iff.2 hn
  have h2 := (List.pairwise_iff_getElem.1 nd) i j (by rw [List.length_map]; exact q1) (by rw [List.length_map]; exact q3) hij
  rw [List.getElem_map, List.getElem_map, q2, q4] at h2
  refine h2 ?_
  rw [ByteArray.toList_eq, ByteArray.toList_eq] at e
  obtain ⟨⟨⟨a⟩⟩, _⟩ := y
  obtain ⟨⟨⟨b⟩⟩, _⟩ := z
  have e2 : a = b := e
  rw [e2]
theorem mW_size {w : World} {b n : Nat} {f : ByteArray → Option WrV} (h : IsF mW w b n f) (ss : List ByteArray) (hn : ss.Nodup) (hss : ∀ x ∈ ss, okS x) (hs : ∀ x, x ∈ ss ↔ (f x).isSome = true) : ss.length ≤ n := by
  have h1 := isF_len (M := mW) (fun _ => rfl) (fun _ => Iff.rfl) h ss hn hss hs Try.underlying46 3
  obtain ⟨D, h2, _⟩ := h
  have h3 := h2.len Try.underlying46 3
  rw [h1] at h3
  simp only [Result.ok.injEq, Value.int.injEq, and_true, true_and] at h3
  have := h2.size_le
  omega
/-- The groups that were asked, of the first so many. -/
def preG (b0 b1 : Bool) (k : Nat) : List Int := (if 0 < k ∧ b0 = true then [0] else []) ++ (if 1 < k ∧ b1 = true then [1] else [])
theorem preG_all {l : List Int} (h : l.Pairwise (· < ·)) (hl : ∀ y ∈ l, y = 0 ∨ y = 1) : l = preG (decide ((0 : Int) ∈ l)) (decide ((1 : Int) ∈ l)) 2 := by
  rcases gr_cases h hl with rfl | rfl | rfl | rfl <;> rfl
theorem preG_len (b0 b1 : Bool) (k : Nat) : (preG b0 b1 k).length ≤ 2 := by
  unfold preG
  rw [List.length_append]
  split <;> split <;> simp
theorem preG_no {b0 b1 b : Bool} {k : Nat} (h : k = 0 ∧ b = b0 ∨ k = 1 ∧ b = b1) (hb : b = false) : preG b0 b1 (k + 1) = preG b0 b1 k := by
  rcases h with ⟨rfl, rfl⟩ | ⟨rfl, rfl⟩ <;> subst hb <;> simp [preG]
theorem preG_yes {b0 b1 b : Bool} {k : Nat} (h : k = 0 ∧ b = b0 ∨ k = 1 ∧ b = b1) (hb : b = true) : preG b0 b1 (k + 1) = preG b0 b1 k ++ [(k : Int)] := by
  rcases h with ⟨rfl, rfl⟩ | ⟨rfl, rfl⟩ <;> subst hb <;> simp [preG]
end Go.Proofs.Ytpaihfdmjkfegaa.Cl
