/- The law ClientPokes, walked. -/
import Derived.Test.YtpaihfdmjkfegaaCpT
import Derived.Test.YtpaihfdmjkfegaaCkH
namespace Go.Proofs.Ytpaihfdmjkfegaa.Cl
open Go.RowKit Go.Lib Go.Maps Go.Proofs.Ytpaihfdmjkfegaa.MapF Go.Proofs.Ytpaihfdmjkfegaa.Msg Go.Proofs.Ytpaihfdmjkfegaa.Ck Go.Proofs.Ytpaihfdmjkfegaa.Sta Go.Proofs.Ytpaihfdmjkfegaa.Rd

/-! ## Who is asked, turn by turn -/
def turn (r : List Nat) (i : Nat) : Nat := r[i % r.length]?.getD 0
theorem turn_some {r : List Nat} (h : 0 < r.length) (i : Nat) : r[i % r.length]? = some (turn r i) := by
  unfold turn
  rw [List.getElem?_eq_getElem (Nat.mod_lt _ h)]
  rfl
theorem turn_inj {r : List Nat} {q : Nat} (hp : r.Perm (List.range q)) (h0 : 0 < r.length) {i j : Nat} (h : turn r i = turn r j) : i % r.length = j % r.length := by
  have hn : r.Nodup := hp.nodup_iff.2 List.nodup_range
  have h1 := turn_some h0 i
  have h2 := turn_some h0 j
  rw [h, ← h2] at h1
  have hi := Nat.mod_lt i h0
  have hj := Nat.mod_lt j h0
  rw [List.getElem?_eq_getElem hi, List.getElem?_eq_getElem hj] at h1
  have h3 := Option.some.inj h1
  rcases Nat.lt_trichotomy (i % r.length) (j % r.length) with e | e | e
  · exact absurd h3 ((List.pairwise_iff_getElem.1 hn) _ _ hi hj e)
  · exact e
  · exact absurd h3.symm ((List.pairwise_iff_getElem.1 hn) _ _ hj hi e)
theorem turn_lt {r : List Nat} {q : Nat} (hp : r.Perm (List.range q)) (h0 : 0 < r.length) (i : Nat) : turn r i < q :=
  List.mem_range.1 (hp.mem_iff.1 (List.mem_of_getElem? (turn_some h0 i)))
theorem turn_next {r : List Nat} {q : Nat} (hp : r.Perm (List.range q)) (h0 : 0 < r.length) (i : Nat) : nextOf r (turn r i) = turn r (i + 1) := by
  have hn : r.Nodup := hp.nodup_iff.2 List.nodup_range
  have hm := Nat.mod_lt i h0
  have e : r.idxOf (turn r i) = i % r.length := by
    have h1 := turn_some h0 i
    rw [List.getElem?_eq_getElem hm] at h1
    have h2 : turn r i = r[i % r.length] := (Option.some.inj h1).symm
    rw [h2]
    exact List.Nodup.idxOf_getElem hn _ hm
  unfold nextOf turn
  rw [← show turn r i = r[i % r.length]?.getD 0 from rfl, e]
  congr 2
  rw [Nat.add_mod, Nat.mod_mod, ← Nat.add_mod]
open Classical in
/-- Who has been asked, behind so many turns. -/
noncomputable def askF (r : List Nat) (i : Nat) : Int → Option Int := fun z => if ∃ j, j < i ∧ z = (turn r (j + 1) : Nat) then some 1 else none
theorem askF_zero (r : List Nat) : askF r 0 = fun _ => none := by
  funext z
  unfold askF
  rw [if_neg (fun ⟨j, hj, _⟩ => absurd hj (Nat.not_lt_zero j))]
theorem askF_fresh {r : List Nat} {q : Nat} (hp : r.Perm (List.range q)) (h0 : 0 < r.length) {i : Nat} (hi : i < r.length) : askF r i (turn r (i + 1) : Nat) = none := by
  unfold askF
  rw [if_neg]
  rintro ⟨j, hj, e⟩
  have e1 := turn_inj hp h0 (i := i + 1) (j := j + 1) (by omega)
  rcases Nat.lt_or_ge (i + 1) r.length with h | h
  · rw [Nat.mod_eq_of_lt h, Nat.mod_eq_of_lt (by omega)] at e1
    omega
  · have : i + 1 = r.length := by omega
    rw [this, Nat.mod_self, Nat.mod_eq_of_lt (by omega)] at e1
    omega
theorem askF_step (r : List Nat) (i : Nat) : upd (askF r i) (turn r (i + 1) : Nat) (some 1) = askF r (i + 1) := by
  funext z
  unfold upd askF
  by_cases h : z = (turn r (i + 1) : Nat)
  · rw [if_pos h, if_pos ⟨i, by omega, h⟩]
  · rw [if_neg h]
    by_cases h2 : ∃ j, j < i ∧ z = (turn r (j + 1) : Nat)
    · obtain ⟨j, h3, h4⟩ := h2
      rw [if_pos ⟨j, h3, h4⟩, if_pos ⟨j, by omega, h4⟩]
    · rw [if_neg h2, if_neg]
      rintro ⟨j, h3, h4⟩
      rcases Nat.lt_or_ge j i with h5 | h5
      · exact h2 ⟨j, h5, h4⟩
      · exact h ((show j = i by omega) ▸ h4)
theorem askF_full {r : List Nat} {q : Nat} (hp : r.Perm (List.range q)) (h0 : 0 < r.length) {z : Nat} (hz : z < q) : askF r r.length (z : Int) = some 1 := by
  unfold askF
  have hm : z ∈ r := hp.mem_iff.2 (List.mem_range.2 hz)
  obtain ⟨t, ht, e⟩ := List.mem_iff_getElem.1 hm
  rw [if_pos]
  rcases Nat.eq_zero_or_pos t with h | h
  · refine ⟨r.length - 1, by omega, ?_⟩
    have := turn_some h0 (r.length - 1 + 1)
    rw [show r.length - 1 + 1 = r.length by omega, Nat.mod_self] at this
    rw [show r.length - 1 + 1 = r.length by omega]
    subst h
    rw [List.getElem?_eq_getElem ht, e] at this
    have := Option.some.inj this
    omega
  · refine ⟨t - 1, by omega, ?_⟩
    have := turn_some h0 (t - 1 + 1)
    rw [show t - 1 + 1 = t by omega, Nat.mod_eq_of_lt ht, List.getElem?_eq_getElem ht, e] at this
    have := Option.some.inj this
    rw [show t - 1 + 1 = t by omega]
    omega
theorem head_turn (r : List Nat) : r.headD 0 = turn r 0 := by
  unfold turn
  rw [Nat.zero_mod]
  cases r <;> rfl

/-- map[int]int. -/
def mI : MapTy Try.prog 3 Int Int where
  kv a := .int .i64 a
  kl a := .int .i64 a
  ev a := .int .i64 a
  ed a := .lit (.int .i64 a)
  ok a := (Lit.int .i64 a).wf = true
  law := int_keyed Try.underlying3
  hkey _ h := keyOf_int_mk Try.underlying3 h
  kinj _ _ h := by cases h; rfl
  einj a b h := by injection h with h; injection h
  vinj a b h := by injection h
theorem zero3 (w : World) : (zeroValue 3).run Try.prog w = .ok (mI.ev 0) w := by kernel_rfl
theorem mI_ok (x : Nat) (h : x < 100) : mI.ok (x : Int) := by
  show (Lit.int .i64 (x : Int)).wf = true
  have h1 : IntKind.i64.min = -9223372036854775808 := by decide
  have h2 : IntKind.i64.max = 9223372036854775807 := by decide
  simp only [Lit.wf, h1, h2, Bool.and_eq_true, decide_eq_true_eq]
  omega
theorem chk_ok {G F C S : Int} {sp : List ByteArray} {pl : List Int} {number : Int} (h : newErr number C (chk G F C S sp pl) = 0) : (sp.length : Int) = G - 1 ∧ 0 ≤ number ∧ number < 16 ∧ 0 ≤ F ∧ F ≤ 2 := by
  unfold newErr at h
  split at h
  · exact absurd h (by assumption)
  · rename_i h0
    have h0 : chk G F C S sp pl = 0 := Classical.not_not.1 h0
    have hr : rangeB G F C S sp.length = true := by
      unfold chk at h0
      split at h0
      · cases h0
      · rename_i h1; simpa using h1
    unfold rangeB within at hr
    simp only [Bool.and_eq_true, decide_eq_true_eq] at hr
    split at h
    · cases h
    · omega

attribute [local go_sem ↓] loadAct_eq storeAct_eq
attribute [local go_sem] run_loadAct run_storeAct

def PokeR (lo p : Nat) (c : Client) (ob oc gb gc g q : Nat) (L : List Ent) (sp : List ByteArray) (k : Nat) (r : List Nat) (sb : Nat) (W : World) (gk : Nat) (v16 : Value) (wr : World) : Prop :=
  ∃ i : Nat, q - i = gk ∧ i ≤ q ∧ v16 = .int .i64 (i : Int) ∧ CliAt lo wr p c ob oc gb gc g q L ((heads L).set k (turn r i)) sp ∧ IsF mI wr sb i (askF r i) ∧ Chg (fun b => b = p ∨ b = gb ∨ b = sb) W wr
theorem set_same {l : List Nat} {k x : Nat} (h : l[k]? = some x) : l.set k x = l := by
  apply List.ext_getElem?
  intro j
  rw [List.getElem?_set]
  split
  · rename_i e
    subst e
    rw [h, if_pos (List.getElem?_eq_some_iff.1 h).1]
  · rfl
theorem unhint {c : Client} (h : c.hinted = false) : { c with hinted := false } = c := by
  cases c
  simp only at h
  subst h
  rfl
theorem modq (more : Int) (r : Nat) (h0 : 0 < r) (h : r ≤ 256) : ∃ q : Nat, q < r ∧ wrap64 ((IntKind.u64.wrap more).tmod (r : Int)) = (q : Int) := by
  have hw : 0 ≤ IntKind.u64.wrap more := by rw [IntKind.wrap_u64]; omega
  have h1 : (IntKind.u64.wrap more).tmod (r : Int) = (IntKind.u64.wrap more) % (r : Int) := Int.tmod_eq_emod_of_nonneg hw
  have h2 := Int.emod_nonneg (IntKind.u64.wrap more) (b := (r : Int)) (by omega)
  have h3 := Int.emod_lt_of_pos (IntKind.u64.wrap more) (b := (r : Int)) (by omega)
  refine ⟨((IntKind.u64.wrap more) % (r : Int)).toNat, by omega, ?_⟩
  rw [h1, IntWalk.wrap64_in _ (by constructor <;> omega)]
  omega
theorem CliAt.far {lo : Nat} {w w9 w10 : World} {p ab : Nat} {c0 c : Client} {ob oc gb gc g q : Nat} {L : List Ent} {gs0 gs : List Nat} {sp : List ByteArray} (h0 : CliAt lo w p c0 ob oc gb gc g q L gs0 sp) (h : CliAt lo w9 p c ob oc gb gc g q L gs sp) (K : Chg (fun b => b = p ∨ b = gb) w w9) (hD : c.D = c0.D)
    (hab : w.heap.size ≤ ab) (k : Chg (fun j => j = ab) w9 w10) : CliAt lo w10 p c ob oc gb gc g q L gs sp := by
  have h1 := h0.cl.blk.lt
  obtain ⟨cur, h2, _⟩ := h0.guess
  have h3 := h2.lt
  refine h0.to (K.trans k (fun j hj e => by omega)) ⟨h.cl.blk.chg k (by omega), h.cl.msg⟩ (h.vo.trans h0.vo.symm) (h.vg.trans h0.vg.symm) hD h.lenG ?_
  obtain ⟨cur', h4, h5⟩ := h.guess
  exact ⟨cur', h4.chg k (by omega), h5⟩
def TakR (lo p : Nat) (c : Client) (ob oc gb gc g q : Nat) (L : List Ent) (gs : List Nat) (sp : List ByteArray) (k t : Nat) (W : World) (v19 v20 : Value) (wr : World) : Prop :=
  ∃ ab, v19 = .pointer (some ⟨ab, 0, none⟩) ∧ v20 = .bool false ∧ W.heap.size ≤ ab ∧ Blk wr ab 43 zeroAct.cs ∧ CliAt lo wr p { c with hinted := true } ob oc gb gc g q L (gs.set k t) sp ∧ Chg (fun b => b = p ∨ b = gb) W wr
set_option maxRecDepth 100000 in
set_option maxHeartbeats 4000000 in
theorem pokes_walk (number G F C S : Int) (sp : List ByteArray) (pl : List Int) (A1 A2 : Option Addr) (c1 c2 : Nat) (key : ByteArray) (hint : Int) (w : World) (h1 : RowIn w w.heap.size A1 (sp.map sV)) (h2 : IntsIn w w.heap.size A2 pl) (hs : sp.length ≤ maxLen ∧ sp.length * 16 ≤ 140737488355328) (hp : pl.length ≤ maxLen ∧ pl.length * 8 ≤ 140737488355328) :
    Calls Try.prog 6 #[cfgV G F C (.slice A1 sp.length c1) (.slice A2 pl.length c2) S, .int .i64 number, .string key, .int .i64 hint] w fun e w' => e = .returned (.bool true) ∧ Below w.heap.size w w' := by
  have WK := Lib.hid works_any
  have CPY := Lib.hid (fun v (hv : Below w.heap.size w v) => copied_any G F C S sp pl A1 A2 c1 c2 v ((h1.below hv).more hv.size) ((h2.below hv).more hv.size) hs hp)
  have NW := Lib.hid (fun A1 A2 c1 c2 w h1 h2 hc => clientNew_whole number G F C S sp pl A1 A2 c1 c2 w h1 h2 hc)
  obtain ⟨er, her⟩ : ∃ er, er = newErr number C (chk G F C S sp pl) := ⟨_, rfl⟩
  obtain ⟨n2, hn2⟩ : ∃ n, n = pl.length := ⟨_, rfl⟩
  obtain ⟨n1, hn1⟩ : ∃ m, m = sp.length := ⟨_, rfl⟩
  rw [← her, ← hn1, ← hn2] at NW
  rw [← hn1, ← hn2] at CPY
  rw [← hn1, ← hn2]
  have HER := Lib.hid her
  clear her hn1 hn2 h1 h2 hs hp
  unfold cfgV at CPY NW ⊢
  go_enter Try.func6, Try.ntmps6
  go_upto_region 1 with (fail)
  refine Msg.world_out (fun W hW => ?_)
  obtain ⟨b0, hb0⟩ : ∃ b, b = w.heap.size := ⟨_, rfl⟩
  have BW : Hid (Below w.heap.size w W) := Lib.hid (by rw [hW]; exact (Below.refl _ _).alloc (Nat.le_refl _) _)
  have A0 : Hid (Blk W b0 25 #[.int .i64 G, .int .i64 F, .int .i64 C, .slice A1 n1 c1, .slice A2 n2 c2, .int .i64 S]) := Lib.hid (by rw [hW, hb0]; exact Blk.new w 25 _)
  have hb0' : w.heap.size ≤ b0 := by omega
  rw [← hb0]
  clear hW hb0
  go_upto_region 3 with (go_at_call 12; go_loud (refine (WK.out _).mono ?_; rintro e w1 ⟨rfl, hB⟩; have B1 := Lib.hid hB; clear hB))
  have X1 : Hid (Below w.heap.size w w1) := Lib.hid (BW.out.trans (B1.out.mono BW.out.size))
  have A1' := Lib.hid (A0.out.below B1.out A0.out.lt)
  have q0 := A1'.out.cell 0
  have q1 := A1'.out.cell 1
  have q2 := A1'.out.cell 2
  have q3 := A1'.out.cell 3
  have q4 := A1'.out.cell 4
  have q5 := A1'.out.cell 5
  go_upto_region 4 with (first
    | (go_at_call 7; go_loud (refine (CPY.out _ X1.out).mono ?_; rintro e w2 ⟨D1, d1, D2, d2, rfl, r1, r2, r3, r4⟩; have R2 := Lib.hid (And.intro r1 (And.intro r2 (And.intro r3 r4))); clear r1 r2 r3 r4))
    | (go_at_call 8; go_loud (refine (NW.out D1 D2 d1 d2 w2 R2.out.1 R2.out.2.1 R2.out.2.2.1).mono ?_; rintro e w3 ⟨P, rfl, r1, r2, r3⟩; have R3 := Lib.hid (And.intro r1 (And.intro r2 r3)); clear r1 r2 r3)))
  have K3 : Hid (Below w.heap.size w w3) := Lib.hid (by
    have s1 := X1.out.size
    have s2 := R2.out.2.2.2.size
    exact X1.out.trans ((R2.out.2.2.2.trans (R3.out.2.2.mono s2)).mono s1))
  have A3 : Hid (Blk w3 b0 25 #[.int .i64 G, .int .i64 F, .int .i64 C, .slice A1 n1 c1, .slice A2 n2 c2, .int .i64 S]) := Lib.hid (by
    have h2 := A1'.out.below R2.out.2.2.2 A1'.out.lt
    exact h2.below R3.out.2.2 h2.lt)
  have hb02 : b0 < w2.heap.size := by have := A1'.out.lt; have := R2.out.2.2.2.size; omega
  clear q0 q1 q2 q3 q4 q5 WK CPY NW
  by_cases he : er = 0
  case neg =>
    obtain rfl : P = none := R3.out.1 he
    clear A3
    go_wp2_with fail
    exact bodyPost_ret (v := .bool true) (by simp [results, Try.results6, go_sem, he]) rfl ⟨rfl, K3.out⟩
  subst he
  obtain ⟨p, rfl, hN⟩ := R3.out.2.1 rfl
  obtain ⟨d, v3, v4, ob, oc, gb, gc, g, q, L, hG, hQ, hb, hC⟩ := hN
  obtain ⟨k1, k2, k3, k4, k5⟩ := chk_ok HER.out.symm
  have C3 := Lib.hid hC
  have hsp : sp.length + 1 = g := by omega
  have HQ : Hid ((q : Int) = 2 * F + 1) := Lib.hid hQ
  clear hC hG hQ
  have ha : 0 ≤ (fresh number (q : Int) d v3 v4).cnt ∧ (fresh number (q : Int) d v3 v4).cnt < 1099511627776 := ⟨Int.le_refl 0, (by decide : (0 : Int) < 1099511627776)⟩
  have hn : 0 ≤ (fresh number (q : Int) d v3 v4).num ∧ (fresh number (q : Int) d v3 v4).num < 16 := ⟨k2, k3⟩
  go_upto_region 7 with (go_at_call 14; go_loud (refine (call_begin p _ ⟨#[]⟩ ⟨#[]⟩ w3 C3.out.cl rfl rfl ha hn).mono ?_; rintro e w4 ⟨tb, m1, m2, m3, m4, rfl, hG⟩; have G4 := Lib.hid hG; clear hG))
  have C4 := Lib.hid (C3.out.begun G4.out)
  have hs : 0 ≤ (fresh number (q : Int) d v3 v4).seq ∧ (fresh number (q : Int) d v3 v4).seq < 1000000 := ⟨Int.le_refl 0, (by decide : (0 : Int) < 1000000)⟩
  have hg8 : g ≤ 8 := hb.2.1
  have A4 : Hid (Blk w4 b0 25 #[.int .i64 G, .int .i64 F, .int .i64 C, .slice A1 n1 c1, .slice A2 n2 c2, .int .i64 S]) := Lib.hid (A3.out.chg G4.out.chg (by have := C3.out.hp; omega))
  have K4 : Hid (Chg (fun b => b = p ∨ b = gb) w3 w4) := Lib.hid (G4.out.chg.more (fun _ _ e => .inl e))
  cases hkey : keyB key with
  | false =>
    have K5 : Hid (Below w.heap.size w w4) := Lib.hid (by
      have s1 := X1.out.size
      have s2 := R2.out.2.2.2.size
      have s3 := C3.out.hp
      have k1 : Chg (fun b => w.heap.size ≤ b) w w3 := Chg.of K3.out
      exact (k1.on (G4.out.chg.more (fun _ _ e => by omega))).below (Nat.le_refl _) (fun _ e => e))
    have zc : CellsN 11 zeroAct.cs := ActV.cells _
    go_upto_region 8 with (go_at_call 14; go_loud (refine (call_read_bad _ p _ ob oc gb gc g q L (heads L) sp tb _ _ m1 m2 m3 m4 key ⟨#[]⟩ w4 C4.out hsp hg8 rfl rfl G4.out.tx hs w3 _ _ C3.out K4.out ⟨rfl, rfl, rfl⟩ G4.out.new ⟨G4.out.ne.1, G4.out.ne.2.1, G4.out.ne.2.2.1⟩ hkey).mono ?_; rintro e w5 ⟨rfl, hB⟩; have B5 := Lib.hid hB; have rn := roomN_new (n := 11) w5 43 #[.int .i64 0, .int .i64 0, .int .i64 0, .int .i64 0, .string ⟨#[]⟩, .string ⟨#[]⟩, .bool false, .int .i64 0, .int .i64 0, .int .i64 0, .int .i64 0] rfl; clear hB))
    refine Msg.world_out (fun W6 hW6 => ?_)
    have K6 : Hid (Below w.heap.size w W6) := Lib.hid (by rw [hW6]; exact (K5.out.trans (B5.out.mono K5.out.size)).trans (putN_below ((Below.refl _ _).alloc (by have := K5.out.size; have := B5.out.size; omega) _) (by have := K5.out.size; have := B5.out.size; omega) 0 _))
    clear hW6 rn
    go_wp2_with fail
    exact bodyPost_ret (v := .bool true) (by simp [results, Try.results6, go_sem]) rfl ⟨rfl, K6.out⟩
  | true =>
    have bc : CellsN 11 (actOf (fresh number (q : Int) d v3 v4).num 2 ((fresh number (q : Int) d v3 v4).cnt + 1) (fresh number (q : Int) d v3 v4).num key).cs := ActV.cells _
    go_upto_region 8 with (go_at_call 14; go_loud (refine (call_read _ p _ ob oc gb gc g q L (heads L) sp tb _ _ m1 m2 m3 m4 key ⟨#[]⟩ w4 C4.out hsp hg8 rfl rfl G4.out.tx hs w3 _ _ C3.out K4.out ⟨rfl, rfl, rfl⟩ G4.out.new ⟨G4.out.ne.1, G4.out.ne.2.1, G4.out.ne.2.2.1⟩ hkey).mono ?_; rintro e w5 ⟨mb, k, x, rfl, hL⟩; have L5 := Lib.hid hL; have rn := roomN_new (n := 11) w5 43 #[.int .i64 0, .int .i64 0, .int .i64 0, .int .i64 0, .string ⟨#[]⟩, .string ⟨#[]⟩, .bool false, .int .i64 0, .int .i64 0, .int .i64 0, .int .i64 0] rfl; clear hL))
    refine Msg.world_out (fun W6 hW6 => ?_)
    obtain ⟨b6, hb6⟩ : ∃ b, b = w5.heap.size := ⟨_, rfl⟩
    rw [← hb6] at hW6 ⊢
    have B6 : Hid (Below w5.heap.size w5 W6) := Lib.hid (by rw [hW6, hb6]; exact putN_below ((Below.refl _ _).alloc (Nat.le_refl _) _) (Nat.le_refl _) 0 _)
    have C6 := Lib.hid (L5.out.cli.keep B6.out)
    have M6 := Lib.hid (L5.out.msg.below B6.out L5.out.msg.lt)
    have hlo := C3.out.hp
    have n4 := G4.out.new
    have s4 := G4.out.chg.size
    have s5 := L5.out.chg.size
    have A6 : Hid (Blk W6 b0 25 #[.int .i64 G, .int .i64 F, .int .i64 C, .slice A1 n1 c1, .slice A2 n2 c2, .int .i64 S]) := Lib.hid ((A4.out.chg L5.out.chg (by have := C3.out.cl.blk.lt; omega)).below B6.out (by have := A4.out.lt; omega))
    have K6 : Hid (Chg (fun b => w.heap.size ≤ b) w W6) := Lib.hid (by
      have s1 := X1.out.size
      have s2 := R2.out.2.2.2.size
      have k1 : Chg (fun b => w.heap.size ≤ b) w w3 := Chg.of K3.out
      have := C3.out.cl.blk.lt
      exact (((k1.on (G4.out.chg.more (fun _ _ e => by omega))).on (L5.out.chg.more (fun _ _ e => by omega))).then B6.out))
    have mbl : mb < W6.heap.size := M6.out.lt
    have mbp : w4.heap.size ≤ mb := L5.out.hb
    have hkg : k < g := L5.out.hk
    have gbl : gb < w3.heap.size := by obtain ⟨cur, r1, _⟩ := C3.out.guess; exact r1.lt
    have pl3 : p < w3.heap.size := C3.out.cl.blk.lt
    have hx := L5.out.hx
    obtain ⟨en, hen⟩ : ∃ e, L[k]? = some e := ⟨_, List.getElem?_eq_getElem (by rw [C3.out.lenL]; exact hkg)⟩
    have HEN := Lib.hid hen
    have HP : Hid (en.r.Perm (List.range q) ∧ en.r.length = q ∧ 0 < en.r.length) := Lib.hid (by
      have := (C3.out.ents en (List.mem_of_getElem? hen)).1.1
      have h2 : en.r.length = q := by rw [this.length_eq, List.length_range]
      exact ⟨this, h2, by omega⟩)
    have hx0 : x = turn en.r 0 := by
      unfold heads at hx
      rw [List.getElem?_map, hen] at hx
      rw [← head_turn]
      exact (Option.some.inj hx).symm
    have HX : Hid (x = turn en.r 0) := Lib.hid hx0
    have f1 := A6.out.cell 1
    have ww1 : IntKind.i64.wrap (2 * F) = 2 * F := IntWalk.i64_in _ (by omega)
    have ww2 : IntKind.i64.wrap (2 * F + 1) = (q : Int) := by rw [IntWalk.i64_in _ (by omega)]; exact HQ.out.symm
    have hmm := @run_makeMap Try.prog
    clear hW6 hb6 bc rn hx hen hx0 A0 B1 A1' A3 A4 R3
    go_upto_region 12 with (fail)
    refine Msg.world_out (fun W7 hW7 => ?_)
    obtain ⟨sb, hsb⟩ : ∃ b, b = W6.heap.size := ⟨_, rfl⟩
    rw [← hsb]
    have B7 : Hid (Below W6.heap.size W6 W7) := Lib.hid (by rw [hW7]; exact (Below.refl _ _).alloc (Nat.le_refl _) _)
    have F7 : Hid (IsF mI W7 sb 0 (fun _ => none)) := Lib.hid (by rw [hW7, hsb]; exact IsF.made W6)
    have sb' : W6.heap.size ≤ sb := by omega
    have C7 := Lib.hid (C6.out.keep B7.out)
    have M7 := Lib.hid (M6.out.below B7.out mbl)
    have K7 : Hid (Chg (fun b => w.heap.size ≤ b) w W7) := Lib.hid (K6.out.then B7.out)
    have CX : ∃ c6 : Client, CliAt w2.heap.size W7 p c6 ob oc gb gc g q L (heads L) sp ∧ c6.waits = true ∧ c6.hinted = false ∧ c6.grp = (k : Int) ∧ c6.q = (q : Int) ∧ c6.M = reqM (lockM k 1 key) 1 1 number number := ⟨_, C7.out, rfl, rfl, rfl, rfl, rfl⟩
    obtain ⟨c6, hc, hw6, hh6, hk6, hq6, hM6⟩ := CX
    have D7 := Lib.hid hc
    have N7 : Hid (Blk W7 mb 55 (aimedM (reqM (lockM k 1 key) 1 1 number number) k x)) := Lib.hid M7.out
    have QQ := Lib.hid (And.intro hw6 (And.intro hh6 (And.intro hk6 (And.intro hq6 hM6))))
    have M18 : Hid (c6.M[18]? = some (.slice none 0 0)) := Lib.hid (by rw [hM6]; simp [reqM, lockM])
    have M19 : Hid (c6.M[19]? = some (.slice none 0 0)) := Lib.hid (by rw [hM6]; simp [reqM, lockM])
    have G0 : Hid (heads L = (heads L).set k (turn en.r 0)) := Lib.hid (by
      rw [← HX.out, set_same L5.out.hx])
    have sbp : sb ≠ p ∧ sb ≠ gb ∧ sb ≠ mb ∧ mb ≠ p ∧ mb ≠ gb := ⟨by omega, by omega, by omega, by omega, by omega⟩
    clear hW7 hsb hmm ww1 ww2 f1 hc hw6 hh6 hk6 hq6 hM6 C7 M7 C6 M6 L5 B7 C4
    go_wp2_with (fail)
    go_loopg [16] q (PokeR w2.heap.size p c6 ob oc gb gc g q L sp k en.r sb W7)
    case atStart => exact ⟨0, rfl, by omega, rfl, by rw [← G0.out]; exact D7.out, by rw [askF_zero]; exact F7.out, Chg.refl _ _⟩
    case round =>
      obtain ⟨i, hg, hi, rfl, hC, hF, hK⟩ := hrel
      have CI := Lib.hid hC
      have FI := Lib.hid hF
      have KI := Lib.hid hK
      clear hC hF hK
      by_cases hlt : i < q
      · have hlt' : (i : Int) < (q : Int) := by omega
        have hgk : ((heads L).set k (turn en.r i))[k]? = some (turn en.r i) := by rw [List.getElem?_set, if_pos rfl, if_pos (by rw [← C3.out.lenG] at hkg; exact hkg)]
        have PK := Lib.hid (poke_next _ p c6 ob oc gb gc g q L _ sp k (turn en.r i) en wr CI.out QQ.out.1 QQ.out.2.1 QQ.out.2.2.1 hkg hg8 ⟨by omega, by omega⟩ hgk (turn_lt HP.out.1 HP.out.2.2 i) HEN.out M18.out M19.out)
        rw [turn_next HP.out.1 HP.out.2.2 i, List.set_set, unhint QQ.out.2.1] at PK
        clear hgk
        go_upto_region 16 with (go_at_call 18; go_loud (refine PK.out.mono ?_; rintro e w8 ⟨nb, rfl, r1, r2, r3, r4⟩; have P8 := Lib.hid (And.intro r1 (And.intro r2 (And.intro r3 r4))); clear r1 r2 r3 r4))
        have KM : Hid (Chg (fun b => b = p ∨ b = gb ∨ b = sb) W7 w8) := Lib.hid (KI.out.on (P8.out.2.2.2.more (fun _ _ e => by omega)))
        have N8 := Lib.hid (N7.out.chg KM.out (by omega))
        have F8 : Hid (IsF mI w8 sb i (askF en.r i)) := Lib.hid (isF_same FI.out (P8.out.2.2.2.block sb FI.out.lt (by omega)))
        have n3 : w8.cell? ⟨nb, 3, none⟩ = some (.int .i64 (k : Int)) := by rw [P8.out.2.1.cell, QQ.out.2.2.2.2]; simp [aimedM, reqM, lockM]
        have m3 : w8.cell? ⟨mb, 3, none⟩ = some (.int .i64 (k : Int)) := by rw [N8.out.cell]; simp [aimedM, reqM, lockM]
        have n12 : w8.cell? ⟨nb, 12, none⟩ = some (.int .i64 1) := by rw [P8.out.2.1.cell, QQ.out.2.2.2.2]; simp [aimedM, reqM, lockM]
        have m12 : w8.cell? ⟨mb, 12, none⟩ = some (.int .i64 1) := by rw [N8.out.cell]; simp [aimedM, reqM, lockM]
        have n16 : w8.cell? ⟨nb, 16, none⟩ = some (.string key) := by rw [P8.out.2.1.cell, QQ.out.2.2.2.2]; simp [aimedM, reqM, lockM]
        go_quiet (fail)
        go_upto_region 18 with (fail)
        refine Msg.world_out (fun W9 hW9 => ?_)
        have B9 : Hid (Below w8.heap.size w8 W9) := Lib.hid (by rw [hW9]; exact below_drewN (Below.refl _ _) _)
        have P9 : Hid (Blk W9 nb 55 (aimedM c6.M k (turn en.r (i + 1) : Nat))) := Lib.hid (P8.out.2.1.below B9.out P8.out.2.1.lt)
        have F9 : Hid (IsF mI W9 sb i (askF en.r i)) := Lib.hid (F8.out.below F8.out.lt B9.out)
        have C9 := Lib.hid (P8.out.2.2.1.keep B9.out)
        have K9 := Lib.hid (KM.out.then B9.out)
        clear hW9 n3 m3 n12 m12 n16 P8 F8 N8 KM CI FI KI PK
        have y4 : W9.cell? ⟨nb, 4, none⟩ = some (.int .i64 (turn en.r (i + 1) : Nat)) := by rw [P9.out.cell, QQ.out.2.2.2.2]; simp [aimedM, reqM, lockM]
        have tl := turn_lt HP.out.1 HP.out.2.2 (i + 1)
        have okT := mI_ok (turn en.r (i + 1)) (by omega)
        have lk := F9.out.look Try.underlying70 (zero3 W9) (turn en.r (i + 1) : Nat) okT
        rw [askF_fresh HP.out.1 HP.out.2.2 (by rw [HP.out.2.1]; exact hlt)] at lk
        have lk' : (Instr.lookup 70 (.map (some sb)) (.int .i64 (turn en.r (i + 1) : Nat)) false).run Try.prog W9 = .ok (.int .i64 0) W9 := lk
        obtain ⟨w10, hst, hF10, hturn⟩ := IsF.store (w := W9) F9.out Try.underlying70 (by unfold maxLen; omega) (turn en.r (i + 1) : Nat) okT 1
        rw [askF_step] at hF10
        have hst' : (Instr.mapUpdate 70 (.map (some sb)) (.int .i64 (turn en.r (i + 1) : Nat)) (.int .i64 1)).run Try.prog W9 = .ok () w10 := hst
        have F10 := Lib.hid hF10
        have K10 : Hid (Chg (fun b => b = sb) W9 w10) := Lib.hid (Chg.grown hturn.grown)
        have hi5 : i + 1 ≤ 5 := by omega
        have S10 := Lib.hid (F9.out.isMp)
        clear hst hF10 hturn lk okT
        generalize hy : turn en.r (i + 1) = y at *
        have HY := Lib.hid hy
        clear hy
        go_wp2_with (fail)
        go_roundg (q - (i + 1))
        case measure => omega
        case rel =>
          refine ⟨i + 1, rfl, by omega, by go_num, ?_, F10.out, K9.out.on (K10.out.more (fun _ _ e => .inr (.inr e)))⟩
          rw [HY.out]
          refine C9.out.more (K10.out.kept (fun j _ e => .inr (.inr (e ▸ S10.out)))) ⟨C9.out.cl.blk.chg K10.out (by omega), C9.out.cl.msg⟩ rfl rfl rfl C9.out.lenG ?_
          obtain ⟨cur, r1, r2⟩ := C9.out.guess
          exact ⟨cur, r1.chg K10.out (by omega), r2⟩
      · obtain rfl : i = q := by omega
        have hnl : ¬ (i : Int) < (i : Int) := by omega
        have FQ : Hid (∀ z : Nat, z < i → (Instr.lookup 70 (.map (some sb)) (.int .i64 (z : Int)) false).run Try.prog wr = .ok (.int .i64 1) wr) := Lib.hid (fun z hz => by
          have lk := FI.out.look Try.underlying70 (zero3 wr) (z : Int) (mI_ok z (by omega))
          have e := askF_full HP.out.1 HP.out.2.2 hz
          rw [HP.out.2.1] at e
          rw [e] at lk
          exact lk)
        go_wp2_with (fail)
        go_loopg [18] i (fun gk v18 wx => ∃ z : Nat, i - z = gk ∧ z ≤ i ∧ v18 = .int .i64 (z : Int) ∧ wx = wr)
        case atStart => exact ⟨0, rfl, by omega, rfl, rfl⟩
        case round =>
          obtain ⟨z, hgz, hz, rfl, rfl⟩ := hrel
          by_cases hzl : z < i
          · have hzl' : (z : Int) < (i : Int) := by omega
            have lk := FQ.out z hzl
            have hz5 : z + 1 ≤ 5 := by omega
            go_wp2_with (fail)
            go_roundg (i - (z + 1))
            case measure => omega
            case rel => exact ⟨z + 1, rfl, by omega, by go_num, rfl⟩
          · obtain rfl : z = i := by omega
            go_upto_region 24 with (fail)
            clear FQ
            go_upto_region 25 with (fail)
            obtain ⟨t, ht, et⟩ := modq hint z (by omega) (by omega)
            rw [et]
            clear et
            have N9 := Lib.hid (N7.out.chg KI.out (by omega))
            have KW : Hid (Below w.heap.size w wr) := Lib.hid (by
              have s6 := K6.out.size
              have s2 := R2.out.2.2.2.size
              have s1 := X1.out.size
              have s0 := C3.out.hg
              have k2 : Chg (fun b => w.heap.size ≤ b) w wr := K7.out.on (KI.out.more (fun _ _ e => by omega))
              exact k2.below (Nat.le_refl _) (fun _ e => e))
            have F : Hid (∀ v, Chg (fun b => b = p ∨ b = gb) wr v → v.cell? ⟨mb, 12, none⟩ = some (.int .i64 1) ∧ v.cell? ⟨mb, 13, none⟩ = some (.int .i64 1) ∧ v.cell? ⟨mb, 14, none⟩ = some (.int .i64 number)) := Lib.hid (fun v hv => by
              have h := N9.out.chg hv (by omega)
              exact ⟨by rw [h.cell]; simp [aimedM, reqM, lockM], by rw [h.cell]; simp [aimedM, reqM, lockM], by rw [h.cell]; simp [aimedM, reqM, lockM]⟩)
            have TK := Lib.hid (fun (v : World) (hv : Below wr.heap.size wr v) C hC C0 C12 C13 C14 C22 C23 => take_hint _ p c6 ob oc gb gc g z L _ sp k t C 1 1 number v (CI.out.keep hv) QQ.out.2.2.2.1 QQ.out.1 QQ.out.2.2.1 hkg hg8 ht hC C0 C12 C13 C14 C22 C23 (by rw [QQ.out.2.2.2.2]; simp [reqM, lockM]) (by rw [QQ.out.2.2.2.2]; simp [reqM, lockM]) (by rw [QQ.out.2.2.2.2]; simp [reqM, lockM]))
            have zc : CellsN 11 zeroAct.cs := ActV.cells _
            have S0 := Lib.hid (F.out wr.drew (Chg.refl _ _).drew)
            have S1 := Lib.hid (F.out (wr.alloc (.cells #[.int .i64 0, .int .i64 0, .int .i64 0, .int .i64 0, .string ⟨#[]⟩, .string ⟨#[]⟩, .bool false, .int .i64 0, .int .i64 0, .int .i64 0, .int .i64 0] 43)).drew ((Chg.refl _ _).alloc _).drew)
            have nwr : ¬ (wr.heap.size = p ∨ wr.heap.size = gb) := by
              have h1 := CI.out.cl.blk.lt
              obtain ⟨cur, h2, _⟩ := CI.out.guess
              have := h2.lt
              omega
            have rn := roomN_new (n := 11) wr 43 #[.int .i64 0, .int .i64 0, .int .i64 0, .int .i64 0, .string ⟨#[]⟩, .string ⟨#[]⟩, .bool false, .int .i64 0, .int .i64 0, .int .i64 0, .int .i64 0] rfl
            go_cut [19, 20] from 125 (TakR w2.heap.size p c6 ob oc gb gc g z L ((heads L).set k (turn en.r z)) sp k t wr)
            case first =>
              go_region_held3 (fun v => v.cell? ⟨mb, 12, none⟩ = some (.int .i64 1) ∧ v.cell? ⟨mb, 13, none⟩ = some (.int .i64 1) ∧ v.cell? ⟨mb, 14, none⟩ = some (.int .i64 number)) (first | with_reducible exact S0.out | with_reducible exact S1.out | with_reducible exact S2.out | with_reducible exact S3.out | with_reducible exact S4.out) (first
                | (go_at_call 15; refine (TK.out (wr.alloc (.cells #[.int .i64 0, .int .i64 0, .int .i64 0, .int .i64 0, .string ⟨#[]⟩, .string ⟨#[]⟩, .bool false, .int .i64 0, .int .i64 0, .int .i64 0, .int .i64 0] 43)).drew ((Below.refl _ _).alloc (Nat.le_refl _) _).drew _ ⟨rfl, by simp [Value.oneCell']⟩ rfl rfl rfl rfl rfl rfl).mono ?_; rintro e w9 ⟨rfl, r1, r2⟩
                   have T9 : Hid (CliAt w2.heap.size w9 p { c6 with hinted := true } ob oc gb gc g z L (((heads L).set k (turn en.r z)).set k t) sp ∧ Chg (fun b => b = p ∨ b = gb) wr w9 ∧ Blk w9 wr.heap.size 43 #[.int .i64 0, .int .i64 0, .int .i64 0, .int .i64 0, .string ⟨#[]⟩, .string ⟨#[]⟩, .bool false, .int .i64 0, .int .i64 0, .int .i64 0, .int .i64 0]) := Lib.hid ⟨r1, (((Chg.refl _ wr).alloc _).drew).on r2, ((Blk.new wr 43 _).drew).chg r2 nwr⟩
                   have rm : RoomN 11 w9 wr.heap.size 0 := blkN_room (n := 11) T9.out.2.2 rfl
                   have S2 := Lib.hid (F.out w9 T9.out.2.1)
                   have S3 := Lib.hid (F.out (putN w9 wr.heap.size 0 zeroAct.cs) (putN_chg T9.out.2.1 (.inl (Nat.le_refl _)) 0 _))
                   clear r1 r2)
                | (go_at_call 15; refine (TK.out wr.drew (Below.refl _ _).drew _ ⟨rfl, by simp [Value.oneCell']⟩ rfl rfl rfl rfl rfl rfl).mono ?_; rintro e w9 ⟨rfl, r1, r2⟩
                   have T9 : Hid (CliAt w2.heap.size w9 p { c6 with hinted := true } ob oc gb gc g z L (((heads L).set k (turn en.r z)).set k t) sp ∧ Chg (fun b => b = p ∨ b = gb) wr w9) := Lib.hid ⟨r1, ((Chg.refl _ wr).drew).on r2⟩
                   have rm := roomN_new (n := 11) w9 43 #[.int .i64 0, .int .i64 0, .int .i64 0, .int .i64 0, .string ⟨#[]⟩, .string ⟨#[]⟩, .bool false, .int .i64 0, .int .i64 0, .int .i64 0, .int .i64 0] rfl
                   have S2 := Lib.hid (F.out w9 T9.out.2)
                   have S3 := Lib.hid (F.out (w9.alloc (.cells #[.int .i64 0, .int .i64 0, .int .i64 0, .int .i64 0, .string ⟨#[]⟩, .string ⟨#[]⟩, .bool false, .int .i64 0, .int .i64 0, .int .i64 0, .int .i64 0] 43)) (T9.out.2.alloc _))
                   have S4 := Lib.hid (F.out (putN (w9.alloc (.cells #[.int .i64 0, .int .i64 0, .int .i64 0, .int .i64 0, .string ⟨#[]⟩, .string ⟨#[]⟩, .bool false, .int .i64 0, .int .i64 0, .int .i64 0, .int .i64 0] 43)) w9.heap.size 0 zeroAct.cs) (putN_chg (T9.out.2.alloc _) (.inl T9.out.2.size) 0 _))
                   clear r1 r2))
              · go_wp2_with fail
                go_meet
                case rel => exact ⟨w9.heap.size, rfl, rfl, T9.out.2.size, putN_fill (Blk.new w9 43 _) rfl, CliAt.keep T9.out.1 (putN_below ((Below.refl _ _).alloc (Nat.le_refl _) _) (Nat.le_refl _) 0 _), putN_chg (T9.out.2.alloc _) (.inl T9.out.2.size) 0 _⟩
              · go_wp2_with fail
                go_meet
                case rel => exact ⟨wr.heap.size, rfl, rfl, Nat.le_refl _, putN_fill T9.out.2.2 rfl, CliAt.far CI.out T9.out.1 T9.out.2.1 rfl (Nat.le_refl _) (putN_chg (S := fun j => j = wr.heap.size) (Chg.refl _ w9) (.inr rfl) 0 _), putN_chg T9.out.2.1 (.inl (Nat.le_refl _)) 0 _⟩
            case rest =>
              obtain ⟨ab, rfl, rfl, hab, r1, r2, r3⟩ := hcut
              have AB := Lib.hid (And.intro r1 (And.intro r2 r3))
              clear r1 r2 r3 S0 S1 rn TK F N9 zc
              have hgk : (((heads L).set k (turn en.r z)).set k t)[k]? = some t := by rw [List.getElem?_set, if_pos rfl, if_pos (by rw [List.length_set]; rw [← C3.out.lenG] at hkg; exact hkg)]
              have PK := Lib.hid (poke_hint _ p { c6 with hinted := true } ob oc gb gc g z L _ sp k t wc AB.out.2.1 QQ.out.1 rfl QQ.out.2.2.1 hkg hgk M18.out M19.out)
              clear hgk
              go_upto_region 27 with (go_at_call 18; go_loud (refine PK.out.mono ?_; rintro e wp ⟨nb, rfl, r1, r2, r3, r4⟩; have P8 := Lib.hid (And.intro r1 (And.intro r2 (And.intro r3 r4))); clear r1 r2 r3 r4))
              have AP : Hid (Blk wp ab 43 zeroAct.cs) := Lib.hid (AB.out.1.chg P8.out.2.2.2 (by
                have h1 := CI.out.cl.blk.lt
                obtain ⟨cur, h2, _⟩ := CI.out.guess
                have := h2.lt
                omega))
              have g1 : HasN 11 wp ab 0 := (blkN_has (n := 11) AP.out rfl).1
              have g2 : valN 11 wp ab 0 = #[.int .i64 0, .int .i64 0, .int .i64 0, .int .i64 0, .string ⟨#[]⟩, .string ⟨#[]⟩, .bool false, .int .i64 0, .int .i64 0, .int .i64 0, .int .i64 0] := (blkN_has (n := 11) AP.out rfl).2
              have n4 : wp.cell? ⟨nb, 4, none⟩ = some (.int .i64 (t : Int)) := by rw [P8.out.2.1.cell]; simp [aimedM, QQ.out.2.2.2.2, reqM, lockM]
              have wt := QQ.out.1
              have KF : Hid (Below w.heap.size w wp) := Lib.hid (by
                have s6 := K6.out.size
                have s0 := C3.out.hg
                have s2 := R2.out.2.2.2.size
                have s1 := X1.out.size
                have k1 : Chg (fun b => w.heap.size ≤ b) w wr := Chg.of KW.out
                have k2 : Chg (fun b => w.heap.size ≤ b) w wp := (k1.on (AB.out.2.2.more (fun _ _ e => by omega))).on (P8.out.2.2.2.more (fun _ _ e => by omega))
                exact k2.below (Nat.le_refl _) (fun _ e => e))
              go_wp2_with (go_at_call 19; go_loud (refine (waits_any p _ _ P8.out.2.2.1.cl).mono ?_; rintro e wq ⟨rfl, rfl⟩))
              exact bodyPost_ret (v := .bool true) (by simp [results, Try.results6, go_sem]) rfl ⟨rfl, KF.out⟩
end Go.Proofs.Ytpaihfdmjkfegaa.Cl
