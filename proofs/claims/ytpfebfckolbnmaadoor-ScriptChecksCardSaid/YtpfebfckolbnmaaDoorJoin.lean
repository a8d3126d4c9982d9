/- The ways through a part of a region meet again: cuts between the operations of one region. -/
import Derived.WalkKit
import Derived.BigQuiet
import Derived.Deep.QuietTactic
import Derived.Deep.Cut
namespace Go.Proofs.YtpfebfckolbnmaaDoor.Join
open Go.RowKit

section
variable {P : Program} {ops : Array Oper}
theorem lets_then {K : Act → World → Prop} {Q : Exit → Act → World → Prop} (h : LetsOut (Exit.then K Q)) : LetsOut Q := h
theorem wp_post {o : Oper} {a : Act} {w : World} {K K' : Act → World → Prop} {Q : Exit → Act → World → Prop} (h : o.wp P a w K (Exit.then K' Q)) : o.wp P a w K Q := by
  unfold Oper.wp at *
  generalize (execOp a.eval o).run P w = r at *
  cases r with
  | ok n w' =>
    cases n <;> simp only [Oper.upon] at h ⊢ <;>
      first
        | exact h
        | exact Calls.mono h (fun e w'' he => by cases e <;> exact he)
        | exact Rows.mono h (fun _ _ he => he)
  | halt x w' => cases x <;> simp only [Oper.upon] at h ⊢ <;> exact h
theorem wpList_app {Q : Exit → Act → World → Prop} (l2 : List Oper) (R : Act → World → Prop) (rest : ∀ a w, R a w → wpList P ops Q l2 a w) :
    ∀ (l1 : List Oper) (a : Act) (w : World), wpList P ops (Exit.then R Q) l1 a w → wpList P ops Q (l1 ++ l2) a w
  | [], a, w, h => rest a w h
  | o :: l1, a, w, h => by
    show wpList P ops Q (o :: (l1 ++ l2)) a w
    unfold wpList at h ⊢
    by_cases hw : Region.wanted o (yielded ops a.tmps) = true
    · rw [if_pos hw] at h ⊢
      rcases h with h | h
      · exact .inl (Oper.wp_mono (wpList_app l2 R rest l1) (wp_post h))
      · exact .inr ⟨h.1, lets_then h.2⟩
    · rw [if_neg hw] at h ⊢
      exact wpList_app l2 R rest l1 _ _ h
/-- The first n operations; what they leave; all that follows, once. -/
theorem wpList_cut {Q : Exit → Act → World → Prop} {l : List Oper} {a : Act} {w : World} (n : Nat) (R : Act → World → Prop)
    (rest : ∀ a' w', R a' w' → wpList P ops Q (l.drop n) a' w')
    (first : ∀ J K' : Act → World → Prop, (∀ a' w', R a' w' → J a' w') → (∀ a' w', Met J a' w' → K' a' w') → wpList P ops (Exit.then K' Q) (l.take n) a w) : wpList P ops Q l a w := by
  have h := wpList_app (l.drop n) R rest (l.take n) a w (first R R (fun _ _ q => q) (fun _ _ q => q))
  rwa [List.take_append_drop] at h

variable {C : World → Prop}
theorem wpQuiet_app {Q : Act → Prop} (l2 : List Oper) (R : Act → Prop) (rest : ∀ a, R a → wpQuiet P ops C Q l2 a) :
    ∀ (l1 : List Oper) (a : Act), wpQuiet P ops C R l1 a → wpQuiet P ops C Q (l1 ++ l2) a
  | [], a, h => rest a h
  | o :: l1, a, h => by
    show wpQuiet P ops C Q (o :: (l1 ++ l2)) a
    unfold wpQuiet at h ⊢
    by_cases hw : Region.wanted o (yielded ops a.tmps) = true
    · rw [if_pos hw] at h ⊢
      exact Oper.quiet_mono (wpQuiet_app l2 R rest l1) h
    · rw [if_neg hw] at h ⊢
      exact wpQuiet_app l2 R rest l1 _ h
/-- The same in a region that draws its order, walked in the text's order. -/
theorem wpQuiet_cut {Q : Act → Prop} {l : List Oper} {a : Act} (n : Nat) (R : Act → Prop) (rest : ∀ a', R a' → wpQuiet P ops C Q (l.drop n) a') (first : wpQuiet P ops C R (l.take n) a) : wpQuiet P ops C Q l a := by
  have h := wpQuiet_app (l.drop n) R rest (l.take n) a first
  rwa [List.take_append_drop] at h
end
end Go.Proofs.YtpfebfckolbnmaaDoor.Join
