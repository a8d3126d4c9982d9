/- A region whose operations only read, and whose callees only read and lay blocks of their own, in a class of worlds. -/
import Derived.WalkKit
import Derived.WalkSpells
import Derived.WalkLawsBesides
import Derived.Lib.Hide
import Derived.BigQuiet
import Derived.Deep.QuietTactic
import Derived.Below
namespace Go.Proofs.Ytpaihfdmjkfegaa.Cls
open Go.RowKit

/-- A world of a class. -/
structure InCls (C : World → Prop) where
  w : World
  h : C w

theorem wp_region_cls {P : Program} {id : Nat} {Q : Exit → Act → World → Prop} {a : Act} {w : World} {l : List Oper} (C : World → Prop) (hm : P.follows .mixedOrders = true) (hB : Region.lexB .any l.toArray = true) (h0 : C w.drew)
    (h : wpQuiet P l.toArray (fun w' => ∃ p : InCls C, w' = p.w) (fun a' => ∀ w', (∃ p : InCls C, w' = p.w) → Q .normal a' w') l a) : (Code.region id l.toArray true).wp P Q a w :=
  wp_region_quiet (C := fun w' => ∃ p : InCls C, w' = p.w) hm hB ⟨⟨w.drew, h0⟩, rfl⟩ (by simpa using h)

/-- A callee's contract, met in a world of the class. -/
theorem cls_of {P : Program} {f : FuncId} {args : Array Value} {C : World → Prop} {p : InCls C} {v : Value} (keep : ∀ w w', C w → Below w.heap.size w w' → C w')
    (h : Calls P f args p.w fun e w' => e = .returned v ∧ Below p.w.heap.size p.w w') : Calls P f args p.w fun e w'' => e = .returned v ∧ ∃ q : InCls C, w'' = q.w :=
  h.mono fun _ w' ⟨he, hb⟩ => ⟨he, ⟨w', keep _ _ p.h hb⟩, rfl⟩
end Go.Proofs.Ytpaihfdmjkfegaa.Cls
