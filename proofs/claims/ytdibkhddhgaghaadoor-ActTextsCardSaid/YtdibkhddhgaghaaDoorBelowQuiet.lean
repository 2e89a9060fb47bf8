/- A region that draws its order, whose operations read and whose callees may make memory: one walk, over all worlds that keep what was there. -/
import Derived.Deep.QuietTactic
import Derived.Below
namespace Go.Proofs.YtdibkhddhgaghaaDoor.Bq
open Go Go.RowKit
set_option linter.unusedVariables false
/-- A world that keeps what W has. -/
structure BelowBy (W : World) where
  w : World
  hb : Below W.heap.size W w
instance (W : World) : Nonempty (BelowBy W) := ⟨⟨W, Below.refl _ _⟩⟩
theorem wp_region_bel {P : Program} {id : Nat} {Q : Exit → Act → World → Prop} {a : Act} {w : World} {l : List Oper} (hm : P.follows .mixedOrders = true) (hB : Region.lexB .any l.toArray = true)
    (h : wpQuiet P l.toArray (fun w' => ∃ p : BelowBy w, w' = p.w) (fun a' => ∀ w', (∃ p : BelowBy w, w' = p.w) → Q .normal a' w') l a) : (Code.region id l.toArray true).wp P Q a w :=
  wp_region_quiet (C := fun w' => ∃ p : BelowBy w, w' = p.w) hm hB ⟨⟨w.drew, (Below.refl _ _).drew⟩, rfl⟩ (by simpa using h)
theorem calls_bel {P : Program} {f : FuncId} {args : Array Value} {W : World} {p : BelowBy W} {v : Value} (h : Calls P f args p.w fun e w'' => e = .returned v ∧ Below p.w.heap.size p.w w'') : Calls P f args p.w fun e w'' => e = .returned v ∧ ∃ q : BelowBy W, w'' = q.w :=
  h.mono fun _ w'' ⟨he, hb⟩ => ⟨he, ⟨w'', p.hb.trans (hb.mono p.hb.size)⟩, rfl⟩
theorem calls_bel_same {P : Program} {f : FuncId} {args : Array Value} {W : World} {p : BelowBy W} {v : Value} (h : Calls P f args p.w fun e w'' => e = .returned v ∧ w'' = p.w) : Calls P f args p.w fun e w'' => e = .returned v ∧ ∃ q : BelowBy W, w'' = q.w :=
  h.mono fun _ w'' ⟨he, hw⟩ => ⟨he, p, hw⟩
theorem BelowBy.cell {W : World} (p : BelowBy W) {b o : Nat} {v : Value} (hb : b < W.heap.size) (h : W.cell? ⟨b, o, none⟩ = some v) : p.w.cell? ⟨b, o, none⟩ = some v := (p.hb.cell (p := ⟨b, o, none⟩) hb).trans h
end Go.Proofs.YtdibkhddhgaghaaDoor.Bq
