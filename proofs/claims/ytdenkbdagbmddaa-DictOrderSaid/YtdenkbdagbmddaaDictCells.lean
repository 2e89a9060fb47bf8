/- Pairs as cells. -/
import Derived.Test.YtdenkbdagbmddaaDictDel
namespace Go.Proofs.Ytdenkbdagbmddaa.DcI
open Go.RowKit Go.Shelf Dc DcM DcW
set_option linter.unusedVariables false

def cellsP (l : List Pr) : List Value := l.flatMap fun p => [.string p.1, .string p.2]
theorem cellsP_snoc (l : List Pr) (x : Pr) : cellsP (l ++ [x]) = cellsP l ++ [.string x.1, .string x.2] := by simp [cellsP]
theorem infoP : (Try.prog.info? 24).map (fun i => (i.zero, i.size, i.bytes)) = some (some (.agg #[.string ⟨#[]⟩, .string ⟨#[]⟩]), 2, 32) := by kernel_rfl

theorem owns_shape {W : World} {base : Nat} {e : TypeId} {size : Nat} {v : Value} {k : Nat} {xs : List Value} (h : W.ownsRow base e size v k xs) : ∃ A cap, v = .slice A k cap := by
  rcases h.2 with ⟨rfl, h0⟩ | ⟨g, cap, _, rfl, _⟩
  · exact ⟨none, 0, by rw [h0]⟩
  · exact ⟨_, _, rfl⟩
theorem cell_two_new (w : World) (x y : Value) (t : TypeId) : ∀ j u, [x, y][j]? = some u → (w.alloc (.cells #[x, y] t)).cell? ((⟨w.heap.size, 0, none⟩ : Addr).add j) = some u := by
  intro j u hj
  match j, hj with
  | 0, hj => simp at hj; subst hj; simp [Addr.add]
  | 1, hj => simp at hj; subst hj; simp [Addr.add]
end Go.Proofs.Ytdenkbdagbmddaa.DcI
