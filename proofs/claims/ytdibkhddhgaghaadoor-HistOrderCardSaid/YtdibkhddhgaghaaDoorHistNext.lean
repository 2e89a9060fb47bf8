/- hist.call's closures: the next word, a number, a text. -/
import Derived.Test.YtdibkhddhgaghaaDoorHistBase
import Derived.Test.YtdibkhddhgaghaaDoorDigitParse
import Derived.Test.YtdibkhddhgaghaaDoorHexaWalk
import Derived.OneCell
namespace Go.Proofs.YtdibkhddhgaghaaDoor.Hs
open Go.RowKit
set_option linter.unusedVariables false
set_option linter.unusedSimpArgs false
/-- All blocks but those of S are as they were. -/
structure Fr (S : Nat → Prop) (w w' : World) : Prop where
  os : w'.os = w.os
  tape : w'.tape = w.tape
  output : w'.output = w.output
  size : w.heap.size ≤ w'.heap.size
  block : ∀ k, k < w.heap.size → ¬ S k → w'.heap[k]? = w.heap[k]?
theorem Fr.refl (S : Nat → Prop) (w : World) : Fr S w w := ⟨rfl, rfl, rfl, Nat.le_refl _, fun _ _ _ => rfl⟩
theorem Fr.trans {S : Nat → Prop} {w w1 w2 : World} (h : Fr S w w1) (g : Fr S w1 w2) : Fr S w w2 :=
  ⟨g.os.trans h.os, g.tape.trans h.tape, g.output.trans h.output, Nat.le_trans h.size g.size, fun k hk h1 => (g.block k (Nat.lt_of_lt_of_le hk h.size) h1).trans (h.block k hk h1)⟩
theorem Fr.of_below {S : Nat → Prop} {w w' : World} (h : Below w.heap.size w w') : Fr S w w' := ⟨h.os, h.tape, h.output, h.size, fun k hk _ => h.block k hk⟩
theorem Fr.set {S : Nat → Prop} (w : World) {b : Nat} (hb : S b) (i : Nat) (v : Value) : Fr S w (w.setCell ⟨b, i, none⟩ v) :=
  ⟨rfl, rfl, rfl, by simp [World.setCell], fun k hk h1 => Below.heap_setCell w ⟨b, i, none⟩ v k (fun e => h1 (by rw [e]; exact hb))⟩
theorem Fr.put {S : Nat → Prop} {w w' : World} (h : Fr S w w') {b : Nat} (hb : S b) (i : Nat) (v : Value) : Fr S w (w'.setCell ⟨b, i, none⟩ v) := h.trans (Fr.set w' hb i v)
theorem Fr.drew {S : Nat → Prop} {w w' : World} (h : Fr S w w') : Fr S w w'.drew := ⟨h.os, h.tape, h.output, h.size, h.block⟩
theorem Fr.weaken {S T : Nat → Prop} {w w' : World} (h : Fr S w w') (hs : ∀ k, S k → T k) : Fr T w w' := ⟨h.os, h.tape, h.output, h.size, fun k hk h1 => h.block k hk (fun e => h1 (hs k e))⟩
theorem Fr.below {S : Nat → Prop} {w w' : World} {B : Nat} (h : Fr S w w') (hs : ∀ k, S k → B ≤ k) (hb : B ≤ w.heap.size) : Below B w w' :=
  ⟨h.os, h.tape, h.output, h.size, fun k hk => h.block k (by omega) (fun e => by have := hs k e; omega)⟩
theorem Fr.cell {S : Nat → Prop} {w w' : World} (h : Fr S w w') {b i : Nat} (hb : b < w.heap.size) (hs : ¬ S b) : w'.cell? ⟨b, i, none⟩ = w.cell? ⟨b, i, none⟩ := World.cell?_of_block (w := w) (h.block b hb hs)
/-- The words that are left, and whether all was fine. -/
abbrev St := List ByteArray × Bool
def nxt (s : St) : ByteArray × St := match s.1 with
  | [] => (⟨#[]⟩, [], false)
  | t :: r => (t, r, s.2)
def num (least most : Int) (s : St) : Int × St := ((Dg.parse (nxt s).1.data.toList least most).1, (nxt s).2.1, (nxt s).2.2 && decide ((Dg.parse (nxt s).1.data.toList least most).2 = 0))
def txt (s : St) : ByteArray × St := (Hxw.out (nxt s).1, (nxt s).2.1, (nxt s).2.2 && decide (Hxw.err (nxt s).1 = 0))
/-- The blocks that the closures write. -/
def LF (L F : Nat) : Nat → Prop := fun k => k = L ∨ k = F
structure SAt (w : World) (B L F X : Nat) (s : St) : Prop where
  list : ∃ A cap, w.heap[L]? = some (.cells #[.slice A s.1.length cap] 70 (0, 0)) ∧ s.1.length ≤ cap ∧ ∀ i t, s.1[i]? = some t → ∃ o, A = some ⟨B, o, none⟩ ∧ w.cell? ⟨B, o + i, none⟩ = some (.string t)
  fine : w.heap[F]? = some (.cells #[.bool s.2] 4 (0, 0))
  func : w.heap[X]? = some (.cells #[.func (.func 90) #[] #[.pointer (some ⟨L, 0, none⟩), .pointer (some ⟨F, 0, none⟩)]] 100 (0, 0))
  ne1 : L ≠ F
  ne2 : X ≠ L
  ne3 : X ≠ F
  ne4 : B ≠ L
  ne5 : B ≠ F
  lt : B < w.heap.size
theorem SAt.fr {w w' : World} {B L F X : Nat} {s : St} (h : SAt w B L F X s) {S : Nat → Prop} (hf : Fr S w w') (h1 : ¬ S L) (h2 : ¬ S F) (h3 : ¬ S X) (h4 : ¬ S B) : SAt w' B L F X s := by
  obtain ⟨⟨A, cap, hl, hc, hs⟩, hfi, hfu, n1, n2, n3, n4, n5, n6⟩ := h
  refine ⟨⟨A, cap, (hf.block L (lt_of_block hl) h1).trans hl, hc, fun i t hi => ?_⟩, (hf.block F (lt_of_block hfi) h2).trans hfi, (hf.block X (lt_of_block hfu) h3).trans hfu, n1, n2, n3, n4, n5, Nat.lt_of_lt_of_le n6 hf.size⟩
  obtain ⟨o, hA, hcell⟩ := hs i t hi
  exact ⟨o, hA, (hf.cell n6 h4).trans hcell⟩
theorem SAt.below {w w' : World} {B L F X : Nat} {s : St} (h : SAt w B L F X s) (hb : Below w.heap.size w w') : SAt w' B L F X s :=
  h.fr (S := fun _ => False) (Fr.of_below hb) id id id id
theorem SAt.setFine {w : World} {B L F X : Nat} {s : St} (h : SAt w B L F X s) (v : Bool) : SAt (w.setCell ⟨F, 0, none⟩ (.bool v)) B L F X (s.1, v) := by
  obtain ⟨⟨A, cap, hl, hc, hs⟩, hfi, hfu, n1, n2, n3, n4, n5, n6⟩ := h
  have hf := Fr.set (S := fun k => k = F) w (b := F) rfl 0 (.bool v)
  refine ⟨⟨A, cap, (hf.block L (lt_of_block hl) n1).trans hl, hc, fun i t hi => ?_⟩, one_setCell hfi, (hf.block X (lt_of_block hfu) n3).trans hfu, n1, n2, n3, n4, n5, Nat.lt_of_lt_of_le n6 hf.size⟩
  obtain ⟨o, hA, hcell⟩ := hs i t hi
  exact ⟨o, hA, (hf.cell n6 n5).trans hcell⟩
theorem SAt.setList {w : World} {B L F X : Nat} {s : St} (h : SAt w B L F X s) (r : List ByteArray) (A : Option Addr) (cap : Nat) (hcap : r.length ≤ cap)
    (hr : ∀ i t, r[i]? = some t → ∃ o, A = some ⟨B, o, none⟩ ∧ w.cell? ⟨B, o + i, none⟩ = some (.string t)) :
    SAt (w.setCell ⟨L, 0, none⟩ (.slice A r.length cap)) B L F X (r, s.2) := by
  obtain ⟨⟨A', cap', hl, hc, hs⟩, hfi, hfu, n1, n2, n3, n4, n5, n6⟩ := h
  have hf := Fr.set (S := fun k => k = L) w (b := L) rfl 0 (.slice A r.length cap)
  refine ⟨⟨A, cap, one_setCell hl, hcap, fun i t hi => ?_⟩, (hf.block F (lt_of_block hfi) n1.symm).trans hfi, (hf.block X (lt_of_block hfu) n2).trans hfu, n1, n2, n3, n4, n5, Nat.lt_of_lt_of_le n6 hf.size⟩
  obtain ⟨o, hA, hcell⟩ := hr i t hi
  exact ⟨o, hA, (hf.cell n6 n4).trans hcell⟩
def NextPost (B L F X : Nat) (s : St) (w : World) (e : Ending) (w' : World) : Prop := e = .returned (.string (nxt s).1) ∧ SAt w' B L F X (nxt s).2 ∧ Fr (LF L F) w w'
set_option maxHeartbeats 2000000 in
theorem next_any (w : World) (B L F X : Nat) (s : St) (h : SAt w B L F X s) (hn : s.1.length ≤ 4294967296) :
    Calls Tryd.prog 90 #[.pointer (some ⟨L, 0, none⟩), .pointer (some ⟨F, 0, none⟩)] w (NextPost B L F X s w) := by
  obtain ⟨l, fi⟩ := s
  have H := Lib.hid h
  obtain ⟨⟨A, cap, hl, hc, hs⟩, hfi, _, n1, n2, n3, n4, n5, n6⟩ := h
  dsimp only at hl hc hs hfi hn
  have c0 := cell_of_one hl
  have c1 := cell_of_one hfi
  have z0 := free_of_one hl
  have z1 := free_of_one hfi
  have N1 := Lib.hid n1
  cases l with
  | nil =>
    have HP := Lib.hid (show NextPost B L F X ([], fi) w (.returned (.string ⟨#[]⟩)) (w.setCell ⟨F, 0, none⟩ (.bool false)) from ⟨rfl, H.out.setFine false, Fr.set w (Or.inr rfl) 0 _⟩)
    clear hl hfi hs hc n1 n2 n3 n4 n5
    simp only [List.length_nil] at c0
    go_enter Tryd.func90, Tryd.ntmps90
    go_wp2_with fail
    go_ret
    exact HP.out
  | cons t r =>
    obtain ⟨o, rfl, hcell⟩ := hs 0 t rfl
    have HS := Lib.hid hs
    have hcell' : w.cell? ⟨B, o, none⟩ = some (.string t) := hcell
    simp only [List.length_cons] at c0 hc hn
    clear hl hfi hs n1 n2 n3 n4 n5 hcell
    by_cases hk : cap = 1
    · subst hk
      have hr : r = [] := List.length_eq_zero_iff.1 (by omega)
      subst hr
      have HP := Lib.hid (show NextPost B L F X ([t], fi) w (.returned (.string t)) (w.setCell ⟨L, 0, none⟩ (.slice (some ⟨B, o, none⟩) 0 0)) from ⟨rfl, H.out.setList [] (some ⟨B, o, none⟩) 0 (Nat.le_refl _) (fun i t hi => by simp at hi), Fr.set w (Or.inl rfl) 0 _⟩)
      simp only [List.length_nil] at *
      go_enter Tryd.func90, Tryd.ntmps90
      go_wp2_with fail
      go_ret
      exact HP.out
    · have HP := Lib.hid (show NextPost B L F X (t :: r, fi) w (.returned (.string t)) (w.setCell ⟨L, 0, none⟩ (.slice (some ⟨B, o + 1, none⟩) r.length (cap - 1))) from ⟨rfl, H.out.setList r (some ⟨B, o + 1, none⟩) (cap - 1) (by omega) (fun i u hi => by
        obtain ⟨o', e, g4⟩ := HS.out (i + 1) u hi
        injection e with e
        injection e with e1 e2
        subst e2
        exact ⟨o + 1, rfl, by rw [show o + 1 + i = o + (i + 1) by omega]; exact g4⟩), Fr.set w (Or.inl rfl) 0 _⟩)
      go_enter Tryd.func90, Tryd.ntmps90
      go_wp2_with fail
      go_ret
      exact HP.out
end Go.Proofs.YtdibkhddhgaghaaDoor.Hs
