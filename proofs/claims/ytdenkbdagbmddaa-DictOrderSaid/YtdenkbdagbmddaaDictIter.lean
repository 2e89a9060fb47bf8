/- dict: the iterator: All and its closure. -/
import Derived.RangeFuncBox
import Derived.RangeFuncLeaves
import Derived.Shelf.Abstract
import Derived.Shelf.AbstractIn
import Derived.OwnWalkIn
import Derived.TacticsInMore
import Derived.LoopNIn
import Derived.LoopIn
import Derived.Test.YtdenkbdagbmddaaDictDel
namespace Go.Proofs.Ytdenkbdagbmddaa.DcI
open Go.RowKit Go.Shelf Dc DcM DcW
set_option linter.unusedVariables false
attribute [local go_sem] Oper.semAt_some

def encs (x : Pr) : Array Value := #[.string x.1, .string x.2]
def D0 : Pr := (⟨#[]⟩, ⟨#[]⟩)
theorem take_succ (l : List Pr) (k : Nat) (h : k < l.length) : l.take (k + 1) = l.take k ++ [l[k]?.getD D0] := by
  rw [List.take_add_one, List.getElem?_eq_getElem h]
  rfl

/-- What a round keeps: what lay below n₀, and the iterator's own box. -/
def KpD (n₀ Bm : Nat) (W W' : World) : Prop := Below n₀ W W' ∧ W'.heap[Bm]? = W.heap[Bm]?
theorem KpD.trans {n₀ Bm : Nat} {A B C : World} (h : KpD n₀ Bm A B) (k : KpD n₀ Bm B C) : KpD n₀ Bm A C := ⟨h.1.trans k.1, k.2.trans h.2⟩
theorem KpD.refl (n₀ Bm : Nat) (A : World) : KpD n₀ Bm A A := ⟨Below.refl _ _, rfl⟩
theorem KpD.put {n₀ Bm : Nat} {w : World} (hn : n₀ ≤ w.heap.size) (hb : Bm < w.heap.size) (W : World) (l : Nat) (o o' : Obj) (hl : w.heap.size ≤ l) (h : W.heap[l]? = some o) (h1 : o.isCells = false) (h2 : o.isWalk = false) : KpD n₀ Bm W (W.putObj l o') :=
  ⟨belowK_b hn W l o o' hl h h1 h2, World.putObj_heap_other (by omega)⟩
theorem KpD.cell {n₀ Bm : Nat} {A B : World} (h : KpD n₀ Bm A B) {v : Value} (hc : A.cell? ⟨Bm, 0, none⟩ = some v) : B.cell? ⟨Bm, 0, none⟩ = some v := (World.cell?_of_block h.2).trans hc

set_option maxRecDepth 100000 in
set_option maxHeartbeats 4000000 in
/-- The closure: for every loop body that keeps what lay below n₀. -/
theorem all1_in (F : Fence) (n : Nat) (h8 : F.fn 23) (hro : F.round = none) (hn : 1 ≤ n) (lo Bm n₀ g kb vb ck cv : Nat) (l : List Pr) (hreach : l.length < 1000000) (hg : g < n₀) (hkb : kb < n₀) (hvb : vb < n₀) (J Jx : List Pr → World → Prop)
    (hY : ∀ pre x W, J pre W → pre.length < l.length → YieldAt F (n - 1) Try.prog lo #[.string x.1, .string x.2] W fun e W' =>
      (e = .returned (.bool true) ∧ J (pre ++ [x]) W' ∧ KpD n₀ Bm W W') ∨ (e = .returned (.bool false) ∧ Jx (pre ++ [x]) W'))
    (W : World) (hBm : W.cell? ⟨Bm, 0, none⟩ = some (.pointer (some ⟨g, 0, none⟩))) (hks : W.cell? ⟨g, 1, none⟩ = some (.slice (some ⟨kb, 0, none⟩) l.length ck)) (hvs : W.cell? ⟨g, 2, none⟩ = some (.slice (some ⟨vb, 0, none⟩) l.length cv))
    (hk : ∀ j, j < l.length → W.cell? ⟨kb, j, none⟩ = some (.string (l[j]?.getD D0).1)) (hv : ∀ j, j < l.length → W.cell? ⟨vb, j, none⟩ = some (.string (l[j]?.getD D0).2)) (h0 : J [] W) :
    CallsIn F n Try.prog 23 #[.func (.yield lo) #[] #[], .pointer (some ⟨Bm, 0, none⟩)] W fun e W' => (∃ v, e = .returned v) ∧
      ((∃ ys, ys = l ∧ J ys W') ∨ (∃ pre, pre <+: l ∧ Jx pre W')) := by
  refine callsIn_of_wp Try.func23 rfl h8 ?_ hro
  simp only [Try.ntmps23, List.size_toArray, List.length_cons, List.length_nil, Nat.reduceAdd, Nat.reduceSub, Array.replicate_succ, Array.replicate_zero, List.push_toArray, List.append_toArray, List.nil_append, List.cons_append]
  gi_wp2
  gi_loopw [12] (fun i wr => ∃ k : Nat, k ≤ l.length ∧ i = .int .i64 k ∧ J (l.take k) wr ∧ KpD n₀ Bm W wr)
    (fun i _ => l.length - (intOf i).toNat)
  case atStart => exact ⟨0, Nat.zero_le _, rfl, h0, KpD.refl _ _ _⟩
  case round =>
    obtain ⟨k, hkl, rfl, hJs, hnx⟩ := hrel
    have cm := hnx.cell hBm
    have cvs := (hnx.1.cell (p := ⟨g, 2, none⟩) hg).trans hvs
    have HNX := Lib.hid hnx
    by_cases hlt : k < l.length
    · obtain ⟨fn, tmps, assign, body, hy, hR⟩ := hY _ (l[k]?.getD D0) wr hJs (by rw [List.length_take]; omega)
      have cxk := (hnx.1.cell (p := ⟨kb, k, none⟩) hkb).trans (hk k hlt)
      have cxv := (hnx.1.cell (p := ⟨vb, k, none⟩) hvb).trans (hv k hlt)
      have HT := Lib.hid (take_succ l k hlt)
      generalize l[k]?.getD D0 = x at *
      obtain ⟨x1, x2⟩ := x
      simp only at cxk cxv hy
      clear hnx hk hv hY hJs
      gi_wp2
      refine hR.mono ?_
      rintro e W3 (⟨rfl, hJ3, hk3⟩ | ⟨rfl, hJx3⟩)
      · gi_wp2
        go_roundw
        case rel => exact ⟨k + 1, by omega, by simp, by rw [HT.out]; exact hJ3, HNX.out.trans hk3⟩
        case measure => simp [intOf]; omega
      · gi_wp2
        refine bodyPost_ret (results_none rfl _ _ _) rfl ?_
        exact ⟨⟨_, rfl⟩, .inr ⟨_, HT.out ▸ List.take_prefix _ _, hJx3⟩⟩
    · obtain rfl : k = l.length := by omega
      rw [List.take_length] at hJs
      clear hnx hk hv hY
      gi_wp2
      go_end0
      exact ⟨⟨_, rfl⟩, .inl ⟨_, rfl, hJs⟩⟩

set_option maxRecDepth 100000 in
set_option maxHeartbeats 2000000 in
/-- .. of a map without keys: no round. -/
theorem all1_nil_in (F : Fence) (n : Nat) (h8 : F.fn 23) (hro : F.round = none) (lo Bm g ck : Nat) (A : Option Addr) (J : List Pr → World → Prop) (W : World) (hBm : W.cell? ⟨Bm, 0, none⟩ = some (.pointer (some ⟨g, 0, none⟩))) (hks : W.cell? ⟨g, 1, none⟩ = some (.slice A 0 ck)) (h0 : J [] W) :
    CallsIn F n Try.prog 23 #[.func (.yield lo) #[] #[], .pointer (some ⟨Bm, 0, none⟩)] W fun e W' => (∃ v, e = .returned v) ∧ J [] W' := by
  refine callsIn_of_wp Try.func23 rfl h8 ?_ hro
  simp only [Try.ntmps23, List.size_toArray, List.length_cons, List.length_nil, Nat.reduceAdd, Nat.reduceSub, Array.replicate_succ, Array.replicate_zero, List.push_toArray, List.append_toArray, List.nil_append, List.cons_append]
  gi_wp2
  gi_loopw [12] (fun i wr => i = .int .i64 0 ∧ J [] wr) (fun _ _ => 0)
  case atStart => exact ⟨rfl, h0⟩
  case round =>
    obtain ⟨rfl, hJs⟩ := hrel
    gi_wp2
    go_end0
    exact ⟨⟨_, rfl⟩, hJs⟩

set_option maxHeartbeats 2000000 in
theorem all_in (F : Fence) (n : Nat) (h6 : F.fn 17) (hro : F.round = none) (p0 : Option Addr) (w : World) :
    CallsIn F n Try.prog 17 #[.pointer p0] w fun e w' => e = .returned (.func (.func 23) #[] #[.pointer (some ⟨w.heap.size, 0, none⟩)]) ∧ w' = w.alloc (.cells #[.pointer p0] 26) := by
  refine callsIn_of_wp Try.func17 rfl h6 ?_ hro
  simp only [Try.ntmps17, List.size_toArray, List.length_cons, List.length_nil, Nat.reduceAdd, Nat.reduceSub, Array.replicate_succ, Array.replicate_zero, List.push_toArray, List.append_toArray, List.nil_append, List.cons_append]
  gi_wp2
  go_ret
  exact ⟨rfl, rfl⟩

/-- All hands back a value that gives the pairs, in their order; n₀: beyond the map's blocks and the box. -/
theorem all_stops (F : Fence) (n : Nat) (h8 : F.fn 23) (hro : F.round = none) (hn : 1 ≤ n) (Bm b0 n₀ g : Nat) (kb vb : Option Nat) (l : List Pr) (hreach : l.length < 1000000) (w : World) (hBm : Bm < w.heap.size) (hn₀ : n₀ ≤ w.heap.size) (hg : g < n₀) (hkb : ∀ k, kb = some k → k < n₀) (hvb : ∀ k, vb = some k → k < n₀)
    (hc : w.cell? ⟨Bm, 0, none⟩ = some (.pointer (some ⟨g, 0, none⟩))) (hD : IsD w b0 g kb vb l) :
    SeqStopsK F n Try.prog 23 #[.pointer (some ⟨Bm, 0, none⟩)] encs (KpD n₀ Bm) (fun ys => ys = l) (fun pre => pre <+: l) l.length w := fun lo J Jx W hW _ _ hY h0 => by
  have hWn : Below n₀ w W := hW.mono hn₀
  have hc' := (hW.cell (p := ⟨Bm, 0, none⟩) hBm).trans hc
  have hD' : IsD W b0 g kb vb l := hD.kept (hWn.block g hg) (fun k e => hWn.block k (hkb k e)) (fun k e => hWn.block k (hvb k e))
  obtain ⟨ks, vs, c0, c1, c2, rk, rv, e1, e2⟩ := hD'.cells
  rcases Row.parts rk with ⟨rfl, hz⟩ | ⟨b1, cap1, rest1, rfl, _, hh1, _, _⟩
  · rw [List.map_eq_nil_iff] at hz
    subst hz
    exact (all1_nil_in F n h8 hro lo Bm g 0 none J W hc' c1 h0).mono fun e W' ⟨he, hj⟩ => ⟨he, .inl ⟨_, rfl, hj⟩⟩
  · rcases Row.parts rv with ⟨rfl, hz⟩ | ⟨b2, cap2, rest2, rfl, _, hh2, _, _⟩
    · rw [List.map_eq_nil_iff] at hz
      subst hz
      exact (all1_nil_in F n h8 hro lo Bm g _ _ J W hc' c1 h0).mono fun e W' ⟨he, hj⟩ => ⟨he, .inl ⟨_, rfl, hj⟩⟩
    · rw [List.length_map] at c1 c2
      refine all1_in F n h8 hro hn lo Bm n₀ g b1 b2 cap1 cap2 l hreach hg (hkb b1 (by rw [← e1]; rfl)) (hvb b2 (by rw [← e2]; rfl)) J Jx hY W hc' c1 c2 (fun j hj => ?_) (fun j hj => ?_) h0
      · have := Row.cell hh1 j (.string (l[j]?.getD D0).1) (by simp [hj])
        rwa [Nat.zero_add] at this
      · have := Row.cell hh2 j (.string (l[j]?.getD D0).2) (by simp [hj])
        rwa [Nat.zero_add] at this
end Go.Proofs.Ytdenkbdagbmddaa.DcI
