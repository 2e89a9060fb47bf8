/- hist.call: the walk (a line read by closures). -/
import Derived.Test.YtdibkhddhgaghaaDoorHistNum
import Derived.Test.YtdibkhddhgaghaaDoorTextPure
import Derived.Test.YtdibkhddhgaghaaDoorShelf
import Derived.Laws.EntriesVeiled
import Derived.Test.YtdibkhddhgaghaaDoorRoundReg
import Derived.Deep.AppendLies
import Derived.Laws.OwnMore
import Derived.Maps.Own
import Derived.Deep.Onto
namespace Go.Proofs.YtdibkhddhgaghaaDoor.Hs
open Go.RowKit
set_option linter.unusedVariables false
set_option linter.unusedSimpArgs false
theorem frozen_of' {w : World} {g : Nat} {cs : Array Value} {T : TypeId} (h : w.heap[g]? = some (.cells cs T (0, 0))) (i : Nat) : w.frozen? ⟨g, i, none⟩ = false := by
  simp [World.frozen?, h]
theorem set1 {w : World} {b : Nat} {cs : Array Value} {T : TypeId} (h : w.heap[b]? = some (.cells cs T (0, 0))) (i : Nat) (u : Value) : (w.setCell ⟨b, i, none⟩ u).heap[b]? = some (.cells (cs.setIfInBounds i u) T (0, 0)) := by
  simp [World.setCell, Array.getElem?_modify, h]
theorem ret_call {fn : Func} (hf : fn.results = #[.cell 2 50, .tmp 3]) {w : World} {b : Nat} {cs : Array Value} (h : w.heap[b]? = some (.cells cs 50 (0, 0))) (hcs : cs.size = 15) {tmps : Array Value} (hp : tmps.getD 2 undef = .pointer (some ⟨b, 0, none⟩)) :
    (results fn tmps).run Tryd.prog w = .ok (.tuple #[.agg cs, tmps.getD 3 undef]) w := by
  rw [results_cell_tmp hf, hp]
  have hi : (Tryd.prog.info? 50).map (·.size) = some cs.size := by rw [hcs]; kernel_rfl
  simp [asAddr, run_loadVar_row w b 50 50 cs (0, 0) _ h Tryd.underlying50 rfl hi]
theorem set15 {w : World} {b : Nat} {a0 a1 a2 a3 a4 a5 a6 a7 a8 a9 a10 a11 a12 a13 a14 : Value} {T : TypeId} (h : w.heap[b]? = some (.cells #[a0, a1, a2, a3, a4, a5, a6, a7, a8, a9, a10, a11, a12, a13, a14] T (0, 0))) (u0 u1 u2 u3 u4 u5 u6 u7 u8 u9 u10 u11 u12 u13 u14 : Value) :
    (((((((((((((((w.setCell ⟨b, 0, none⟩ u0).setCell ⟨b, 1, none⟩ u1).setCell ⟨b, 2, none⟩ u2).setCell ⟨b, 3, none⟩ u3).setCell ⟨b, 4, none⟩ u4).setCell ⟨b, 5, none⟩ u5).setCell ⟨b, 6, none⟩ u6).setCell ⟨b, 7, none⟩ u7).setCell ⟨b, 8, none⟩ u8).setCell ⟨b, 9, none⟩ u9).setCell ⟨b, 10, none⟩ u10).setCell ⟨b, 11, none⟩ u11).setCell ⟨b, 12, none⟩ u12).setCell ⟨b, 13, none⟩ u13).setCell ⟨b, 14, none⟩ u14).heap[b]? = some (.cells #[u0, u1, u2, u3, u4, u5, u6, u7, u8, u9, u10, u11, u12, u13, u14] T (0, 0)) := by
  have := set1 (set1 (set1 (set1 (set1 (set1 (set1 (set1 (set1 (set1 (set1 (set1 (set1 (set1 (set1 (h) 0 u0) 1 u1) 2 u2) 3 u3) 4 u4) 5 u5) 6 u6) 7 u7) 8 u8) 9 u9) 10 u10) 11 u11) 12 u12) 13 u13) 14 u14
  simpa using this
theorem below15 {B : Nat} {w0 w : World} {b : Nat} (h : Below B w0 w) (hb : B ≤ b) (u0 u1 u2 u3 u4 u5 u6 u7 u8 u9 u10 u11 u12 u13 u14 : Value) : Below B w0 (((((((((((((((w.setCell ⟨b, 0, none⟩ u0).setCell ⟨b, 1, none⟩ u1).setCell ⟨b, 2, none⟩ u2).setCell ⟨b, 3, none⟩ u3).setCell ⟨b, 4, none⟩ u4).setCell ⟨b, 5, none⟩ u5).setCell ⟨b, 6, none⟩ u6).setCell ⟨b, 7, none⟩ u7).setCell ⟨b, 8, none⟩ u8).setCell ⟨b, 9, none⟩ u9).setCell ⟨b, 10, none⟩ u10).setCell ⟨b, 11, none⟩ u11).setCell ⟨b, 12, none⟩ u12).setCell ⟨b, 13, none⟩ u13).setCell ⟨b, 14, none⟩ u14) := (((((((((((((((h).setCell (p := ⟨b, 0, none⟩) hb u0).setCell (p := ⟨b, 1, none⟩) hb u1).setCell (p := ⟨b, 2, none⟩) hb u2).setCell (p := ⟨b, 3, none⟩) hb u3).setCell (p := ⟨b, 4, none⟩) hb u4).setCell (p := ⟨b, 5, none⟩) hb u5).setCell (p := ⟨b, 6, none⟩) hb u6).setCell (p := ⟨b, 7, none⟩) hb u7).setCell (p := ⟨b, 8, none⟩) hb u8).setCell (p := ⟨b, 9, none⟩) hb u9).setCell (p := ⟨b, 10, none⟩) hb u10).setCell (p := ⟨b, 11, none⟩) hb u11).setCell (p := ⟨b, 12, none⟩) hb u12).setCell (p := ⟨b, 13, none⟩) hb u13).setCell (p := ⟨b, 14, none⟩) hb u14
theorem drew_heap (X : World) : X.drew.heap = X.heap := rfl
theorem set15d {w : World} {b : Nat} {a0 a1 a2 a3 a4 a5 a6 a7 a8 a9 a10 a11 a12 a13 a14 : Value} {T : TypeId} (h : w.heap[b]? = some (.cells #[a0, a1, a2, a3, a4, a5, a6, a7, a8, a9, a10, a11, a12, a13, a14] T (0, 0))) (u0 u1 u2 u3 u4 u5 u6 u7 u8 u9 u10 u11 u12 u13 u14 : Value) :
    ((((((((((((((((w.setCell ⟨b, 0, none⟩ u0).setCell ⟨b, 1, none⟩ u1).setCell ⟨b, 2, none⟩ u2).setCell ⟨b, 3, none⟩ u3).setCell ⟨b, 4, none⟩ u4).setCell ⟨b, 5, none⟩ u5).setCell ⟨b, 6, none⟩ u6).setCell ⟨b, 7, none⟩ u7).setCell ⟨b, 8, none⟩ u8).setCell ⟨b, 9, none⟩ u9).setCell ⟨b, 10, none⟩ u10).setCell ⟨b, 11, none⟩ u11).setCell ⟨b, 12, none⟩ u12).setCell ⟨b, 13, none⟩ u13).setCell ⟨b, 14, none⟩ u14).drew).heap[b]? = some (.cells #[u0, u1, u2, u3, u4, u5, u6, u7, u8, u9, u10, u11, u12, u13, u14] T (0, 0)) := by rw [drew_heap]; exact set15 h u0 u1 u2 u3 u4 u5 u6 u7 u8 u9 u10 u11 u12 u13 u14
theorem fr15 {S : Nat → Prop} {w0 w : World} {b : Nat} (h : Fr S w0 w) (hb : S b) (u0 u1 u2 u3 u4 u5 u6 u7 u8 u9 u10 u11 u12 u13 u14 : Value) : Fr S w0 (((((((((((((((w.setCell ⟨b, 0, none⟩ u0).setCell ⟨b, 1, none⟩ u1).setCell ⟨b, 2, none⟩ u2).setCell ⟨b, 3, none⟩ u3).setCell ⟨b, 4, none⟩ u4).setCell ⟨b, 5, none⟩ u5).setCell ⟨b, 6, none⟩ u6).setCell ⟨b, 7, none⟩ u7).setCell ⟨b, 8, none⟩ u8).setCell ⟨b, 9, none⟩ u9).setCell ⟨b, 10, none⟩ u10).setCell ⟨b, 11, none⟩ u11).setCell ⟨b, 12, none⟩ u12).setCell ⟨b, 13, none⟩ u13).setCell ⟨b, 14, none⟩ u14) := (((((((((((((((h).put hb 0 u0).put hb 1 u1).put hb 2 u2).put hb 3 u3).put hb 4 u4).put hb 5 u5).put hb 6 u6).put hb 7 u7).put hb 8 u8).put hb 9 u9).put hb 10 u10).put hb 11 u11).put hb 12 u12).put hb 13 u13).put hb 14 u14
def zeroC : Array Value := #[.int .i64 0, .int .i64 0, .int .i64 0, .string ⟨#[]⟩, .string ⟨#[]⟩, .string ⟨#[]⟩, .int .i64 0, .int .i64 0, .bool false, .int .i64 0, .bool false, .bool false, .string ⟨#[]⟩, .int .i64 0, .slice none 0 0]
/-- A line's words. -/
def words (s : ByteArray) : List ByteArray := Lib.splitB ⟨#[32]⟩ 0 (Lib.countB s ⟨#[32]⟩) s
theorem words_data (s : ByteArray) : (words s).map (·.data.toList) = Tx.sp 32 s.data.toList := by
  unfold words
  rw [Lib.splitB_data]
  exact Tx.split_sp 32 s.data.toList
theorem words_len (s : ByteArray) : (words s).length = Lib.countB s ⟨#[32]⟩ + 1 := Lib.splitB_all ⟨#[32]⟩ (by decide) 0 _ s rfl
theorem words_count (s : ByteArray) : Lib.countB s ⟨#[32]⟩ ≤ s.size := Lib.countB_le ⟨#[32]⟩ (by decide) s.size s (Nat.le_refl _)
theorem sp_small (b : UInt8) : ∀ (n : Nat) (l : List UInt8), l.length ≤ n → ∀ p ∈ Tx.sp b l, p.length ≤ l.length := by
  intro n
  induction n with
  | zero =>
    intro l hl p hp
    obtain rfl : l = [] := List.length_eq_zero_iff.1 (by omega)
    simp [Tx.sp] at hp; simp [hp]
  | succ n ih =>
    intro l hl p hp
    rcases Tx.first_b b l with h | ⟨x, y, rfl, h⟩
    · rw [Tx.sp_miss h] at hp; simp at hp; rw [hp]; exact Nat.le_refl _
    · rw [Tx.sp_hit h] at hp
      rcases List.mem_cons.1 hp with rfl | hp
      · simp
      · have := ih y (by simp at hl; omega) p hp
        simp; omega
theorem words_small (s : ByteArray) (h : s.size ≤ 100000000) : Small (words s, true) := by
  refine ⟨?_, fun t ht => ?_⟩
  · dsimp only; rw [words_len]; have := words_count s; omega
  · have h1 : t.data.toList ∈ Tx.sp 32 s.data.toList := by rw [← words_data]; exact List.mem_map_of_mem ht
    have := sp_small 32 _ s.data.toList (Nat.le_refl _) _ h1
    simp at this
    omega
/-- The blocks of a call of hist.call. -/
structure CAt (w W : World) (r B L F X c9 : Nat) (c : Array Value) (s : St) : Prop where
  sat : SAt W B L F X s
  cb : W.heap[c9]? = some (.cells c 50 (0, 0))
  rb : W.heap[r]? = some (.cells zeroC 50 (0, 0))
  below : Below w.heap.size w W
  small : Small s
  ord : w.heap.size ≤ r ∧ r < B ∧ B < L ∧ L < F ∧ F < X ∧ X < c9
theorem CAt.step {w W W' : World} {r B L F X c9 : Nat} {c : Array Value} {s s' : St} (h : CAt w W r B L F X c9 c s) (hs : SAt W' B L F X s') (hf : Fr (LF L F) W W') (hsm : Small s') : CAt w W' r B L F X c9 c s' := by
  have o := h.ord
  exact ⟨hs, (hf.block _ (lt_of_block h.cb) (by unfold LF; omega)).trans h.cb, (hf.block _ (lt_of_block h.rb) (by unfold LF; omega)).trans h.rb, h.below.trans (hf.below (fun k hk => by unfold LF at hk; omega) h.below.size), hsm, o⟩
theorem CAt.put {w W : World} {r B L F X c9 : Nat} {c : Array Value} {s : St} (h : CAt w W r B L F X c9 c s) (i : Nat) (v : Value) : CAt w (W.setCell ⟨c9, i, none⟩ v) r B L F X c9 (c.setIfInBounds i v) s := by
  have o := h.ord
  have hf := Fr.set (S := fun k => k = c9) W (b := c9) rfl i v
  exact ⟨h.sat.fr hf (by omega) (by omega) (by omega) (by omega), set1 h.cb i v, (hf.block _ (lt_of_block h.rb) (by omega)).trans h.rb, h.below.trans (hf.below (fun k hk => by omega) h.below.size), h.small, o⟩
theorem CAt.put1 {w W : World} {r B L F X c9 : Nat} {c c' : Array Value} {s : St} (h : CAt w W r B L F X c9 c s) (i : Nat) (u : Value) (hc : c.setIfInBounds i u = c') : CAt w (W.setCell ⟨c9, i, none⟩ u) r B L F X c9 c' s := hc ▸ h.put i u
theorem CAt.put3 {w W : World} {r B L F X c9 : Nat} {c c' : Array Value} {s : St} (h : CAt w W r B L F X c9 c s) (i j k : Nat) (u v x : Value) (hc : ((c.setIfInBounds i u).setIfInBounds j v).setIfInBounds k x = c') : CAt w (((W.setCell ⟨c9, i, none⟩ u).setCell ⟨c9, j, none⟩ v).setCell ⟨c9, k, none⟩ x) r B L F X c9 c' s := hc ▸ ((h.put i u).put j v).put k x
theorem CAt.put2 {w W : World} {r B L F X c9 : Nat} {c c' : Array Value} {s : St} (h : CAt w W r B L F X c9 c s) (i j : Nat) (u v : Value) (hc : (c.setIfInBounds i u).setIfInBounds j v = c') : CAt w ((W.setCell ⟨c9, i, none⟩ u).setCell ⟨c9, j, none⟩ v) r B L F X c9 c' s := hc ▸ (h.put i u).put j v
theorem num_c {w W : World} {r B L F X c9 : Nat} {c : Array Value} {s s' : St} (h : CAt w W r B L F X c9 c s) (a b : Int) (v : Int) (he : num a b s = (v, s')) :
    Calls Tryd.prog 91 #[.int .i64 a, .int .i64 b, .pointer (some ⟨X, 0, none⟩), .pointer (some ⟨F, 0, none⟩)] W fun e W' => e = .returned (.int .i64 v) ∧ CAt w W' r B L F X c9 c s' :=
  (number_any W B L F X s a b h.sat h.small).mono fun e W' ⟨h1, h2, h3⟩ => by rw [he] at h1 h2; exact ⟨h1, h.step h2 h3 (by have := (h.small.num (a := a) (b := b)); rwa [he] at this)⟩
theorem txt_c {w W : World} {r B L F X c9 : Nat} {c : Array Value} {s s' : St} (h : CAt w W r B L F X c9 c s) (v : ByteArray) (he : txt s = (v, s')) :
    Calls Tryd.prog 93 #[.pointer (some ⟨X, 0, none⟩), .pointer (some ⟨F, 0, none⟩)] W fun e W' => e = .returned (.string v) ∧ CAt w W' r B L F X c9 c s' :=
  (text_any W B L F X s h.sat h.small).mono fun e W' ⟨h1, h2, h3⟩ => by rw [he] at h1 h2; exact ⟨h1, h.step h2 h3 (by have := h.small.txt; rwa [he] at this)⟩
theorem txt_f {w W : World} {r B L F X c9 : Nat} {c : Array Value} {s s' : St} (h : CAt w W r B L F X c9 c s) (v : ByteArray) (he : txt s = (v, s')) :
    Calls Tryd.prog 93 #[.pointer (some ⟨X, 0, none⟩), .pointer (some ⟨F, 0, none⟩)] W fun e W' => e = .returned (.string v) ∧ CAt w W' r B L F X c9 c s' ∧ Fr (LF L F) W W' :=
  (text_any W B L F X s h.sat h.small).mono fun e W' ⟨h1, h2, h3⟩ => by rw [he] at h1 h2; exact ⟨h1, h.step h2 h3 (by have := h.small.txt; rwa [he] at this), h3⟩
theorem CAt.bel {w W W' : World} {r B L F X c9 : Nat} {c : Array Value} {s : St} (h : CAt w W r B L F X c9 c s) (hb : Below W.heap.size W W') : CAt w W' r B L F X c9 c s := h.step (h.sat.below hb) (Fr.of_below hb) h.small
theorem CAt.grow {w W W' : World} {r B L F X c9 : Nat} {c : Array Value} {s : St} (h : CAt w W r B L F X c9 c s) {row : Option Nat} (hg : W.grownBy W' row) (hr : ∀ k, row = some k → c9 < k) : CAt w W' r B L F X c9 c s := by
  have o := h.ord
  have hf : Fr (fun k => c9 < k) W W' := ⟨hg.os, hg.tape, hg.output, hg.size, fun k hk h1 => hg.block k hk (fun e => h1 (hr k e.symm))⟩
  exact ⟨h.sat.fr hf (by omega) (by omega) (by omega) (by omega), (hf.block _ (lt_of_block h.cb) (by omega)).trans h.cb, (hf.block _ (lt_of_block h.rb) (by omega)).trans h.rb, h.below.trans (hf.below (fun k hk => by omega) h.below.size), h.small, o⟩
theorem own_fr {w w' : World} {base : Nat} {e : TypeId} {size n : Nat} {v : Value} {xs : List Value} (h : w.ownsRow base e size v n xs) {S : Nat → Prop} (hf : Fr S w w') (hs : ∀ k, base ≤ k → ¬ S k) : w'.ownsRow base e size v n xs := by
  obtain ⟨h1, h2 | ⟨g, cap, cur, hv, hb, hg, rest⟩⟩ := h
  · exact ⟨h1, .inl h2⟩
  · exact ⟨h1, .inr ⟨g, cap, cur, hv, hb, (hf.block g (lt_of_block hg) (hs g hb)).trans hg, rest⟩⟩
theorem info_parts {P : Program} {e : TypeId} {z : Option Value} {size bytes : Nat} (h : (P.info? e).map (fun i => (i.zero, i.size, i.bytes)) = some (z, size, bytes)) : ∃ i, P.info? e = some i ∧ i.zero = z ∧ i.size = size ∧ i.bytes = bytes := by
  cases hi : P.info? e with
  | none => rw [hi] at h; cases h
  | some i =>
    rw [hi] at h
    injection h with h
    injection h with h1 h
    injection h with h2 h3
    exact ⟨i, rfl, h1, h2, h3⟩
theorem infoP : (Tryd.prog.info? 95).map (fun i => (i.zero, i.size, i.bytes)) = some (some (.agg #[.string ⟨#[]⟩, .string ⟨#[]⟩]), 2, 32) := by kernel_rfl
theorem call_start (w : World) (ws : List ByteArray) (hs : Small (ws, true)) (w1 : World) (hw1 : w1 = (w.alloc (.cells zeroC 50)).alloc (.cells (ws.map Value.string).toArray 9)) :
    CAt w ((((w1.alloc (.cells #[.slice (some ⟨w.heap.size + 1, 0, none⟩) ws.length ws.length] 70)).alloc (.cells #[.bool true] 4)).alloc (.cells #[.func (.func 90) #[] #[.pointer (some ⟨w1.heap.size, 0, none⟩), .pointer (some ⟨w1.heap.size + 1, 0, none⟩)]] 100)).alloc (.cells zeroC 50)) w.heap.size (w.heap.size + 1) w1.heap.size (w1.heap.size + 1) (w1.heap.size + 1 + 1) (w1.heap.size + 1 + 1 + 1) zeroC (ws, true) := by
  have hz1 : w1.heap.size = w.heap.size + 2 := by rw [hw1]; simp
  generalize hA : w1.alloc (.cells #[.slice (some ⟨w.heap.size + 1, 0, none⟩) ws.length ws.length] 70) = A
  generalize hB : A.alloc (.cells #[.bool true] 4) = B
  generalize hC : B.alloc (.cells #[.func (.func 90) #[] #[.pointer (some ⟨w1.heap.size, 0, none⟩), .pointer (some ⟨w1.heap.size + 1, 0, none⟩)]] 100) = D
  have zA : A.heap.size = w.heap.size + 3 := by rw [← hA]; simp [hz1]
  have zB : B.heap.size = w.heap.size + 4 := by rw [← hB]; simp [zA]
  have zD : D.heap.size = w.heap.size + 5 := by rw [← hC]; simp [zB]
  have bA : Below w1.heap.size w1 A := by rw [← hA]; exact (Below.refl _ _).alloc (Nat.le_refl _) _
  have bB : Below A.heap.size A B := by rw [← hB]; exact (Below.refl _ _).alloc (Nat.le_refl _) _
  have bC : Below B.heap.size B D := by rw [← hC]; exact (Below.refl _ _).alloc (Nat.le_refl _) _
  have nA : A.heap[w1.heap.size]? = some (.cells #[.slice (some ⟨w.heap.size + 1, 0, none⟩) ws.length ws.length] 70 (0, 0)) := by rw [← hA]; exact heap_alloc_new w1 _
  have nB : B.heap[w1.heap.size + 1]? = some (.cells #[.bool true] 4 (0, 0)) := by rw [show w1.heap.size + 1 = A.heap.size by omega, ← hB]; exact heap_alloc_new A _
  have nD : D.heap[w1.heap.size + 1 + 1]? = some (.cells #[.func (.func 90) #[] #[.pointer (some ⟨w1.heap.size, 0, none⟩), .pointer (some ⟨w1.heap.size + 1, 0, none⟩)]] 100 (0, 0)) := by rw [show w1.heap.size + 1 + 1 = B.heap.size by omega, ← hC]; exact heap_alloc_new B _
  have n1 : w1.heap[w.heap.size + 1]? = some (.cells (ws.map Value.string).toArray 9 (0, 0)) := by
    rw [hw1, show w.heap.size + 1 = (w.alloc (.cells zeroC 50)).heap.size by simp]; exact heap_alloc_new _ _
  have n0 : w1.heap[w.heap.size]? = some (.cells zeroC 50 (0, 0)) := by
    rw [hw1]; exact (Below.heap_alloc _ _ _ (by simp)).trans (heap_alloc_new w _)
  have b1 : Below w.heap.size w w1 := by rw [hw1]; exact ((Below.refl _ _).alloc (Nat.le_refl _) _).alloc (by simp) _
  have bA3 : Below w1.heap.size w1 D := (bA.trans (bB.mono (by omega))).trans (bC.mono (by omega))
  have hfe : Fr (fun _ => False) D (D.alloc (.cells zeroC 50)) := Fr.of_below ((Below.refl _ _).alloc (Nat.le_refl _) _)
  have old : ∀ k o, w1.heap[k]? = some o → k < w1.heap.size → (D.alloc (.cells zeroC 50)).heap[k]? = some o := fun k o h hk =>
    (hfe.block k (by omega) id).trans ((bA3.block k hk).trans h)
  have hcell : (D.alloc (.cells zeroC 50)).heap[w.heap.size + 1]? = some (.cells (ws.map Value.string).toArray 9 (0, 0)) := old _ _ n1 (by omega)
  refine ⟨⟨⟨some ⟨w.heap.size + 1, 0, none⟩, ws.length, ?_, Nat.le_refl _, fun i t hi => ⟨0, rfl, ?_⟩⟩, ?_, ?_, by omega, by omega, by omega, by omega, by omega, by simp; omega⟩, ?_, old _ _ n0 (by omega), ?_, hs, by omega⟩
  · exact (hfe.block _ (by omega) id).trans ((bC.block _ (by omega)).trans ((bB.block _ (by omega)).trans nA))
  · rw [Nat.zero_add, cell_of' hcell i]; simp; exact hi
  · exact (hfe.block _ (by omega) id).trans ((bC.block _ (by omega)).trans nB)
  · exact (hfe.block _ (by omega) id).trans nD
  · rw [show w1.heap.size + 1 + 1 + 1 = D.heap.size by omega]; exact heap_alloc_new D _
  · exact (b1.trans (bA3.mono (by omega))).trans (hfe.below (fun k hk => hk.elim) (by omega))
/-! ### plain -/
def far : Int := 9223372036854775807
/-- The fifteen words of a line. -/
def rdLine (s0 : St) : (CallL × Int) × St :=
  let x0 := num (-far) far s0
  let x1 := num (-far) far x0.2
  let x2 := num (-far) far x1.2
  let x3 := txt x2.2
  let x4 := txt x3.2
  let x5 := txt x4.2
  let x6 := num (-far) far x5.2
  let x7 := num (-far) far x6.2
  let x8 := num 0 1 x7.2
  let x9 := num (-far) far x8.2
  let x10 := num 0 1 x9.2
  let x11 := num 0 1 x10.2
  let x12 := txt x11.2
  let x13 := num (-far) far x12.2
  let x14 := num 0 far x13.2
  ((⟨x0.1, x1.1, ⟨x2.1, x3.1, x4.1, x5.1⟩, x6.1, x7.1, x8.1 == 1, ⟨x9.1, x10.1 == 1, x11.1 == 1, x12.1, x13.1, []⟩⟩, x14.1), x14.2)
def pairsM : Nat → St → List Pr × St
  | 0, s => ([], s)
  | n + 1, s => ((pairsM n s).1 ++ [((txt (pairsM n s).2).1, (txt (txt (pairsM n s).2).2).1)], (txt (txt (pairsM n s).2).2).2)
def zeroCall : CallL := ⟨0, 0, ⟨0, ⟨#[]⟩, ⟨#[]⟩, ⟨#[]⟩⟩, 0, 0, false, {}⟩
def callM (s : ByteArray) : CallL × Bool :=
  let r := rdLine (words s, true)
  if r.2.2 = true ∧ r.2.1.length % 2 = 0 ∧ r.1.2 = ((r.2.1.length / 2 : Nat) : Int) then
    ({ r.1.1 with reply := { r.1.1.reply with pairs := (pairsM (r.2.1.length / 2) r.2).1 } }, (pairsM (r.2.1.length / 2) r.2).2.2)
  else (zeroCall, false)
theorem callM_no {s : ByteArray} {c : CallL} {n : Int} {l : List ByteArray} {f : Bool} (h : rdLine (words s, true) = ((c, n), (l, f))) (hn : ¬ (f = true ∧ l.length % 2 = 0 ∧ n = ((l.length / 2 : Nat) : Int))) : callM s = (zeroCall, false) := by
  unfold callM; rw [h]; exact if_neg hn
theorem callM_yes {s : ByteArray} {c : CallL} {l : List ByteArray} (h : rdLine (words s, true) = ((c, ((l.length / 2 : Nat) : Int)), (l, true))) (he : l.length % 2 = 0) : callM s = ({ c with reply := { c.reply with pairs := (pairsM (l.length / 2) (l, true)).1 } }, (pairsM (l.length / 2) (l, true)).2.2) := by
  unfold callM; rw [h]; exact if_pos ⟨rfl, he, rfl⟩
def cellsP (l : List Pr) : List Value := l.flatMap fun p => [.string p.1, .string p.2]
theorem cellsP_snoc (l : List Pr) (p : Pr) : cellsP (l ++ [p]) = cellsP l ++ [.string p.1, .string p.2] := by simp [cellsP]
theorem cellsP_at : ∀ (l : List Pr) (j : Nat) (p : Pr), l[j]? = some p → (cellsP l)[j * 2]? = some (.string p.1) ∧ (cellsP l)[j * 2 + 1]? = some (.string p.2)
  | [], j, p, h => by simp at h
  | q :: l, 0, p, h => by
    simp at h; subst h
    exact ⟨rfl, rfl⟩
  | q :: l, j + 1, p, h => by
    have ih := cellsP_at l j p (by simpa using h)
    rw [show (j + 1) * 2 = j * 2 + 2 by omega]
    exact ih
theorem Prs.of_owns {w : World} {base : Nat} {e : TypeId} {v : Value} {l : List Pr} {n : Nat} (h : w.ownsRow base e 2 v n (cellsP l)) (hn : n = l.length) : Prs w v l := by
  subst hn
  obtain ⟨_, ⟨rfl, h0⟩ | ⟨g, cap, cur, rfl, hb, hg, hc, _, hs, ht⟩⟩ := h
  · have : l = [] := List.length_eq_zero_iff.1 h0
    subst this
    exact ⟨none, 0, rfl, Nat.le_refl _, fun j p hj => by simp at hj⟩
  · refine ⟨some ⟨g, 0, none⟩, cap, rfl, hc, fun j p hj => ⟨g, 0, rfl, lt_of_block hg, ?_⟩⟩
    have hjl := (List.getElem?_eq_some_iff.1 hj).1
    obtain ⟨h1, h2⟩ := cellsP_at l j p hj
    rw [← ht] at h1 h2
    rw [List.getElem?_take_of_lt (by omega)] at h1 h2
    rw [cell_of' hg, cell_of' hg]
    rw [Nat.zero_add]
    exact ⟨by simpa using h1, by simpa using h2⟩
theorem pairsM_len (s : St) : ∀ n, (pairsM n s).1.length = n
  | 0 => rfl
  | n + 1 => by unfold pairsM; rw [List.length_append, pairsM_len s n]; rfl
def CallPost (s : ByteArray) (w : World) (e : Ending) (w' : World) : Prop := ∃ pv, e = .returned (.tuple #[encC (callM s).1 pv, .bool (callM s).2]) ∧ w'.ownsRow w.heap.size 95 2 pv (callM s).1.reply.pairs.length (cellsP (callM s).1.reply.pairs) ∧ Below w.heap.size w w'
theorem zero_end {s : ByteArray} {w W : World} (hc : callM s = (zeroCall, false)) (hb : Below w.heap.size w W) : CallPost s w (.returned (.tuple #[.agg zeroC, .bool false])) W :=
  ⟨.slice none 0 0, by rw [hc]; rfl, by rw [hc]; exact World.ownsRow_nil _ _ _ _, hb⟩
theorem region_till {P : Program} {ops : Array Oper} {Q : Exit → Act → World → Prop} {id : Nat} {a : Act} {w : World} (T S : World → Prop) (s1 : Nat) (hm : P.follows .mixedOrders = true) (h : Rr.wpTill P .any ops Q T S s1 ops.size (Array.replicate ops.size false) a w.drew) : (Code.region id ops true).wp P Q a w := wp_region_any hm (Rr.any_of_till _ _ _ _ h)
/-- At a round's head. -/
def RL (w : World) (r B L F X c9 : Nat) (cf : Value → Array Value) (s : St) (k : Nat) (W : World) : Prop := ∃ pv, CAt w W r B L F X c9 (cf pv) (pairsM k s).2 ∧ W.ownsRow (c9 + 1) 95 2 pv k (cellsP (pairsM k s).1)
theorem RL.zero {w W : World} {r B L F X c9 : Nat} {cf : Value → Array Value} {s : St} (h : CAt w W r B L F X c9 (cf (.slice none 0 0)) s) : RL w r B L F X c9 cf s 0 W := ⟨_, h, World.ownsRow_nil _ _ _ _⟩
set_option maxRecDepth 100000 in
set_option maxHeartbeats 16000000 in
theorem call_any (w : World) (m : Int) (s : ByteArray) (hs : s.size ≤ 100000000) (hm : w.cell? ⟨2, 0, none⟩ = some (.int .i64 m)) (hm2 : 2 < w.heap.size) :
    Calls Tryd.prog 53 #[.string s] w (CallPost s w) := by
  have HSP := Lib.hid (fun W h => Tryd.strings_Split s ⟨#[32]⟩ m W (by omega) h (by decide))
  have HM1 := Lib.hid (show (w.alloc (.cells zeroC 50)).cell? ⟨2, 0, none⟩ = some (.int .i64 m) from (((Below.refl w.heap.size w).alloc (Nat.le_refl _) _).cell (p := ⟨2, 0, none⟩) hm2).trans hm)
  have HL := Lib.hid (words_len s)
  have HSM := Lib.hid (words_small s hs)
  obtain ⟨⟨v0, s1⟩, e0⟩ : ∃ x, num (-9223372036854775807) 9223372036854775807 (words s, true) = x := ⟨_, rfl⟩
  obtain ⟨⟨v1, s2⟩, e1⟩ : ∃ x, num (-9223372036854775807) 9223372036854775807 s1 = x := ⟨_, rfl⟩
  obtain ⟨⟨v2, s3⟩, e2⟩ : ∃ x, num (-9223372036854775807) 9223372036854775807 s2 = x := ⟨_, rfl⟩
  obtain ⟨⟨v3, s4⟩, e3⟩ : ∃ x, txt s3 = x := ⟨_, rfl⟩
  obtain ⟨⟨v4, s5⟩, e4⟩ : ∃ x, txt s4 = x := ⟨_, rfl⟩
  obtain ⟨⟨v5, s6⟩, e5⟩ : ∃ x, txt s5 = x := ⟨_, rfl⟩
  obtain ⟨⟨v6, s7⟩, e6⟩ : ∃ x, num (-9223372036854775807) 9223372036854775807 s6 = x := ⟨_, rfl⟩
  obtain ⟨⟨v7, s8⟩, e7⟩ : ∃ x, num (-9223372036854775807) 9223372036854775807 s7 = x := ⟨_, rfl⟩
  obtain ⟨⟨v8, s9⟩, e8⟩ : ∃ x, num 0 1 s8 = x := ⟨_, rfl⟩
  obtain ⟨⟨v9, s10⟩, e9⟩ : ∃ x, num (-9223372036854775807) 9223372036854775807 s9 = x := ⟨_, rfl⟩
  obtain ⟨⟨v10, s11⟩, e10⟩ : ∃ x, num 0 1 s10 = x := ⟨_, rfl⟩
  obtain ⟨⟨v11, s12⟩, e11⟩ : ∃ x, num 0 1 s11 = x := ⟨_, rfl⟩
  obtain ⟨⟨v12, s13⟩, e12⟩ : ∃ x, txt s12 = x := ⟨_, rfl⟩
  obtain ⟨⟨v13, s14⟩, e13⟩ : ∃ x, num (-9223372036854775807) 9223372036854775807 s13 = x := ⟨_, rfl⟩
  obtain ⟨⟨v14, l15, f15⟩, e14⟩ : ∃ x, num 0 9223372036854775807 s14 = x := ⟨_, rfl⟩
  have HR := Lib.hid (show rdLine (words s, true) = ((⟨v0, v1, ⟨v2, v3, v4, v5⟩, v6, v7, v8 == 1, ⟨v9, v10 == 1, v11 == 1, v12, v13, []⟩⟩, v14), (l15, f15)) from by
    unfold rdLine far
    dsimp only
    rw [e0, e1, e2, e3, e4, e5, e6, e7, e8, e9, e10, e11, e12, e13, e14])
  have E0 := Lib.hid e0
  have E1 := Lib.hid e1
  have E2 := Lib.hid e2
  have E3 := Lib.hid e3
  have E4 := Lib.hid e4
  have E5 := Lib.hid e5
  have E6 := Lib.hid e6
  have E7 := Lib.hid e7
  have E8 := Lib.hid e8
  have E9 := Lib.hid e9
  have E10 := Lib.hid e10
  have E11 := Lib.hid e11
  have E12 := Lib.hid e12
  have E13 := Lib.hid e13
  have E14 := Lib.hid e14
  clear e0 e1 e2 e3 e4 e5 e6 e7 e8 e9 e10 e11 e12 e13 e14 hm hm2 hs
  go_enter Tryd.func53, Tryd.ntmps53
  go_wp2_with fail
  refine (HSP.out _ HM1.out).mono ?_
  rintro e w1 ⟨rfl, hw1⟩
  rw [← HL.out]
  have C0 := Lib.hid (call_start w (words s) HSM.out w1 hw1)
  clear hw1
  go_wp2_with fail
  unfold zeroC at C0
  generalize World.alloc (World.alloc (World.alloc (World.alloc w1 _) _) _) _ = W0 at C0 ⊢
  generalize w1.heap.size + 1 + 1 + 1 = c9 at C0 ⊢
  generalize w1.heap.size + 1 + 1 = X at C0 ⊢
  generalize w1.heap.size + 1 = F at C0 ⊢
  generalize w1.heap.size = L at C0 ⊢
  refine (num_c C0.out (-9223372036854775807) 9223372036854775807 v0 E0.out).mono ?_
  rintro e W1 ⟨rfl, hc1⟩
  have C1 := Lib.hid hc1
  clear hc1
  go_wp2_with fail
  refine (num_c C1.out (-9223372036854775807) 9223372036854775807 v1 E1.out).mono ?_
  rintro e W2 ⟨rfl, hc2⟩
  have C2 := Lib.hid hc2
  clear hc2
  go_wp2_with fail
  refine (num_c C2.out (-9223372036854775807) 9223372036854775807 v2 E2.out).mono ?_
  rintro e W3 ⟨rfl, hc3⟩
  have C3 := Lib.hid hc3
  clear hc3
  have y0 : W3.cell? ⟨c9, 0, none⟩ = some (.int .i64 0) := cell_of' C3.out.cb 0
  have z0 := frozen_of' C3.out.cb 0
  have y1 : W3.cell? ⟨c9, 1, none⟩ = some (.int .i64 0) := cell_of' C3.out.cb 1
  have z1 := frozen_of' C3.out.cb 1
  have y2 : W3.cell? ⟨c9, 2, none⟩ = some (.int .i64 0) := cell_of' C3.out.cb 2
  have z2 := frozen_of' C3.out.cb 2
  go_wp2_with fail
  clear y0 z0 y1 z1 y2 z2
  have D3 := Lib.hid (C3.out.put3 0 1 2 (.int .i64 v0) (.int .i64 v1) (.int .i64 v2) (c' := #[.int .i64 v0, .int .i64 v1, .int .i64 v2, .string ⟨#[]⟩, .string ⟨#[]⟩, .string ⟨#[]⟩, .int .i64 0, .int .i64 0, .bool false, .int .i64 0, .bool false, .bool false, .string ⟨#[]⟩, .int .i64 0, .slice none 0 0]) rfl)
  refine (txt_c D3.out v3 E3.out).mono ?_
  rintro e W4 ⟨rfl, hc4⟩
  have C4 := Lib.hid hc4
  clear hc4
  go_wp2_with fail
  refine (txt_c C4.out v4 E4.out).mono ?_
  rintro e W5 ⟨rfl, hc5⟩
  have C5 := Lib.hid hc5
  clear hc5
  go_wp2_with fail
  refine (txt_c C5.out v5 E5.out).mono ?_
  rintro e W6 ⟨rfl, hc6⟩
  have C6 := Lib.hid hc6
  clear hc6
  have y3 : W6.cell? ⟨c9, 3, none⟩ = some (.string ⟨#[]⟩) := cell_of' C6.out.cb 3
  have z3 := frozen_of' C6.out.cb 3
  have y4 : W6.cell? ⟨c9, 4, none⟩ = some (.string ⟨#[]⟩) := cell_of' C6.out.cb 4
  have z4 := frozen_of' C6.out.cb 4
  have y5 : W6.cell? ⟨c9, 5, none⟩ = some (.string ⟨#[]⟩) := cell_of' C6.out.cb 5
  have z5 := frozen_of' C6.out.cb 5
  go_wp2_with fail
  clear y3 z3 y4 z4 y5 z5
  have D6 := Lib.hid (C6.out.put3 3 4 5 (.string v3) (.string v4) (.string v5) (c' := #[.int .i64 v0, .int .i64 v1, .int .i64 v2, .string v3, .string v4, .string v5, .int .i64 0, .int .i64 0, .bool false, .int .i64 0, .bool false, .bool false, .string ⟨#[]⟩, .int .i64 0, .slice none 0 0]) rfl)
  refine (num_c D6.out (-9223372036854775807) 9223372036854775807 v6 E6.out).mono ?_
  rintro e W7 ⟨rfl, hc7⟩
  have C7 := Lib.hid hc7
  clear hc7
  go_wp2_with fail
  refine (num_c C7.out (-9223372036854775807) 9223372036854775807 v7 E7.out).mono ?_
  rintro e W8 ⟨rfl, hc8⟩
  have C8 := Lib.hid hc8
  clear hc8
  go_wp2_with fail
  refine (num_c C8.out 0 1 v8 E8.out).mono ?_
  rintro e W9 ⟨rfl, hc9⟩
  have C9 := Lib.hid hc9
  clear hc9
  have y6 : W9.cell? ⟨c9, 6, none⟩ = some (.int .i64 0) := cell_of' C9.out.cb 6
  have z6 := frozen_of' C9.out.cb 6
  have y7 : W9.cell? ⟨c9, 7, none⟩ = some (.int .i64 0) := cell_of' C9.out.cb 7
  have z7 := frozen_of' C9.out.cb 7
  have y8 : W9.cell? ⟨c9, 8, none⟩ = some (.bool false) := cell_of' C9.out.cb 8
  have z8 := frozen_of' C9.out.cb 8
  go_wp2_with fail
  clear y6 z6 y7 z7 y8 z8
  have D9 := Lib.hid (C9.out.put3 6 7 8 (.int .i64 v6) (.int .i64 v7) (.bool (v8 == 1)) (c' := #[.int .i64 v0, .int .i64 v1, .int .i64 v2, .string v3, .string v4, .string v5, .int .i64 v6, .int .i64 v7, .bool (v8 == 1), .int .i64 0, .bool false, .bool false, .string ⟨#[]⟩, .int .i64 0, .slice none 0 0]) rfl)
  refine (num_c D9.out (-9223372036854775807) 9223372036854775807 v9 E9.out).mono ?_
  rintro e W10 ⟨rfl, hc10⟩
  have C10 := Lib.hid hc10
  clear hc10
  go_wp2_with fail
  refine (num_c C10.out 0 1 v10 E10.out).mono ?_
  rintro e W11 ⟨rfl, hc11⟩
  have C11 := Lib.hid hc11
  clear hc11
  go_wp2_with fail
  refine (num_c C11.out 0 1 v11 E11.out).mono ?_
  rintro e W12 ⟨rfl, hc12⟩
  have C12 := Lib.hid hc12
  clear hc12
  have y9 : W12.cell? ⟨c9, 9, none⟩ = some (.int .i64 0) := cell_of' C12.out.cb 9
  have z9 := frozen_of' C12.out.cb 9
  have y10 : W12.cell? ⟨c9, 10, none⟩ = some (.bool false) := cell_of' C12.out.cb 10
  have z10 := frozen_of' C12.out.cb 10
  have y11 : W12.cell? ⟨c9, 11, none⟩ = some (.bool false) := cell_of' C12.out.cb 11
  have z11 := frozen_of' C12.out.cb 11
  go_wp2_with fail
  clear y9 z9 y10 z10 y11 z11
  have D12 := Lib.hid (C12.out.put3 9 10 11 (.int .i64 v9) (.bool (v10 == 1)) (.bool (v11 == 1)) (c' := #[.int .i64 v0, .int .i64 v1, .int .i64 v2, .string v3, .string v4, .string v5, .int .i64 v6, .int .i64 v7, .bool (v8 == 1), .int .i64 v9, .bool (v10 == 1), .bool (v11 == 1), .string ⟨#[]⟩, .int .i64 0, .slice none 0 0]) rfl)
  refine (txt_c D12.out v12 E12.out).mono ?_
  rintro e W13 ⟨rfl, hc13⟩
  have C13 := Lib.hid hc13
  clear hc13
  go_wp2_with fail
  refine (num_c C13.out (-9223372036854775807) 9223372036854775807 v13 E13.out).mono ?_
  rintro e W14 ⟨rfl, hc14⟩
  have C14 := Lib.hid hc14
  clear hc14
  have y12 : W14.cell? ⟨c9, 12, none⟩ = some (.string ⟨#[]⟩) := cell_of' C14.out.cb 12
  have z12 := frozen_of' C14.out.cb 12
  have y13 : W14.cell? ⟨c9, 13, none⟩ = some (.int .i64 0) := cell_of' C14.out.cb 13
  have z13 := frozen_of' C14.out.cb 13
  go_wp2_with fail
  clear y12 z12 y13 z13
  have D14 := Lib.hid (C14.out.put2 12 13 (.string v12) (.int .i64 v13) (c' := #[.int .i64 v0, .int .i64 v1, .int .i64 v2, .string v3, .string v4, .string v5, .int .i64 v6, .int .i64 v7, .bool (v8 == 1), .int .i64 v9, .bool (v10 == 1), .bool (v11 == 1), .string v12, .int .i64 v13, .slice none 0 0]) rfl)
  refine (num_c D14.out 0 9223372036854775807 v14 E14.out).mono ?_
  rintro e W15 ⟨rfl, hc15⟩
  have C15 := Lib.hid hc15
  clear hc15
  obtain ⟨A, cap, hl, hcap, hs15⟩ := C15.out.sat.list
  have yL := cell_of_one hl
  have yF := cell_of_one C15.out.sat.fine
  have hlen := C15.out.small.1
  dsimp only at yL yF hcap hlen
  clear hl hs15 C0 C1 C2 C3 C4 C5 C6 C7 C8 C9 C10 C11 C12 C13 C14 D3 D6 D9 D12 D14 E0 E1 E2 E3 E4 E5 E6 E7 E8 E9 E10 E11 E12 E13 E14 HSP HM1 HL HSM
  unfold zeroC at *
  have r0 : W15.cell? ⟨w.heap.size, 0, none⟩ = some (.int .i64 0) := cell_of' C15.out.rb 0
  have zr0 := frozen_of' C15.out.rb 0
  have r1 : W15.cell? ⟨w.heap.size, 1, none⟩ = some (.int .i64 0) := cell_of' C15.out.rb 1
  have zr1 := frozen_of' C15.out.rb 1
  have r2 : W15.cell? ⟨w.heap.size, 2, none⟩ = some (.int .i64 0) := cell_of' C15.out.rb 2
  have zr2 := frozen_of' C15.out.rb 2
  have r3 : W15.cell? ⟨w.heap.size, 3, none⟩ = some (.string ⟨#[]⟩) := cell_of' C15.out.rb 3
  have zr3 := frozen_of' C15.out.rb 3
  have r4 : W15.cell? ⟨w.heap.size, 4, none⟩ = some (.string ⟨#[]⟩) := cell_of' C15.out.rb 4
  have zr4 := frozen_of' C15.out.rb 4
  have r5 : W15.cell? ⟨w.heap.size, 5, none⟩ = some (.string ⟨#[]⟩) := cell_of' C15.out.rb 5
  have zr5 := frozen_of' C15.out.rb 5
  have r6 : W15.cell? ⟨w.heap.size, 6, none⟩ = some (.int .i64 0) := cell_of' C15.out.rb 6
  have zr6 := frozen_of' C15.out.rb 6
  have r7 : W15.cell? ⟨w.heap.size, 7, none⟩ = some (.int .i64 0) := cell_of' C15.out.rb 7
  have zr7 := frozen_of' C15.out.rb 7
  have r8 : W15.cell? ⟨w.heap.size, 8, none⟩ = some (.bool false) := cell_of' C15.out.rb 8
  have zr8 := frozen_of' C15.out.rb 8
  have r9 : W15.cell? ⟨w.heap.size, 9, none⟩ = some (.int .i64 0) := cell_of' C15.out.rb 9
  have zr9 := frozen_of' C15.out.rb 9
  have r10 : W15.cell? ⟨w.heap.size, 10, none⟩ = some (.bool false) := cell_of' C15.out.rb 10
  have zr10 := frozen_of' C15.out.rb 10
  have r11 : W15.cell? ⟨w.heap.size, 11, none⟩ = some (.bool false) := cell_of' C15.out.rb 11
  have zr11 := frozen_of' C15.out.rb 11
  have r12 : W15.cell? ⟨w.heap.size, 12, none⟩ = some (.string ⟨#[]⟩) := cell_of' C15.out.rb 12
  have zr12 := frozen_of' C15.out.rb 12
  have r13 : W15.cell? ⟨w.heap.size, 13, none⟩ = some (.int .i64 0) := cell_of' C15.out.rb 13
  have zr13 := frozen_of' C15.out.rb 13
  have r14 : W15.cell? ⟨w.heap.size, 14, none⟩ = some (.slice none 0 0) := cell_of' C15.out.rb 14
  have zr14 := frozen_of' C15.out.rb 14
  cases f15 with
  | false =>
    go_wp2_with fail
    exact ⟨rfl, _, ret_call rfl (set15 C15.out.rb _ _ _ _ _ _ _ _ _ _ _ _ _ _ _) rfl rfl, zero_end (callM_no HR.out (by simp)) (below15 C15.out.below (Nat.le_refl _) _ _ _ _ _ _ _ _ _ _ _ _ _ _ _)⟩
  | true =>
    by_cases hpar : l15.length % 2 = 0
    case neg =>
      have b1 : ¬ (l15.length : Int) % 2 = 0 := by omega
      have HF := Lib.hid (callM_no HR.out (by intro h; exact hpar h.2.1))
      clear hpar
      go_wp2_with fail
      exact ⟨rfl, _, ret_call rfl (set15 C15.out.rb _ _ _ _ _ _ _ _ _ _ _ _ _ _ _) rfl rfl, zero_end HF.out (below15 C15.out.below (Nat.le_refl _) _ _ _ _ _ _ _ _ _ _ _ _ _ _ _)⟩
    have b1 : (l15.length : Int) % 2 = 0 := by omega
    by_cases hn : v14 = (l15.length : Int) / 2
    case neg =>
      have b3 : (v14 != (l15.length : Int) / 2) = true := by simpa using hn
      have HF := Lib.hid (callM_no HR.out (by intro h; exact hn (by rw [h.2.2]; omega)))
      clear hn hpar
      go_wp2_with fail
      exact ⟨rfl, _, ret_call rfl (set15 C15.out.rb _ _ _ _ _ _ _ _ _ _ _ _ _ _ _) rfl rfl, zero_end HF.out (below15 C15.out.below (Nat.le_refl _) _ _ _ _ _ _ _ _ _ _ _ _ _ _ _)⟩
    obtain ⟨q, hq⟩ : ∃ q, q = l15.length / 2 := ⟨_, rfl⟩
    have b2 : (l15.length : Int) / 2 = (q : Int) := by omega
    rw [b2] at hn
    subst hn
    have b3 : ((q : Int) != (q : Int)) = false := by simp
    have HY := Lib.hid (callM_yes (hq ▸ HR.out) hpar)
    rw [← hq] at HY
    have HQ := Lib.hid hq
    clear hpar hq
    go_wp2_with fail
    have HRL := Lib.hid (RL.zero (cf := fun pv => #[.int .i64 v0, .int .i64 v1, .int .i64 v2, .string v3, .string v4, .string v5, .int .i64 v6, .int .i64 v7, .bool (v8 == 1), .int .i64 v9, .bool (v10 == 1), .bool (v11 == 1), .string v12, .int .i64 v13, pv]) C15.out)
    clear b1 b2 b3 yL yF r0 zr0 r1 zr1 r2 zr2 r3 zr3 r4 zr4 r5 zr5 r6 zr6 r7 zr7 r8 zr8 r9 zr9 r10 zr10 r11 zr11 r12 zr12 r13 zr13 r14 zr14
    go_loopw [89] (fun i wr => ∃ k : Nat, k ≤ q ∧ i = .int .i64 k ∧ RL w w.heap.size (w.heap.size + 1) L F X c9 (fun pv => #[.int .i64 v0, .int .i64 v1, .int .i64 v2, .string v3, .string v4, .string v5, .int .i64 v6, .int .i64 v7, .bool (v8 == 1), .int .i64 v9, .bool (v10 == 1), .bool (v11 == 1), .string v12, .int .i64 v13, pv]) (l15, true) k wr) (fun i _ => q - (intOf i).toNat)
    case atStart => exact ⟨0, Nat.zero_le _, rfl, HRL.out⟩
    case round =>
      obtain ⟨k, hk, rfl, pv, hC, hown⟩ := hrel
      obtain ⟨st, hst⟩ : ∃ st, st = (pairsM k (l15, true)).2 := ⟨_, rfl⟩
      rw [← hst] at hC
      obtain ⟨⟨pa, t1⟩, e1⟩ : ∃ x, txt st = x := ⟨_, rfl⟩
      obtain ⟨⟨pb, t2⟩, e2⟩ : ∃ x, txt t1 = x := ⟨_, rfl⟩
      have HP := Lib.hid (show pairsM (k + 1) (l15, true) = ((pairsM k (l15, true)).1 ++ [(pa, pb)], t2) from by
        conv => lhs; unfold pairsM
        rw [← hst, e1]
        dsimp only
        rw [e2])
      have HC := Lib.hid hC
      have HO := Lib.hid hown
      have HST := Lib.hid hst
      have X1 := Lib.hid e1
      have X2 := Lib.hid e2
      have y14 : wr.cell? ⟨c9, 14, none⟩ = some pv := cell_of' HC.out.cb 14
      clear hC hown e1 e2 hst
      by_cases hlt : k < q
      · go_wp2_with fail
        have hT0 : True := trivial
        have hS0 : World.cell? wr.drew ⟨c9, 14, none⟩ = some pv := y14
        refine region_till (fun _ => True) (fun w' => World.cell? w' ⟨c9, 14, none⟩ = some pv) 12 (by kernel_rfl) ?_
        refine Rr.take_T 0 (v := ?v0) rfl (by kernel_rfl) (by kernel_rfl) (by kernel_rfl) (by kernel_rfl) (fun _ _ _ h => h) hT0 (fun _ => hS0) (Or.inl ⟨by rfl, ?y0⟩) ?z0
        case y0 =>
          intro wz hz
          try dsimp only at hz
          go_simp
          try with_reducible rfl
        case z0 =>
        try simp only [Act.put, List.setIfInBounds_toArray, List.set_cons_zero, List.set_cons_succ]
        refine Rr.take_T 1 (v := ?v1) rfl (by kernel_rfl) (by kernel_rfl) (by kernel_rfl) (by kernel_rfl) (fun _ _ _ h => h) hT0 (fun _ => hS0) (Or.inl ⟨by rfl, ?y1⟩) ?z1
        case y1 =>
          intro wz hz
          try dsimp only at hz
          go_simp
          try with_reducible rfl
        case z1 =>
        try simp only [Act.put, List.setIfInBounds_toArray, List.set_cons_zero, List.set_cons_succ]
        refine Rr.take_S 2 (v := ?v2) rfl (by kernel_rfl) (by kernel_rfl) (by kernel_rfl) (by kernel_rfl) (by kernel_rfl) (by kernel_rfl) (fun _ _ _ h => h) hT0 hS0 (Or.inl ⟨by rfl, ?y2⟩) ?z2
        case y2 =>
          intro wz hz
          try dsimp only at hz
          go_simp
          try with_reducible rfl
        case z2 =>
        try simp only [Act.put, List.setIfInBounds_toArray, List.set_cons_zero, List.set_cons_succ]
        refine Rr.take_T 3 (v := ?v3) rfl (by kernel_rfl) (by kernel_rfl) (by kernel_rfl) (by kernel_rfl) (fun _ _ _ h => h) hT0 (fun _ => hS0) (Or.inl ⟨by rfl, ?y3⟩) ?z3
        case y3 =>
          intro wz hz
          try dsimp only at hz
          go_simp
          try with_reducible rfl
        case z3 =>
        try simp only [Act.put, List.setIfInBounds_toArray, List.set_cons_zero, List.set_cons_succ]
        refine Rr.take_T 5 (v := ?v5) rfl (by kernel_rfl) (by kernel_rfl) (by kernel_rfl) (by kernel_rfl) (fun _ _ _ h => h) hT0 (fun _ => hS0) (Or.inl ⟨by rfl, ?y5⟩) ?z5
        case y5 =>
          intro wz hz
          try dsimp only at hz
          go_simp
          try with_reducible rfl
        case z5 =>
        try simp only [Act.put, List.setIfInBounds_toArray, List.set_cons_zero, List.set_cons_succ]
        refine Rr.till_all [4] (by kernel_rfl) (by simp) (List.forall_mem_cons.2 ⟨fun K hK => ?_, fun i hi => by cases hi⟩)
        refine Rr.op_at _ rfl ?_
        go_simp
        refine (txt_f (HC.out.bel ((Below.refl _ _).drew)) pa X1.out).mono ?_
        rintro e w1 ⟨rfl, hc1, hf1⟩
        have HC1 := Lib.hid hc1
        have HO1 := Lib.hid (own_fr (w' := w1) (own_fr (w' := wr.drew) HO.out (S := fun _ => False) (Fr.of_below ((Below.refl _ _).drew)) (fun _ _ => id)) hf1 (fun k hk hl => by have := hc1.ord; unfold LF at hl; omega))
        refine hK _ _ trivial (fun _ => (show w1.cell? ⟨c9, 14, none⟩ = some pv from cell_of' hc1.cb 14)) ?_
        clear hK K hc1 hf1
        try simp only [Act.put, List.setIfInBounds_toArray, List.set_cons_zero, List.set_cons_succ]
        refine Rr.till_all [6] (by kernel_rfl) (by simp) (List.forall_mem_cons.2 ⟨fun K hK => ?_, fun i hi => by cases hi⟩)
        refine Rr.op_at _ rfl ?_
        go_simp
        refine (txt_f HC1.out pb X2.out).mono ?_
        rintro e w2 ⟨rfl, hc2, hf2⟩
        have HC2 := Lib.hid hc2
        have HO2 := Lib.hid (own_fr HO1.out hf2 (fun k hk hl => by have := hc2.ord; unfold LF at hl; omega))
        refine hK _ _ trivial (fun _ => (show w2.cell? ⟨c9, 14, none⟩ = some pv from cell_of' hc2.cb 14)) ?_
        clear hK K hc2 hf2
        try simp only [Act.put, List.setIfInBounds_toArray, List.set_cons_zero, List.set_cons_succ]
        refine Rr.till_all [7] (by kernel_rfl) (by simp) (List.forall_mem_cons.2 ⟨fun K hK => ?_, fun i hi => by cases hi⟩)
        refine Rr.op_at _ rfl ?_
        go_simp
        refine hK _ _ trivial (fun _ => (show w2.cell? ⟨c9, 14, none⟩ = some pv from cell_of' HC2.out.cb 14)) ?_
        clear hK K
        try simp only [Act.put, List.setIfInBounds_toArray, List.set_cons_zero, List.set_cons_succ]
        refine Rr.till_all [8] (by kernel_rfl) (by simp) (List.forall_mem_cons.2 ⟨fun K hK => ?_, fun i hi => by cases hi⟩)
        refine Rr.op_at _ rfl ?_
        go_simp
        have HC3 := Lib.hid (HC2.out.bel ((Below.refl w2.heap.size w2).alloc (Nat.le_refl _) (.cells #[.string pa, .string pb] 95)))
        refine hK _ _ trivial (fun _ => (show (w2.alloc (.cells #[.string pa, .string pb] 95)).cell? ⟨c9, 14, none⟩ = some pv from cell_of' HC3.out.cb 14)) ?_
        clear hK K
        try simp only [Act.put, List.setIfInBounds_toArray, List.set_cons_zero, List.set_cons_succ]
        refine Rr.till_all [9] (by kernel_rfl) (by simp) (List.forall_mem_cons.2 ⟨fun K hK => ?_, fun i hi => by cases hi⟩)
        refine Rr.op_at _ rfl ?_
        have hkq : k < 4294967296 := by have := HQ.out; omega
        have hb9 : c9 + 1 ≤ w2.heap.size := lt_of_block HC2.out.cb
        obtain ⟨i0, hi, hz0, hz1, hz2⟩ := info_parts infoP
        refine step_append_lies _ (by rfl) (.tmp 93) (.tmp 99) 46 (by rfl) (c9 + 1) 95 i0 (.agg #[.string ⟨#[]⟩, .string ⟨#[]⟩]) 2 32 Tryd.underlying46 hi hz0 hz1 hz2 rfl (by omega) pv k (cellsP (pairsM k (l15, true)).1) (by rfl) (HO2.out.alloc _) ⟨w2.heap.size, 0, none⟩ 1 1 [.string pa, .string pb] (by rfl) (by rfl) (World.news_of_block (cs := #[.string pa, .string pb]) (t := 95) (fr := (0, 0)) (heap_alloc_new w2 _)) (by simp [Value.oneCell']) (by omega) (by unfold maxLen; omega) (by omega) (by simp; omega) (w2.heap.size + 1) (by simp) ?_
        intro gg cap9 w4 hown4 hgrow4 hat4 hlt4
        have hc4 := HC3.out.grow hgrow4 (fun j hj => by have := ((HO2.out.alloc (.cells #[.string pa, .string pb] 95)).lt j hj).1; omega)
        have HC4 := Lib.hid hc4
        have HO4 := Lib.hid hown4
        have y14' : w4.cell? ⟨c9, 14, none⟩ = some pv := cell_of' hc4.cb 14
        have z14' := frozen_of' hc4.cb 14
        refine hK _ _ trivial (fun _ => y14') ?_
        clear hK K hc4 hown4 hgrow4 hat4 hlt4 y14 hS0
        have hS0 := y14'
        try simp only [Act.put, List.setIfInBounds_toArray, List.set_cons_zero, List.set_cons_succ]
        refine Rr.take_T 10 (v := ?v10) rfl (by kernel_rfl) (by kernel_rfl) (by kernel_rfl) (by kernel_rfl) (fun _ _ _ h => h) hT0 (fun _ => hS0) (Or.inl ⟨by rfl, ?y10⟩) ?z10
        case y10 =>
          intro wz hz
          try dsimp only at hz
          go_simp
          try with_reducible rfl
        case z10 =>
        try simp only [Act.put, List.setIfInBounds_toArray, List.set_cons_zero, List.set_cons_succ]
        refine Rr.take_T 11 (v := ?v11) rfl (by kernel_rfl) (by kernel_rfl) (by kernel_rfl) (by kernel_rfl) (fun _ _ _ h => h) hT0 (fun _ => hS0) (Or.inl ⟨by rfl, ?y11⟩) ?z11
        case y11 =>
          intro wz hz
          try dsimp only at hz
          go_simp
          try with_reducible rfl
        case z11 =>
        try simp only [Act.put, List.setIfInBounds_toArray, List.set_cons_zero, List.set_cons_succ]
        try simp only [Act.put, List.setIfInBounds_toArray, List.set_cons_zero, List.set_cons_succ]
        refine Rr.till_all [12] (by kernel_rfl) (by simp) (List.forall_mem_cons.2 ⟨fun K hK => ?_, fun i hi => by cases hi⟩)
        refine Rr.op_at _ rfl ?_
        go_simp
        refine hK _ _ trivial (fun h => by cases h) ?_
        clear hK K
        try simp only [Act.put, List.setIfInBounds_toArray, List.set_cons_zero, List.set_cons_succ]
        refine Rr.till_done (by kernel_rfl) ?_ _
        go_wp2_with fail
        go_roundw
        case rel =>
          refine ⟨k + 1, by omega, by go_num, .slice (some ⟨gg, 0, none⟩) (k + 1) cap9, ?_, ?_⟩
          · rw [HP.out]; exact HC4.out.put1 14 _ rfl
          · rw [HP.out, cellsP_snoc]; exact own_fr HO4.out (Fr.set (S := fun j => j = c9) w4 (b := c9) rfl 14 _) (fun j hj => by omega)
        case measure => simp [intOf]; omega
      · have hkq : k = q := by omega
        subst hkq
        obtain ⟨Ap, cp, rfl⟩ : ∃ Ap cp, pv = .slice Ap k cp := by
          obtain ⟨_, ⟨e, e0⟩ | ⟨g, cap', cur, e, _⟩⟩ := HO.out
          · exact ⟨none, 0, by rw [e, e0]⟩
          · exact ⟨_, _, e⟩
        have q0 : wr.cell? ⟨c9, 0, none⟩ = some (.int .i64 v0) := cell_of' HC.out.cb 0
        have r0 : wr.cell? ⟨w.heap.size, 0, none⟩ = some (.int .i64 0) := cell_of' HC.out.rb 0
        have zr0 := frozen_of' HC.out.rb 0
        have q1 : wr.cell? ⟨c9, 1, none⟩ = some (.int .i64 v1) := cell_of' HC.out.cb 1
        have r1 : wr.cell? ⟨w.heap.size, 1, none⟩ = some (.int .i64 0) := cell_of' HC.out.rb 1
        have zr1 := frozen_of' HC.out.rb 1
        have q2 : wr.cell? ⟨c9, 2, none⟩ = some (.int .i64 v2) := cell_of' HC.out.cb 2
        have r2 : wr.cell? ⟨w.heap.size, 2, none⟩ = some (.int .i64 0) := cell_of' HC.out.rb 2
        have zr2 := frozen_of' HC.out.rb 2
        have q3 : wr.cell? ⟨c9, 3, none⟩ = some (.string v3) := cell_of' HC.out.cb 3
        have r3 : wr.cell? ⟨w.heap.size, 3, none⟩ = some (.string ⟨#[]⟩) := cell_of' HC.out.rb 3
        have zr3 := frozen_of' HC.out.rb 3
        have q4 : wr.cell? ⟨c9, 4, none⟩ = some (.string v4) := cell_of' HC.out.cb 4
        have r4 : wr.cell? ⟨w.heap.size, 4, none⟩ = some (.string ⟨#[]⟩) := cell_of' HC.out.rb 4
        have zr4 := frozen_of' HC.out.rb 4
        have q5 : wr.cell? ⟨c9, 5, none⟩ = some (.string v5) := cell_of' HC.out.cb 5
        have r5 : wr.cell? ⟨w.heap.size, 5, none⟩ = some (.string ⟨#[]⟩) := cell_of' HC.out.rb 5
        have zr5 := frozen_of' HC.out.rb 5
        have q6 : wr.cell? ⟨c9, 6, none⟩ = some (.int .i64 v6) := cell_of' HC.out.cb 6
        have r6 : wr.cell? ⟨w.heap.size, 6, none⟩ = some (.int .i64 0) := cell_of' HC.out.rb 6
        have zr6 := frozen_of' HC.out.rb 6
        have q7 : wr.cell? ⟨c9, 7, none⟩ = some (.int .i64 v7) := cell_of' HC.out.cb 7
        have r7 : wr.cell? ⟨w.heap.size, 7, none⟩ = some (.int .i64 0) := cell_of' HC.out.rb 7
        have zr7 := frozen_of' HC.out.rb 7
        have q8 : wr.cell? ⟨c9, 8, none⟩ = some (.bool (v8 == 1)) := cell_of' HC.out.cb 8
        have r8 : wr.cell? ⟨w.heap.size, 8, none⟩ = some (.bool false) := cell_of' HC.out.rb 8
        have zr8 := frozen_of' HC.out.rb 8
        have q9 : wr.cell? ⟨c9, 9, none⟩ = some (.int .i64 v9) := cell_of' HC.out.cb 9
        have r9 : wr.cell? ⟨w.heap.size, 9, none⟩ = some (.int .i64 0) := cell_of' HC.out.rb 9
        have zr9 := frozen_of' HC.out.rb 9
        have q10 : wr.cell? ⟨c9, 10, none⟩ = some (.bool (v10 == 1)) := cell_of' HC.out.cb 10
        have r10 : wr.cell? ⟨w.heap.size, 10, none⟩ = some (.bool false) := cell_of' HC.out.rb 10
        have zr10 := frozen_of' HC.out.rb 10
        have q11 : wr.cell? ⟨c9, 11, none⟩ = some (.bool (v11 == 1)) := cell_of' HC.out.cb 11
        have r11 : wr.cell? ⟨w.heap.size, 11, none⟩ = some (.bool false) := cell_of' HC.out.rb 11
        have zr11 := frozen_of' HC.out.rb 11
        have q12 : wr.cell? ⟨c9, 12, none⟩ = some (.string v12) := cell_of' HC.out.cb 12
        have r12 : wr.cell? ⟨w.heap.size, 12, none⟩ = some (.string ⟨#[]⟩) := cell_of' HC.out.rb 12
        have zr12 := frozen_of' HC.out.rb 12
        have q13 : wr.cell? ⟨c9, 13, none⟩ = some (.int .i64 v13) := cell_of' HC.out.cb 13
        have r13 : wr.cell? ⟨w.heap.size, 13, none⟩ = some (.int .i64 0) := cell_of' HC.out.rb 13
        have zr13 := frozen_of' HC.out.rb 13
        have q14 : wr.cell? ⟨c9, 14, none⟩ = some (.slice Ap k cp) := cell_of' HC.out.cb 14
        have r14 : wr.cell? ⟨w.heap.size, 14, none⟩ = some (.slice none 0 0) := cell_of' HC.out.rb 14
        have zr14 := frozen_of' HC.out.rb 14
        have yF := cell_of_one HC.out.sat.fine
        have hF1 : w.heap.size < F := by have := HC.out.ord; omega
        have hF2 : ¬ F = w.heap.size := by omega
        have hF3 : ¬ w.heap.size = F := by omega
        clear y14 hlt
        go_wp2_with fail
        go_region
        go_wp2_with fail
        refine ⟨rfl, _, ret_call rfl (set15d HC.out.rb _ _ _ _ _ _ _ _ _ _ _ _ _ _ _) rfl rfl, .slice Ap k cp, ?_, ?_, (below15 HC.out.below (Nat.le_refl _) _ _ _ _ _ _ _ _ _ _ _ _ _ _ _).drew⟩
        · rw [HY.out, ← HST.out]; rfl
        · rw [HY.out]
          show World.ownsRow _ _ _ 2 _ (pairsM k (l15, true)).1.length (cellsP (pairsM k (l15, true)).1)
          rw [pairsM_len]
          exact World.ownsRow.mono (own_fr HO.out ((fr15 (S := fun j => j = w.heap.size) (Fr.refl _ wr) rfl _ _ _ _ _ _ _ _ _ _ _ _ _ _ _).drew) (fun j hj => by have := HC.out.ord; omega)) (by have := HC.out.ord; omega)
end Go.Proofs.YtdibkhddhgaghaaDoor.Hs
