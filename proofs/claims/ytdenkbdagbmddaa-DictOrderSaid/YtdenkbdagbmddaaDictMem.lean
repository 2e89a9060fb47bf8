/- A row of strings of the call's own: what slices.Insert of one element and slices.Delete of one do to it. -/
import Derived.Test.YtdenkbdagbmddaaDictShelf
import Derived.Shelf.Slices.Cells
import Derived.OwnWalk
import Derived.Laws.OwnMore
import Derived.Lib.Walk
import Derived.WalkKit
namespace Go.Proofs.Ytdenkbdagbmddaa.DcM
open Go.RowKit
set_option linter.unusedVariables false

/-! ### lists -/
theorem set_lists {α : Type} (l : List α) (o : Nat) (v : α) (r : List α) (h : o < l.length) : (l.set o v).take (o + 1) ++ r ++ (l.set o v).drop (o + 1 + r.length) = l.take o ++ (v :: r) ++ l.drop (o + (r.length + 1)) := by
  have h1 : (l.set o v).take (o + 1) = l.take o ++ [v] := by
    apply List.ext_getElem?
    intro j
    simp only [List.getElem?_take, List.getElem?_append, List.length_take, List.getElem?_set]
    by_cases c1 : j < o
    · rw [if_pos (by omega), if_neg (by omega), if_pos (by omega), if_pos c1]
    · by_cases c2 : j = o
      · subst c2
        rw [if_pos (by omega), if_pos rfl, if_pos h, if_neg (by omega), show j - min j l.length = 0 by omega]; rfl
      · rw [if_neg (by omega), if_neg (by omega)]
        rw [List.getElem?_eq_none (by simp; omega)]
  have h2 : (l.set o v).drop (o + 1 + r.length) = l.drop (o + (r.length + 1)) := by
    apply List.ext_getElem?
    intro j
    simp only [List.getElem?_drop, List.getElem?_set]
    rw [if_neg (by omega), show o + 1 + r.length + j = o + (r.length + 1) + j by omega]
  rw [h1, h2]
  simp
theorem shift_list {α : Type} (cs rest : List α) (x : α) (i : Nat) (hi : i < cs.length) (hr : 0 < rest.length) (M : List α) (hM : M = (cs ++ rest).take (i + 1) ++ cs.drop i ++ (cs ++ rest).drop (i + 1 + (cs.drop i).length)) :
    (M.take i ++ [x] ++ M.drop (i + 1)).take (cs.length + 1) = cs.take i ++ x :: cs.drop i := by
  have e1 : (cs ++ rest).take (i + 1) = cs.take (i + 1) := List.take_append_of_le_length (by omega)
  rw [e1] at hM
  have e2 : M.take i = cs.take i := by
    rw [hM, List.append_assoc, List.take_append_of_le_length (by simp; omega), List.take_take, Nat.min_eq_left (by omega)]
  have e3 : M.drop (i + 1) = cs.drop i ++ (cs ++ rest).drop (i + 1 + (cs.drop i).length) := by
    rw [hM, List.append_assoc]
    exact List.drop_left' (by simp; omega)
  rw [e2, e3, ← List.append_assoc]
  rw [List.take_left' (by simp; omega)]
  simp

theorem grow_list {α : Type} (cs L : List α) (x : α) (i : Nat) (hi : i ≤ cs.length) (hl : cs.length + 1 ≤ L.length) (ht : L.take i = cs.take i) (M : List α) (hM : M = L.take i ++ [x] ++ L.drop (i + 1)) :
    (M.take (i + 1) ++ cs.drop i ++ M.drop (i + 1 + (cs.drop i).length)).take (cs.length + 1) = cs.take i ++ x :: cs.drop i := by
  have e1 : M.take (i + 1) = cs.take i ++ [x] := by
    rw [hM, ht]
    exact List.take_left' (by simp; omega)
  rw [e1]
  rw [List.take_left' (by simp; omega)]
  simp

/-! ### a row's block -/
theorem row_setCells {g : Nat} {e : TypeId} : ∀ (vs : List Value) (o : Nat) (w : World) (cur : List Value), w.heap[g]? = some (.cells cur.toArray e (0, 0)) → o + vs.length ≤ cur.length →
    (w.setCells g o vs).heap[g]? = some (.cells (cur.take o ++ vs ++ cur.drop (o + vs.length)).toArray e (0, 0))
  | [], o, w, cur, h, hl => by
    rw [World.setCells, h]
    simp
  | v :: r, o, w, cur, h, hl => by
    rw [World.setCells]
    simp only [List.length_cons] at hl
    have h1 : (w.setCell ⟨g, o, none⟩ v).heap[g]? = some (.cells (cur.set o v).toArray e (0, 0)) := by
      simp [World.setCell, Array.getElem?_modify, h]
    rw [row_setCells r (o + 1) _ _ h1 (by simp; omega), set_lists cur o v r (by omega)]
    rfl
theorem grown_setCells (w : World) (g o : Nat) (vs : List Value) : w.grownBy (w.setCells g o vs) (some g) := by
  have h := World.keptBut_setCells g (may := fun _ => True) vs o w (fun _ _ => trivial)
  induction vs generalizing o w with
  | nil => exact ⟨rfl, rfl, rfl, Nat.le_refl _, fun _ _ _ => rfl⟩
  | cons v r ih =>
    have h1 := ih (w.setCell ⟨g, o, none⟩ v) (o + 1) (World.keptBut_setCells g (may := fun _ => True) r (o + 1) _ (fun _ _ => trivial))
    have hs : (w.setCell ⟨g, o, none⟩ v).heap.size = w.heap.size := by simp [World.setCell]
    refine ⟨h1.os, h1.tape, h1.output, by rw [← hs]; exact h1.size, fun k hk hne => ?_⟩
    show ((w.setCell ⟨g, o, none⟩ v).setCells g (o + 1) r).heap[k]? = _
    rw [h1.block k (by omega) hne]
    have : g ≠ k := fun e => hne (by rw [e])
    simp [World.setCell, Array.getElem?_modify, this]
theorem grown_trans {w w1 w2 : World} {r : Option Nat} (a : w.grownBy w1 r) (b : w1.grownBy w2 r) : w.grownBy w2 r :=
  ⟨b.os.trans a.os, b.tape.trans a.tape, b.output.trans a.output, Nat.le_trans a.size b.size, fun k hk hne => (b.block k (Nat.lt_of_lt_of_le hk a.size) hne).trans (a.block k hk hne)⟩
theorem grown_after {w w1 : World} {r : Option Nat} (a : w.grownBy w1 r) (g o : Nat) (vs : List Value) (h : w.heap.size ≤ g) : w.grownBy (w1.setCells g o vs) r := by
  have b := grown_setCells w1 g o vs
  exact ⟨b.os.trans a.os, b.tape.trans a.tape, b.output.trans a.output, Nat.le_trans a.size b.size, fun k hk hne => (b.block k (Nat.lt_of_lt_of_le hk a.size) (fun e => by cases e; omega)).trans (a.block k hk hne)⟩
theorem grown_drewN (w : World) (n : Nat) (r : Option Nat) : w.grownBy (w.drewN n) r := ⟨rfl, rfl, rfl, Nat.le_refl _, fun _ _ _ => rfl⟩
theorem grown_drew (w : World) (r : Option Nat) : w.grownBy w.drew r := ⟨rfl, rfl, rfl, Nat.le_refl _, fun _ _ _ => rfl⟩
theorem grown_alloc (w : World) (o : Obj) (r : Option Nat) : w.grownBy (w.alloc o) r :=
  ⟨rfl, rfl, rfl, by simp, fun k hk _ => by
    show (w.heap.push o)[k]? = _
    simp [Array.getElem?_push, Nat.ne_of_lt hk]⟩
theorem alloc_new (w : World) (o : Obj) : (w.alloc o).heap[w.heap.size]? = some o := by
  show (w.heap.push o)[w.heap.size]? = _
  simp

/-- The strings' values. -/
abbrev strs (xs : List ByteArray) : List Value := xs.map Value.string
/-- A row of strings that the call owns. -/
abbrev Row (w : World) (n0 : Nat) (v : Value) (xs : List ByteArray) : Prop := w.ownsRow n0 9 1 v xs.length (strs xs)
theorem strs_one (xs : List ByteArray) : ∀ v ∈ strs xs, v.oneCell' = true := by
  intro v hv
  obtain ⟨x, _, rfl⟩ := List.mem_map.1 hv
  rfl
/-- A row that is not nil, taken apart. -/
theorem Row.parts {w : World} {n0 : Nat} {v : Value} {xs : List ByteArray} (h : Row w n0 v xs) :
    (v = .slice none 0 0 ∧ xs = []) ∨ ∃ g cap rest, v = .slice (some ⟨g, 0, none⟩) xs.length cap ∧ n0 ≤ g ∧ w.heap[g]? = some (.cells (strs xs ++ rest).toArray 9 (0, 0)) ∧ xs.length + rest.length = cap ∧ cap ≤ maxLen := by
  obtain ⟨_, ⟨rfl, h0⟩ | ⟨g, cap, cur, rfl, hg, hh, hc, hm, hs, ht⟩⟩ := h
  · exact Or.inl ⟨rfl, List.eq_nil_of_length_eq_zero h0⟩
  · refine Or.inr ⟨g, cap, cur.toList.drop xs.length, rfl, hg, ?_, ?_, hm⟩
    · rw [Nat.mul_one] at ht
      rw [← ht, List.take_append_drop]
      simpa using hh
    · simp; omega
theorem Row.mk {w : World} {n0 g n cap : Nat} {xs : List ByteArray} {cur : List Value} (hg : n0 ≤ g) (hh : w.heap[g]? = some (.cells cur.toArray 9 (0, 0))) (hn : xs.length = n) (hc : cur.length = cap) (hm : cap ≤ maxLen) (ht : cur.take n = strs xs) (hl : n ≤ cap) :
    Row w n0 (.slice (some ⟨g, 0, none⟩) n cap) xs := by
  subst hn hc
  exact ⟨by simp, Or.inr ⟨g, cur.length, cur.toArray, rfl, hg, hh, hl, hm, by simp, by simpa using ht⟩⟩
theorem Row.cell {w : World} {g : Nat} {xs : List ByteArray} {rest : List Value} {e : TypeId} (hh : w.heap[g]? = some (.cells (strs xs ++ rest).toArray e (0, 0))) (j : Nat) (v : Value) (hj : (strs xs)[j]? = some v) : w.cell? ⟨g, 0 + j, none⟩ = some v := by
  have hl : j < (strs xs).length := (List.getElem?_eq_some_iff.1 hj).1
  simp only [World.cell?, hh]
  simp only [List.getElem?_toArray, Nat.zero_add]
  rw [List.getElem?_append_left hl, hj]
  rfl
theorem Row.isSome_ {w : World} {g : Nat} {cur : List Value} {e : TypeId} (hh : w.heap[g]? = some (.cells cur.toArray e (0, 0))) (j : Nat) (hj : j < cur.length) : (w.cell? ⟨g, j, none⟩).isSome = true := by
  simp [World.cell?, hh, hj]
theorem Row.unfrozen {w : World} {g : Nat} {c : Array Value} {e : TypeId} (hh : w.heap[g]? = some (.cells c e (0, 0))) (j : Nat) : w.frozen? ⟨g, j, none⟩ = false := by
  simp [World.frozen?, hh]

theorem zero_cells (n : Nat) : ∃ zs : List Value, Builtin.zeroCells (Value.string ⟨#[]⟩).cells n = zs.toArray ∧ zs.length = n :=
  ⟨(Builtin.zeroCells (Value.string ⟨#[]⟩).cells n).toList, by simp, by rw [Array.length_toList, size_zeroCells]; exact Nat.mul_one n⟩

/-- slices.Insert(v, i, x), of a row of the call's own. -/
theorem ins_any (v : Value) (n0 i : Nat) (xs : List ByteArray) (x : ByteArray) (vb : Nat) (te : TypeId) (w : World) (hv : Row w n0 v xs) (hi : i ≤ xs.length) (hn : xs.length < 1000000) (hx : w.heap[vb]? = some (.cells #[.string x] te (0, 0))) (hne : v.ownBlock ≠ some vb) (h0 : n0 ≤ w.heap.size) :
    Calls Try.prog 16 #[v, .int .i64 i, .slice (some ⟨vb, 0, none⟩) 1 1] w fun e w' => ∃ v', e = .returned v' ∧ Row w' n0 v' (xs.take i ++ x :: xs.drop i) ∧ w.grownBy w' v.ownBlock ∧ (v'.ownBlock = v.ownBlock ∨ ∃ k, v'.ownBlock = some k ∧ w.heap.size ≤ k) := by
  have hvs : ∀ (j : Nat) (u : Value), [Value.string x][j]? = some u → w.cell? ⟨vb, 0 + j, none⟩ = some u := by
    intro j u hj
    match j, hj with
    | 0, hj => simp only [World.cell?, hx]; simpa using hj
    | j + 1, hj => simp at hj
  have h1v : ∀ u ∈ [Value.string x], u.oneCell' = true := fun u hu => by
    rw [List.mem_singleton.1 hu]; rfl
  have hlen : (xs.take i ++ x :: xs.drop i).length = xs.length + 1 := by simp; omega
  have hst : strs (xs.take i ++ x :: xs.drop i) = (strs xs).take i ++ .string x :: (strs xs).drop i := by simp
  rcases hv.parts with ⟨rfl, rfl⟩ | ⟨g, cap, rest, rfl, hg, hh, hc, hm⟩
  · obtain rfl : i = 0 := by simpa using hi
    refine (Any2.slices_Insert_string_end_grow Try.insS none 0 0 vb 0 1 1 [] [.string x] w (by omega) (by omega) (by omega) (by omega) rfl rfl (fun _ => rfl) (fun a h => by cases h) hvs h1v).mono ?_
    rintro e w' ⟨rfl, rfl⟩
    have hge : 0 + 1 ≤ grownCap w (0 + 1) 0 (Try.insS_ren.t 9) := grownCap_ge w (0 + 1) 0 _
    have hle : grownCap w (0 + 1) 0 (Try.insS_ren.t 9) ≤ maxLen := grownCap_le_maxLen w (0 + 1) 0 _ (by decide)
    generalize grownCap w (0 + 1) 0 (Try.insS_ren.t 9) = cap at hge hle ⊢
    obtain ⟨zs, ez, lz⟩ := zero_cells (cap - (0 + 1))
    rw [ez, List.append_toArray]
    exact ⟨_, rfl, Row.mk h0 (alloc_new w.drew _) rfl (by simp; omega) hle (by simp) (by omega), grown_trans (grown_drew w _) (grown_alloc _ _ _), Or.inr ⟨_, rfl, Nat.le_refl _⟩⟩
  · have hcl : (strs xs).length = xs.length := by simp
    have hnb : g ≠ vb := fun e => hne (by rw [e]; rfl)
    rcases Nat.lt_or_ge xs.length cap with hroom | hroom
    · rcases Nat.lt_or_ge i xs.length with hin | hin
      · refine (Any2.slices_Insert_string_shift Try.insS g 0 xs.length cap i vb 0 1 1 (strs xs) [.string x] w hin (by omega) (by omega) hm (fun e => hnb e.symm) hcl rfl (fun j v hj => Row.cell hh j v hj) (fun j hj => by rw [Nat.zero_add]; exact Row.isSome_ hh j (by simp; omega)) (fun j _ => Row.unfrozen hh _) hvs (strs_one xs) h1v te 9 1 cap (by simp [World.shape?, hx]) (by simp [World.shape?, hh]; omega) (by omega) (Row.unfrozen hx _) (Row.unfrozen hx _)).mono ?_
        rintro e w' ⟨rfl, rfl⟩
        have a1 := row_setCells ((strs xs).drop i) (0 + (i + 1)) w.drew (strs xs ++ rest) hh (by simp; omega)
        have a2 := row_setCells [.string x] (0 + i) _ _ a1 (by simp; omega)
        have hL := shift_list (strs xs) rest (.string x) i (by simp; omega) (by omega) _ rfl
        refine ⟨_, rfl, Row.mk hg a2 hlen (by simp; omega) hm ?_ (by omega), grown_trans (grown_trans (grown_drew w _) (grown_setCells _ _ _ _)) (grown_setCells _ _ _ _), Or.inl rfl⟩
        rw [hst, ← hL, hcl]
        simp only [Nat.zero_add, List.length_singleton]
      · obtain rfl : i = xs.length := by omega
        refine (Any2.slices_Insert_string_end_room Try.insS g 0 xs.length cap vb 0 1 1 [.string x] w (by omega) (by omega) hm rfl (fun j hj => Row.isSome_ hh _ (by simp; omega)) (fun j _ => Row.unfrozen hh _) hvs h1v).mono ?_
        rintro e w' ⟨rfl, rfl⟩
        have a2 := row_setCells [.string x] (0 + xs.length) w (strs xs ++ rest) hh (by simp; omega)
        refine ⟨_, rfl, Row.mk hg a2 hlen (by simp; omega) hm ?_ (by omega), grown_setCells _ _ _ _, Or.inl rfl⟩
        rw [hst, Nat.zero_add, List.take_left' hcl, List.take_left' (by simp), List.take_of_length_le (by simp), List.drop_eq_nil_of_le (by simp)]
    · have hce : cap = xs.length := by omega
      obtain rfl : rest = [] := List.eq_nil_of_length_eq_zero (by omega)
      rw [List.append_nil] at hh
      have hge : xs.length + 1 ≤ grownCap w (xs.length + 1) cap (Try.insS_ren.t 9) := grownCap_ge w (xs.length + 1) cap _
      have hle : grownCap w (xs.length + 1) cap (Try.insS_ren.t 9) ≤ maxLen := grownCap_le_maxLen w (xs.length + 1) cap _ (by show _ ≤ 9223372036854775807; omega)
      have hcell : ∀ (j : Nat) (v : Value), (strs xs)[j]? = some v → w.cell? ⟨g, 0 + j, none⟩ = some v := fun j v hj => Row.cell (rest := []) (by rw [List.append_nil]; exact hh) j v hj
      rcases Nat.lt_or_ge i xs.length with hin | hin
      · refine (Any2.slices_Insert_string_grow Try.insS g 0 xs.length cap i vb 0 1 1 (strs xs) [.string x] w hin (by omega) (by omega) (by omega) (by omega) hcl rfl hcell hvs (strs_one xs) h1v).mono ?_
        rintro e w' ⟨rfl, rfl⟩
        generalize grownCap w (xs.length + 1) cap (Try.insS_ren.t 9) = cap' at hge hle ⊢
        obtain ⟨zs, ez, lz⟩ := zero_cells (xs.length + 1 - i)
        obtain ⟨zt, et, lt⟩ := zero_cells (cap' - (xs.length + 1))
        rw [ez, et, List.append_toArray, List.append_toArray]
        have b0 : (w.alloc (.cells ((strs xs).take i ++ zs ++ zt).toArray (Try.insS_ren.t 9))).drew.heap[w.heap.size]? = _ := alloc_new w _
        have b1 := row_setCells [.string x] i _ _ b0 (by simp; omega)
        have b2 := row_setCells ((strs xs).drop i) (i + 1) (((w.alloc (.cells ((strs xs).take i ++ zs ++ zt).toArray (Try.insS_ren.t 9))).drew.setCells w.heap.size i [.string x]).drew) _ b1 (by simp; omega)
        have hL := grow_list (strs xs) ((strs xs).take i ++ zs ++ zt) (.string x) i (by simp; omega) (by simp; omega) (by rw [List.append_assoc]; exact List.take_left' (by simp; omega)) _ rfl
        refine ⟨_, rfl, Row.mk h0 b2 hlen (by simp; omega) hle ?_ hge, grown_after (grown_trans (grown_after (grown_trans (grown_alloc _ _ _) (grown_drew _ _)) _ _ _ (Nat.le_refl _)) (grown_drew _ _)) _ _ _ (Nat.le_refl _), Or.inr ⟨_, rfl, Nat.le_refl _⟩⟩
        rw [hst, ← hL, hcl]
        simp only [List.length_singleton]
      · obtain rfl : i = xs.length := by omega
        refine (Any2.slices_Insert_string_end_grow Try.insS (some ⟨g, 0, none⟩) xs.length cap vb 0 1 1 (strs xs) [.string x] w (by omega) (by omega) (by omega) (by omega) hcl rfl (fun h => by cases h) (fun a h j v hj => by
          cases h
          rw [Addr.add_lit]
          exact hcell j v hj) hvs h1v).mono ?_
        rintro e w' ⟨rfl, rfl⟩
        generalize grownCap w (xs.length + 1) cap (Try.insS_ren.t 9) = cap' at hge hle ⊢
        obtain ⟨zs, ez, lz⟩ := zero_cells (cap' - (xs.length + 1))
        rw [ez, List.append_toArray]
        refine ⟨_, rfl, Row.mk h0 (alloc_new w.drew _) hlen (by simp; omega) hle ?_ hge, grown_trans (grown_drew w _) (grown_alloc _ _ _), Or.inr ⟨_, rfl, Nat.le_refl _⟩⟩
        rw [hst, List.take_left' (by simp), List.take_of_length_le (by simp), List.drop_eq_nil_of_le (by simp)]

/-- slices.Delete(v, i, i+1), of a row of the call's own. -/
theorem del_any (v : Value) (n0 i : Nat) (xs : List ByteArray) (w : World) (hv : Row w n0 v xs) (hi : i < xs.length) :
    Calls Try.prog 18 #[v, .int .i64 i, .int .i64 (i + 1)] w fun e w' => ∃ v', e = .returned v' ∧ Row w' n0 v' (xs.take i ++ xs.drop (i + 1)) ∧ w.grownBy w' v.ownBlock ∧ v'.ownBlock = v.ownBlock := by
  rcases hv.parts with ⟨rfl, rfl⟩ | ⟨g, cap, rest, rfl, hg, hh, hc, hm⟩
  · simp at hi
  · have hcell : ∀ j, j < xs.length → w.cell? ⟨g, 0 + j, none⟩ = some (.string (xs.getD j ByteArray.empty)) := fun j hj => Row.cell hh j _ (by simp [hj])
    refine (Any.slices_Delete_string_cells Try.delS g 0 xs.length cap i (i + 1) (fun j => xs.getD j ByteArray.empty) w (by omega) hm (by omega) (by omega) hcell (fun j _ => Row.unfrozen hh _)).mono ?_
    rintro e w' ⟨rfl, q, rfl⟩
    have hsl : (Lib.strsOf (fun j => xs.getD j ByteArray.empty) xs.length).map encStr = strs xs := by
      apply List.ext_getElem?
      intro j
      by_cases hj : j < xs.length
      · simp [Lib.strsOf, hj]
      · simp [Lib.strsOf, hj]
    have a1 := row_setCells (((Lib.strsOf (fun j => xs.getD j ByteArray.empty) xs.length).take i ++ (Lib.strsOf (fun j => xs.getD j ByteArray.empty) xs.length).drop (i + 1) ++ List.replicate (i + 1 - i) []).map encStr) 0 (w.drewN q) (strs xs ++ rest) hh (by simp [Lib.strsOf_length]; omega)
    have hlen : (xs.take i ++ xs.drop (i + 1)).length = xs.length - (i + 1 - i) := by simp; omega
    refine ⟨_, rfl, Row.mk hg a1 hlen (by simp [Lib.strsOf_length]; omega) hm ?_ (by omega), grown_trans (grown_drewN w q _) (grown_setCells _ _ _ _), rfl⟩
    rw [List.take_zero, List.nil_append, List.map_append, List.map_append, List.map_take, List.map_drop, hsl, List.append_assoc, List.take_left' (by simp; omega)]
    simp
end Go.Proofs.Ytdenkbdagbmddaa.DcM
