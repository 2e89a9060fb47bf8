/- dict: the walks of New, place, Get, Put, Delete, Len. -/
import Derived.Test.YtdenkbdagbmddaaDictMem
import Derived.Test.YtdenkbdagbmddaaDictPure
import Derived.Below
import Derived.Deep.QuietTactic
import Derived.RegionTactic
import Derived.Deep.RegionHeld3
import Derived.Lib.Hide
namespace Go.Proofs.Ytdenkbdagbmddaa.DcW
open Go.RowKit Go.Shelf Dc DcM
set_option linter.unusedVariables false

/-- A map at block g of w: its rows' blocks kb, vb are its own. -/
def IsD (w : World) (n0 g : Nat) (kb vb : Option Nat) (l : List Pr) : Prop :=
  ∃ ks vs : Value, w.heap[g]? = some (.cells #[.bool true, ks, vs] 39 (0, 0)) ∧ n0 ≤ g ∧ Row w n0 ks (l.map (·.1)) ∧ Row w n0 vs (l.map (·.2)) ∧ ks.ownBlock = kb ∧ vs.ownBlock = vb ∧ (kb = none ∨ kb ≠ vb)

set_option maxHeartbeats 2000000 in
theorem closure_any (bm bk g blk n cap : Nat) (x key : ByteArray) (i : Nat) (W : World) (hi : i < n) (hm : W.cell? ⟨bm, 0, none⟩ = some (.pointer (some ⟨g, 0, none⟩))) (hk : W.cell? ⟨bk, 0, none⟩ = some (.string key)) (hks : W.cell? ⟨g, 1, none⟩ = some (.slice (some ⟨blk, 0, none⟩) n cap)) (hc : W.cell? ⟨blk, i, none⟩ = some (.string x)) :
    Calls Try.prog 20 (#[.int .i64 i] ++ #[.pointer (some ⟨bm, 0, none⟩), .pointer (some ⟨bk, 0, none⟩)]) W fun e w' => e = .returned (.bool (!lt x key)) ∧ ∃ q, w' = W.drewN q := by
  have hiz : (i : Int) < (n : Int) := by omega
  unfold lt
  go_enter Try.func20, Try.ntmps20
  go_wp2
  go_region
  all_goals go_wp2
  all_goals go_ret
  all_goals exact ⟨rfl, 1, rfl⟩
/-- What a walk reads of a map. -/
theorem IsD.cells {w : World} {n0 g : Nat} {kb vb : Option Nat} {l : List Pr} (h : IsD w n0 g kb vb l) :
    ∃ ks vs : Value, w.cell? ⟨g, 0, none⟩ = some (.bool true) ∧ w.cell? ⟨g, 1, none⟩ = some ks ∧ w.cell? ⟨g, 2, none⟩ = some vs ∧ Row w n0 ks (l.map (·.1)) ∧ Row w n0 vs (l.map (·.2)) ∧ ks.ownBlock = kb ∧ vs.ownBlock = vb := by
  obtain ⟨ks, vs, hh, _, hk, hv, e1, e2, _⟩ := h
  exact ⟨ks, vs, by simp [World.cell?, hh], by simp [World.cell?, hh], by simp [World.cell?, hh], hk, hv, e1, e2⟩
theorem IsD.lt_size {w : World} {n0 g : Nat} {kb vb : Option Nat} {l : List Pr} (h : IsD w n0 g kb vb l) : g < w.heap.size := by
  obtain ⟨ks, vs, hh, _⟩ := h
  exact (Array.getElem?_eq_some_iff.1 hh).1
/-- A world that keeps the map's three blocks. -/
theorem IsD.kept {w w' : World} {n0 g : Nat} {kb vb : Option Nat} {l : List Pr} (h : IsD w n0 g kb vb l) (h0 : w'.heap[g]? = w.heap[g]?) (hk : ∀ k, kb = some k → w'.heap[k]? = w.heap[k]?) (hv : ∀ k, vb = some k → w'.heap[k]? = w.heap[k]?) : IsD w' n0 g kb vb l := by
  obtain ⟨ks, vs, hh, hg, hk', hv', e1, e2, hne⟩ := h
  have row : ∀ (v : Value) (xs : List ByteArray), Row w n0 v xs → (∀ k, v.ownBlock = some k → w'.heap[k]? = w.heap[k]?) → Row w' n0 v xs := by
    intro v xs hr hb
    obtain ⟨hl, ⟨rfl, hz⟩ | ⟨b, cap, cur, rfl, h1, h2, h3⟩⟩ := hr
    · exact ⟨hl, Or.inl ⟨rfl, hz⟩⟩
    · exact ⟨hl, Or.inr ⟨b, cap, cur, rfl, h1, (hb b rfl).trans h2, h3⟩⟩
  exact ⟨ks, vs, h0.trans hh, hg, row ks _ hk' (fun k hk2 => hk k (e1 ▸ hk2)), row vs _ hv' (fun k hk2 => hv k (e2 ▸ hk2)), e1, e2, hne⟩
theorem IsD.kb_lt {w : World} {n0 g : Nat} {kb vb : Option Nat} {l : List Pr} (h : IsD w n0 g kb vb l) : (∀ k, kb = some k → n0 ≤ k ∧ k < w.heap.size ∧ k ≠ g) ∧ (∀ k, vb = some k → n0 ≤ k ∧ k < w.heap.size ∧ k ≠ g) := by
  obtain ⟨ks, vs, hh, hg, hk, hv, e1, e2, hne⟩ := h
  have row : ∀ (v : Value) (xs : List ByteArray) (k : Nat), Row w n0 v xs → v.ownBlock = some k → n0 ≤ k ∧ k < w.heap.size ∧ k ≠ g := by
    intro v xs k hr hb
    obtain ⟨_, ⟨rfl, _⟩ | ⟨b, cap, cur, rfl, h1, h2, _⟩⟩ := hr
    · cases hb
    · obtain rfl : b = k := by simpa [Value.ownBlock] using hb
      refine ⟨h1, (Array.getElem?_eq_some_iff.1 h2).1, fun e => ?_⟩
      subst e
      rw [hh] at h2
      injection h2 with h2
      injection h2 with _ ht
      exact absurd ht (by decide)
  exact ⟨fun k e => row ks _ k hk (e1.trans e), fun k e => row vs _ k hv (e2.trans e)⟩
theorem IsD.below {w w' : World} {n0 g : Nat} {kb vb : Option Nat} {l : List Pr} (h : IsD w n0 g kb vb l) (hb : Below w.heap.size w w') : IsD w' n0 g kb vb l :=
  h.kept (hb.block g h.lt_size) (fun k e => hb.block k (h.kb_lt.1 k e).2.1) (fun k e => hb.block k (h.kb_lt.2 k e).2.1)

theorem dn {B : Nat} {w W : World} (h : Below B w W) (n : Nat) : Below B w (W.drewN n) := ⟨h.os, h.tape, h.output, h.size, h.block⟩
theorem below_grown (B : Nat) (w : World) (q : Nat) (os : Array Obj) (hB : B ≤ w.heap.size) : Below B w (Sort.grow (w.drewN q) os) := below_grown_sl B w q os hB
theorem beq_lists (a b : ByteArray) : (a.toList == b.toList) = decide (a = b) := by
  by_cases h : a = b
  · subst h; simp
  · have : a.toList ≠ b.toList := fun e => h (data_inj (by rw [← Lib.toList_data, ← Lib.toList_data, e]))
    simp [h, this]

set_option maxHeartbeats 4000000 in
theorem search_any (w : World) (n0 g bm bk : Nat) (kb vb : Option Nat) (l : List Pr) (key : ByteArray) (hD : IsD w n0 g kb vb l) (hs : Sorted l) (hn : l.length < 1000000) (hm : w.cell? ⟨bm, 0, none⟩ = some (.pointer (some ⟨g, 0, none⟩))) (hk : w.cell? ⟨bk, 0, none⟩ = some (.string key)) :
    Calls Try.prog 19 #[.int .i64 l.length, .func (.func 20) #[] #[.pointer (some ⟨bm, 0, none⟩), .pointer (some ⟨bk, 0, none⟩)]] w fun e w' => e = .returned (.int .i64 (rank key l : Nat)) ∧ Below w.heap.size w w' := by
  obtain ⟨ks, vs, c0, c1, c2, rk, rv, e1, e2⟩ := hD.cells
  have eg : ∀ args w, (callFunc 20 args).run Try.prog w = .ok (.enter 20 args) w := enters_of Try.func20 (by kernel_rfl) rfl
  have hS := Any.sort_Search Try.search 20 #[.pointer (some ⟨bm, 0, none⟩), .pointer (some ⟨bk, 0, none⟩)] l.length (fun i => !lt (l.getD i (⟨#[]⟩, ⟨#[]⟩)).1 key) w eg (by omega)
    (fun m os i hi => by
      rcases rk.parts with ⟨rfl, h0⟩ | ⟨blk, cap, rest, rfl, hg, hh, hc, hmx⟩
      · rw [List.map_eq_nil_iff] at h0
        rw [h0] at hi
        exact absurd hi (by simp)
      · have hx : w.cell? ⟨blk, i, none⟩ = some (.string (l.getD i (⟨#[]⟩, ⟨#[]⟩)).1) := by
          have := Row.cell hh i (.string (l.getD i (⟨#[]⟩, ⟨#[]⟩)).1) (by simp [hi])
          rwa [Nat.zero_add] at this
        rw [List.length_map] at c1
        have hb := fun {a : Addr} {v : Value} (h : w.cell? a = some v) => World.block_lt_of_cell? w a h
        exact (closure_any bm bk g blk l.length cap _ key i _ hi (cell_grown (hb hm) hm m os) (cell_grown (hb hk) hk m os) (cell_grown (hb c1) c1 m os) (cell_grown (hb hx) hx m os)).mono fun _ _ ⟨he, q, hq⟩ => ⟨he, q, #[], by rw [hq, Sort.grow_empty]⟩)
    (fun a b hab hb h => by
      have ha : a < l.length := by omega
      refine mono hs a b (l.getD a (⟨#[]⟩, ⟨#[]⟩)) (l.getD b (⟨#[]⟩, ⟨#[]⟩)) hab ?_ ?_ h
      · simp [ha]
      · simp [hb])
  rw [count_range] at hS
  refine Calls.mono hS ?_
  rintro e w' ⟨rfl, q, os, rfl⟩
  exact ⟨rfl, below_grown _ w q os (Nat.le_refl _)⟩

def has (l : List Pr) (k : ByteArray) : Bool := !(at_ k l).isEmpty

set_option maxHeartbeats 4000000 in
theorem place_any (w : World) (n0 g : Nat) (kb vb : Option Nat) (l : List Pr) (key : ByteArray) (hD : IsD w n0 g kb vb l) (hs : Sorted l) (hn : l.length < 1000000) :
    Calls Try.prog 15 #[.pointer (some ⟨g, 0, none⟩), .string key] w fun e w' => e = .returned (.tuple #[.int .i64 (rank key l : Nat), .bool (has l key)]) ∧ Below w.heap.size w w' := by
  obtain ⟨W0, hW0⟩ : ∃ W0, W0 = (w.alloc (.cells #[.pointer (some ⟨g, 0, none⟩)] 26)).alloc (.cells #[.string key] 9) := ⟨_, rfl⟩
  have hB0 : Below w.heap.size w W0 := by rw [hW0]; exact ((Below.refl _ w).alloc (Nat.le_refl _) _).alloc (by simp) _
  have hsize : W0.heap.size = w.heap.size + 1 + 1 := by rw [hW0]; simp
  have cm : W0.cell? ⟨w.heap.size, 0, none⟩ = some (.pointer (some ⟨g, 0, none⟩)) := by rw [hW0]; exact cell_alloc_sl _ (cell_new_sl w _ _)
  have ck : W0.cell? ⟨w.heap.size + 1, 0, none⟩ = some (.string key) := by
    rw [hW0]
    have := cell_new_sl (w.alloc (.cells #[.pointer (some ⟨g, 0, none⟩)] 26)) (.string key) 9
    rwa [World.size_alloc] at this
  have hD0 : IsD W0 n0 g kb vb l := hD.below hB0
  have C := Lib.hid (search_any W0 n0 g w.heap.size (w.heap.size + 1) kb vb l key hD0 hs hn cm ck)
  obtain ⟨ks, vs, c0, c1, c2, rk, rv, e1, e2⟩ := hD0.cells
  have hlen : (l.map (·.1)).length = l.length := by simp
  have hks : ∃ A cap, ks = .slice A l.length cap := by
    rcases rk.parts with ⟨rfl, h0⟩ | ⟨blk, cap, rest, rfl, _⟩
    · rw [List.map_eq_nil_iff] at h0
      rw [h0]
      exact ⟨none, 0, rfl⟩
    · rw [hlen]
      exact ⟨_, cap, rfl⟩
  have hle := rank_le (k := key) hs
  have hcase : (has l key = false ∧ rank key l = l.length) ∨ (rank key l < l.length ∧ ∃ x blk cap, ks = .slice (some ⟨blk, 0, none⟩) l.length cap ∧ W0.cell? ⟨blk, rank key l, none⟩ = some (.string x) ∧ (x.toList == key.toList) = has l key) := by
    have hrow : rank key l < l.length → ∀ p, l[rank key l]? = some p → ∃ blk cap, ks = .slice (some ⟨blk, 0, none⟩) l.length cap ∧ W0.cell? ⟨blk, rank key l, none⟩ = some (.string p.1) := by
      intro hlt p hp
      rcases rk.parts with ⟨rfl, h0⟩ | ⟨blk, cap, rest, rfl, hg, hh, hc, hmx⟩
      · rw [List.map_eq_nil_iff] at h0
        rw [h0] at hlt
        exact absurd hlt (by simp)
      · refine ⟨blk, cap, by rw [hlen], ?_⟩
        have := Row.cell hh (rank key l) (.string p.1) (by simp [hp])
        rwa [Nat.zero_add] at this
    rcases at_cases (k := key) hs with ha | ⟨v, ha⟩
    · rcases Nat.lt_or_eq_of_le hle with hlt | heq
      · obtain ⟨p, hp, hlp⟩ := rank_none hs ha hlt
        obtain ⟨blk, cap, a1, a2⟩ := hrow hlt p hp
        exact Or.inr ⟨hlt, p.1, blk, cap, a1, a2, by rw [beq_lists]; simp [has, ha, (lt_ne hlp).symm]⟩
      · exact Or.inl ⟨by simp [has, ha], heq⟩
    · obtain ⟨hlt, hp, _⟩ := rank_at hs ha
      obtain ⟨blk, cap, a1, a2⟩ := hrow hlt _ hp
      exact Or.inr ⟨hlt, key, blk, cap, a1, a2, by rw [beq_lists]; simp [has, ha]⟩
  have HB := Lib.hid hB0
  have HS := Lib.hid hsize
  have HW := Lib.hid hW0
  have hz : (0 : Nat) = 0 := rfl
  rcases hcase with ⟨hf, heq⟩ | ⟨hlt, x, blk, cap, rfl, cx, hx⟩
  · obtain ⟨A, cap, rfl⟩ := hks
    rw [heq] at C ⊢
    rw [hf]
    have HC1 := Lib.hid c1
    have HCM := Lib.hid cm
    rw [hW0] at c0 c1 cm
    clear hf heq rk rv hB0 hsize hW0 hs hD hD0 hle hlen hz e1 e2 ck c2
    go_enter Try.func15, Try.ntmps15
    go_wp2_with fail
    rw [← HW.out]
    refine (C.out).mono ?_
    rintro e w1 ⟨rfl, hb⟩
    have HB1 := Lib.hid (HB.out.trans (hb.mono (by have := HS.out; omega)))
    have c1 := (hb.cell (World.block_lt_of_cell? _ _ HC1.out)).trans HC1.out
    have cm := (hb.cell (World.block_lt_of_cell? _ _ HCM.out)).trans HCM.out
    clear hb c0
    go_wp2_with fail
    go_quiet (fail)
    all_goals go_wp2
    all_goals go_ret2
    all_goals exact ⟨rfl, dn HB1.out _⟩
  · have HC1 := Lib.hid c1
    have HCM := Lib.hid cm
    have HCK := Lib.hid ck
    have HX := Lib.hid cx
    have HL := Lib.hid hlt
    rw [← hx]
    rw [hW0] at c0 c1 cm
    have hltz : ((rank key l : Nat) : Int) < (l.length : Int) := by omega
    have HR := Lib.hid (show (0 : Int) ≤ ((rank key l : Nat) : Int) by omega)
    clear hx rk rv hB0 hsize hW0 hs hD hD0 hle hlen hz e1 e2 ck c2 cx hks
    go_enter Try.func15, Try.ntmps15
    go_wp2_with fail
    rw [← HW.out]
    refine (C.out).mono ?_
    rintro e w1 ⟨rfl, hb⟩
    have HB1 := Lib.hid (HB.out.trans (hb.mono (by have := HS.out; omega)))
    have c1 := (hb.cell (World.block_lt_of_cell? _ _ HC1.out)).trans HC1.out
    have cm := (hb.cell (World.block_lt_of_cell? _ _ HCM.out)).trans HCM.out
    have ck := (hb.cell (World.block_lt_of_cell? _ _ HCK.out)).trans HCK.out
    have cx := (hb.cell (World.block_lt_of_cell? _ _ HX.out)).trans HX.out
    clear hb c0
    go_wp2_with fail
    go_quiet (fail)
    all_goals go_wp2
    all_goals go_ret2
    all_goals exact ⟨rfl, dn HB1.out _⟩

/-- The pieces of a map whose key is there. -/
theorem at_of_has {l : List Pr} {k : ByteArray} (hs : Sorted l) (h : has l k = true) : ∃ v, at_ k l = [(k, v)] := by
  rcases at_cases (k := k) hs with ha | h2
  · simp [has, ha] at h
  · exact h2
theorem at_of_not {l : List Pr} {k : ByteArray} (h : has l k = false) : at_ k l = [] := by
  simpa [has] using h

set_option maxHeartbeats 4000000 in
theorem len_any (w : World) (n0 g : Nat) (kb vb : Option Nat) (l : List Pr) (hD : IsD w n0 g kb vb l) :
    Calls Try.prog 10 #[.pointer (some ⟨g, 0, none⟩)] w fun e w' => e = .returned (.int .i64 (l.length : Nat)) ∧ w' = w := by
  obtain ⟨ks, vs, c0, c1, c2, rk, rv, e1, e2⟩ := hD.cells
  have hks : ∃ A cap, ks = .slice A l.length cap := by
    rcases rk.parts with ⟨rfl, h0⟩ | ⟨blk, cap, rest, rfl, _⟩
    · rw [List.map_eq_nil_iff] at h0
      rw [h0]
      exact ⟨none, 0, rfl⟩
    · rw [List.length_map]
      exact ⟨_, cap, rfl⟩
  obtain ⟨A, cap, rfl⟩ := hks
  clear rk rv e1 e2 hD c0 c2
  go_enter Try.func10, Try.ntmps10
  go_wp2
  go_ret
  exact ⟨rfl, rfl⟩

set_option maxHeartbeats 4000000 in
theorem new_any (w : World) (n0 : Nat) (h0 : n0 ≤ w.heap.size) :
    Calls Try.prog 5 #[] w fun e w' => e = .returned (.pointer (some ⟨w.heap.size, 0, none⟩)) ∧ IsD w' n0 w.heap.size none none [] ∧ Below w.heap.size w w' := by
  go_enter Try.func5, Try.ntmps5
  go_wp2
  go_ret
  refine ⟨rfl, ⟨.slice none 0 0, .slice none 0 0, ?_, h0, ⟨rfl, Or.inl ⟨rfl, rfl⟩⟩, ⟨rfl, Or.inl ⟨rfl, rfl⟩⟩, rfl, rfl, Or.inl rfl⟩, (Below.refl _ w).alloc (Nat.le_refl _) _⟩
  exact alloc_new w _

set_option maxHeartbeats 4000000 in
theorem get_any (w : World) (n0 g : Nat) (kb vb : Option Nat) (l : List Pr) (key : ByteArray) (hD : IsD w n0 g kb vb l) (hs : Sorted l) (hn : l.length < 1000000) :
    Calls Try.prog 11 #[.pointer (some ⟨g, 0, none⟩), .string key] w fun e w' => e = .returned (.tuple #[.string (dget l key).1, .bool (dget l key).2]) ∧ Below w.heap.size w w' := by
  have C := Lib.hid (place_any w n0 g kb vb l key hD hs hn)
  cases hh : has l key with
  | false =>
    have hg : dget l key = (⟨#[]⟩, false) := by simp [dget, at_of_not hh]
    rw [hg]
    rw [hh] at C
    clear hg hh hD hs
    go_enter Try.func11, Try.ntmps11
    go_wp2_with fail
    refine C.out.mono ?_
    rintro e w1 ⟨rfl, hb⟩
    have HB1 := Lib.hid hb
    clear hb
    go_wp2
    go_ret2
    exact ⟨rfl, HB1.out⟩
  | true =>
    obtain ⟨v, ha⟩ := at_of_has hs hh
    have hg : dget l key = (v, true) := by simp [dget, ha]
    obtain ⟨hlt, hp, _⟩ := rank_at hs ha
    obtain ⟨ks, vs, c0, c1, c2, rk, rv, e1, e2⟩ := hD.cells
    have hrow : ∃ blk cap, vs = .slice (some ⟨blk, 0, none⟩) l.length cap ∧ w.cell? ⟨blk, rank key l, none⟩ = some (.string v) := by
      rcases rv.parts with ⟨rfl, h0⟩ | ⟨blk, cap, rest, rfl, hg, hh, hc, hmx⟩
      · rw [List.map_eq_nil_iff] at h0
        rw [h0] at hlt
        exact absurd hlt (by simp)
      · refine ⟨blk, cap, by rw [List.length_map], ?_⟩
        have := Row.cell hh (rank key l) (.string v) (by simp [hp])
        rwa [Nat.zero_add] at this
    obtain ⟨blk, cap, rfl, cx⟩ := hrow
    have HC2 := Lib.hid c2
    have HX := Lib.hid cx
    rw [hg]
    rw [hh] at C
    have hltz : ((rank key l : Nat) : Int) < (l.length : Int) := by omega
    have hrz : (0 : Int) ≤ ((rank key l : Nat) : Int) := by omega
    clear hg hh hD hs ha hp rk rv e1 e2 c0 c1 c2 cx
    go_enter Try.func11, Try.ntmps11
    go_wp2_with fail
    refine C.out.mono ?_
    rintro e w1 ⟨rfl, hb⟩
    have HB1 := Lib.hid hb
    have c2 := (hb.cell (World.block_lt_of_cell? _ _ HC2.out)).trans HC2.out
    have cx := (hb.cell (World.block_lt_of_cell? _ _ HX.out)).trans HX.out
    clear hb
    go_wp2
    go_ret2
    exact ⟨rfl, HB1.out⟩
end Go.Proofs.Ytdenkbdagbmddaa.DcW
