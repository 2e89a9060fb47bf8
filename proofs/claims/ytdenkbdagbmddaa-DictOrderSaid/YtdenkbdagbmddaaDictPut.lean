/- dict: the walks of Put and Delete. -/
import Derived.Test.YtdenkbdagbmddaaDictWalk
namespace Go.Proofs.Ytdenkbdagbmddaa.DcW
open Go.RowKit Go.Shelf Dc DcM
set_option linter.unusedVariables false

/-- Whatever lies in w, but for the blocks of S, lies so in w'. -/
structure Keeps (w w' : World) (S : Nat → Prop) : Prop where
  os : w'.os = w.os
  tape : w'.tape = w.tape
  output : w'.output = w.output
  size : w.heap.size ≤ w'.heap.size
  block : ∀ k, k < w.heap.size → ¬ S k → w'.heap[k]? = w.heap[k]?
theorem Keeps.trans {w w1 w2 : World} {S T : Nat → Prop} (a : Keeps w w1 S) (b : Keeps w1 w2 T) (h : ∀ k, k < w.heap.size → T k → S k) : Keeps w w2 S :=
  ⟨b.os.trans a.os, b.tape.trans a.tape, b.output.trans a.output, Nat.le_trans a.size b.size, fun k hk hn => (b.block k (Nat.lt_of_lt_of_le hk a.size) (fun ht => hn (h k hk ht))).trans (a.block k hk hn)⟩
theorem Keeps.mono {w w1 : World} {S T : Nat → Prop} (a : Keeps w w1 S) (h : ∀ k, k < w.heap.size → S k → T k) : Keeps w w1 T := ⟨a.os, a.tape, a.output, a.size, fun k hk hn => a.block k hk (fun hs => hn (h k hk hs))⟩
theorem Keeps.of_below {w w' : World} (S : Nat → Prop) (h : Below w.heap.size w w') : Keeps w w' S := ⟨h.os, h.tape, h.output, h.size, fun k hk _ => h.block k hk⟩
theorem Keeps.of_grown {w w' : World} {r : Option Nat} (h : w.grownBy w' r) : Keeps w w' (fun k => some k = r) := ⟨h.os, h.tape, h.output, h.size, fun k hk hn => h.block k hk hn⟩
theorem Keeps.set (w : World) (p : Addr) (v : Value) : Keeps w (w.setCell p v) (fun k => k = p.block) :=
  ⟨rfl, rfl, rfl, by simp [World.setCell], fun k hk hn => by
    have : p.block ≠ k := fun e => hn e.symm
    simp [World.setCell, Array.getElem?_modify, this]⟩
theorem Keeps.below {w w' : World} {S : Nat → Prop} {B : Nat} (h : Keeps w w' S) (hB : B ≤ w.heap.size) (hS : ∀ k, S k → B ≤ k) : Below B w w' :=
  ⟨h.os, h.tape, h.output, h.size, fun k hk => h.block k (by omega) (fun hs => by have := hS k hs; omega)⟩
/-- The blocks of a map. -/
def Foot (g : Nat) (kb vb : Option Nat) (k : Nat) : Prop := k = g ∨ some k = kb ∨ some k = vb
/-- A row's block is the old one's, or a new one. -/
def Fresh (w : World) (b b' : Option Nat) : Prop := b' = b ∨ ∃ k, b' = some k ∧ w.heap.size ≤ k
theorem heap_set1 {w : World} {g : Nat} {a b c u : Value} {T : TypeId} (h : w.heap[g]? = some (.cells #[a, b, c] T (0, 0))) : (w.setCell ⟨g, 1, none⟩ u).heap[g]? = some (.cells #[a, u, c] T (0, 0)) := by
  simp [World.setCell, Array.getElem?_modify, h]
theorem heap_set2 {w : World} {g : Nat} {a b c u : Value} {T : TypeId} (h : w.heap[g]? = some (.cells #[a, b, c] T (0, 0))) : (w.setCell ⟨g, 2, none⟩ u).heap[g]? = some (.cells #[a, b, u] T (0, 0)) := by
  simp [World.setCell, Array.getElem?_modify, h]
theorem cell_of {w : World} {g : Nat} {cs : Array Value} {T : TypeId} {f : Nat × Nat} (h : w.heap[g]? = some (.cells cs T f)) (i : Nat) : w.cell? ⟨g, i, none⟩ = cs[i]? := by
  simp [World.cell?, h]
theorem frozen_of {w : World} {g : Nat} {cs : Array Value} {T : TypeId} (h : w.heap[g]? = some (.cells cs T (0, 0))) (i : Nat) : w.frozen? ⟨g, i, none⟩ = false := by
  simp [World.frozen?, h]
theorem Row.shape {w : World} {n0 : Nat} {v : Value} {xs : List ByteArray} (h : Row w n0 v xs) : ∃ A cap, v = .slice A xs.length cap := by
  rcases h.parts with ⟨rfl, rfl⟩ | ⟨blk, cap, rest, rfl, _⟩
  · exact ⟨none, 0, rfl⟩
  · exact ⟨_, cap, rfl⟩
theorem Row.keeps {w w' : World} {n0 : Nat} {v : Value} {xs : List ByteArray} (h : Row w n0 v xs) (hb : ∀ k, v.ownBlock = some k → w'.heap[k]? = w.heap[k]?) : Row w' n0 v xs := by
  obtain ⟨hl, ⟨rfl, hz⟩ | ⟨b, cap, cur, rfl, h1, h2, h3⟩⟩ := h
  · exact ⟨hl, Or.inl ⟨rfl, hz⟩⟩
  · exact ⟨hl, Or.inr ⟨b, cap, cur, rfl, h1, (hb b rfl).trans h2, h3⟩⟩
theorem Row.ne_of_type {w : World} {n0 g : Nat} {v : Value} {xs : List ByteArray} {cs : Array Value} {T : TypeId} {f : Nat × Nat} (h : Row w n0 v xs) (hg : w.heap[g]? = some (.cells cs T f)) (hT : T ≠ 9) : v.ownBlock ≠ some g := by
  obtain ⟨hl, ⟨rfl, hz⟩ | ⟨b, cap, cur, rfl, h1, h2, h3⟩⟩ := h
  · simp [Value.ownBlock]
  · intro e
    obtain rfl : b = g := by simpa [Value.ownBlock] using e
    rw [hg] at h2
    injection h2 with h2
    injection h2 with _ ht
    exact hT ht
theorem Row.lt_size {w : World} {n0 : Nat} {v : Value} {xs : List ByteArray} (h : Row w n0 v xs) (k : Nat) (e : v.ownBlock = some k) : n0 ≤ k ∧ k < w.heap.size := World.ownsRow.lt h k e

theorem keys_put {l : List Pr} {key : ByteArray} (hs : Sorted l) (ha : at_ key l = []) (v : ByteArray) : (l.map (·.1)).take (rank key l) ++ key :: (l.map (·.1)).drop (rank key l) = (put l key v).map (·.1) := by
  rw [← List.map_take, ← List.map_drop, take_rank hs, drop_rank hs, ha]
  simp [put]
theorem vals_put {l : List Pr} {key : ByteArray} (hs : Sorted l) (ha : at_ key l = []) (v : ByteArray) : (l.map (·.2)).take (rank key l) ++ v :: (l.map (·.2)).drop (rank key l) = (put l key v).map (·.2) := by
  rw [← List.map_take, ← List.map_drop, take_rank hs, drop_rank hs, ha]
  simp [put]

set_option maxHeartbeats 4000000 in
theorem put_new (w : World) (n0 g : Nat) (kb vb : Option Nat) (l : List Pr) (key v : ByteArray) (hD : IsD w n0 g kb vb l) (hs : Sorted l) (hn : l.length < 1000000) (h0 : n0 ≤ w.heap.size) (hh : has l key = false) :
    Calls Try.prog 6 #[.pointer (some ⟨g, 0, none⟩), .string key, .string v] w fun e w' => e = .returned (.tuple #[.string ⟨#[]⟩, .bool false]) ∧ ∃ kb' vb', IsD w' n0 g kb' vb' (put l key v) ∧ Keeps w w' (Foot g kb vb) ∧ Fresh w kb kb' ∧ Fresh w vb vb' := by
  have C := Lib.hid (place_any w n0 g kb vb l key hD hs hn)
  rw [hh] at C
  have hgt := hD.lt_size
  obtain ⟨ks, vs, hheap, hg0, rk, rv, e1, e2, hne⟩ := hD
  have hc0 := cell_of hheap 0
  obtain ⟨A1, cap1, hk1⟩ := Row.shape rk
  obtain ⟨A2, cap2, hk2⟩ := Row.shape rv
  rw [List.length_map] at hk1 hk2
  subst hk1 hk2
  have HH := Lib.hid hheap
  have RK := Lib.hid rk
  have RV := Lib.hid rv
  have E1 := Lib.hid e1
  have E2 := Lib.hid e2
  have HS := Lib.hid hs
  have NE := Lib.hid hne
  have HA := Lib.hid (at_of_not hh)
  have hle := rank_le (k := key) hs
  have HG := Lib.hid hgt
  clear hh hs rk rv e1 e2 hne hheap hgt
  simp only [List.getElem?_toArray, List.getElem?_cons_zero] at hc0
  go_enter Try.func6, Try.ntmps6
  go_wp2_with fail
  refine C.out.mono ?_
  rintro e w1 ⟨rfl, hb⟩
  have hh1 := (hb.block g HG.out).trans HH.out
  have H1 := Lib.hid hh1
  have HB1 := Lib.hid hb
  have hc1 := cell_of hh1 1
  simp only [List.getElem?_toArray, List.getElem?_cons_succ, List.getElem?_cons_zero] at hc1
  clear hb hh1 hc0
  go_wp2_with fail
  have rk1 : Row (w1.alloc (.cells #[.string key] 9)) n0 (.slice A1 l.length cap1) (l.map (·.1)) := Row.keeps RK.out (fun k e => ((Below.alloc (Below.refl w1.heap.size w1) (Nat.le_refl _) _).block k (Nat.lt_of_lt_of_le (Row.lt_size RK.out k e).2 HB1.out.size)).trans (HB1.out.block k (Row.lt_size RK.out k e).2))
  have hne1 : (Value.slice A1 l.length cap1).ownBlock ≠ some w1.heap.size := fun e => by
    have := (Row.lt_size RK.out _ e).2
    have := HB1.out.size
    omega
  refine (ins_any (.slice A1 l.length cap1) n0 (rank key l) (l.map (·.1)) key w1.heap.size 9 (w1.alloc (.cells #[.string key] 9)) rk1 (by rw [List.length_map]; exact hle) (by rw [List.length_map]; exact hn) (alloc_new w1 _) hne1 (by have := HB1.out.size; simp; omega)).mono ?_
  rintro e w2 ⟨ks', rfl, rk2, hg2, fr2⟩
  rw [keys_put HS.out HA.out v] at rk2
  obtain ⟨A1', cap1', hks'⟩ := Row.shape rk2
  rw [List.length_map] at hks'
  subst hks'
  have hgk : (Value.slice A1 l.length cap1).ownBlock ≠ some g := Row.ne_of_type RK.out HH.out (by decide)
  have hgw1 : g < w1.heap.size := Nat.lt_of_lt_of_le HG.out HB1.out.size
  have hh2 : w2.heap[g]? = some (.cells #[.bool true, .slice A1 l.length cap1, .slice A2 l.length cap2] 39 (0, 0)) :=
    (hg2.block g (by simp; omega) (fun e => hgk e.symm)).trans (((Below.alloc (Below.refl w1.heap.size w1) (Nat.le_refl _) _).block g hgw1).trans H1.out)
  have H2 := Lib.hid hh2
  have RK2 := Lib.hid rk2
  have G2 := Lib.hid hg2
  have FR2 := Lib.hid fr2
  have hc1 := cell_of hh2 1
  have hc2 := cell_of hh2 2
  have hf1 := frozen_of hh2 1
  simp only [List.getElem?_toArray, List.getElem?_cons_succ, List.getElem?_cons_zero] at hc1 hc2
  clear rk1 hne1 rk2 hg2 fr2 hgk hgw1 hh2
  go_wp2_with fail
  have K3 : Keeps w (w2.setCell ⟨g, 1, none⟩ (.slice A1' (put l key v).length cap1')) (fun k => k = g ∨ some k = kb) := by
    refine ((((Keeps.of_below (fun k => k = g ∨ some k = kb) HB1.out).trans (Keeps.of_below (fun _ => False) ((Below.refl w1.heap.size w1).alloc (Nat.le_refl _) (.cells #[.string key] 9))) (fun _ _ h => h.elim)).trans (Keeps.of_grown G2.out) ?_).trans (Keeps.set _ _ _) (fun k _ h => Or.inl h))
    intro k _ h
    rw [E1.out] at h
    exact Or.inr h
  have HK3 := Lib.hid K3
  have hvg : (Value.slice A2 l.length cap2).ownBlock ≠ some g := Row.ne_of_type RV.out HH.out (by decide)
  have hvk : ∀ k, (Value.slice A2 l.length cap2).ownBlock = some k → ¬ (k = g ∨ some k = kb) := fun k e => by
    rintro (rfl | h)
    · exact hvg e
    · have h2 := E2.out
      rw [e] at h2
      rcases NE.out with n | n
      · rw [n] at h; cases h
      · exact n (h.symm.trans h2)
  have rv3 : Row ((w2.setCell ⟨g, 1, none⟩ (.slice A1' (put l key v).length cap1')).alloc (.cells #[.string v] 9)) n0 (.slice A2 l.length cap2) (l.map (·.2)) := Row.keeps RV.out (fun k e =>
    (((Below.refl _ (w2.setCell ⟨g, 1, none⟩ (.slice A1' (put l key v).length cap1'))).alloc (Nat.le_refl _) _).block k (Nat.lt_of_lt_of_le (Row.lt_size RV.out k e).2 K3.size)).trans (K3.block k (Row.lt_size RV.out k e).2 (hvk k e)))
  have hs3 : (w2.setCell ⟨g, 1, none⟩ (.slice A1' (put l key v).length cap1')).heap.size = w2.heap.size := by simp [World.setCell]
  have hne3 : (Value.slice A2 l.length cap2).ownBlock ≠ some w2.heap.size := fun e => by
    have := (Row.lt_size RV.out _ e).2
    have := K3.size
    omega
  have hnew3 := alloc_new (w2.setCell ⟨g, 1, none⟩ (.slice A1' (put l key v).length cap1')) (.cells #[.string v] 9)
  rw [hs3] at hnew3
  refine (ins_any (.slice A2 l.length cap2) n0 (rank key l) (l.map (·.2)) v w2.heap.size 9 _ rv3 (by rw [List.length_map]; exact hle) (by rw [List.length_map]; exact hn) hnew3 hne3 (by have := K3.size; simp; omega)).mono ?_
  rintro e w4 ⟨vs', rfl, rv4, hg4, fr4⟩
  rw [vals_put HS.out HA.out v] at rv4
  obtain ⟨A2', cap2', hvs'⟩ := Row.shape rv4
  rw [List.length_map] at hvs'
  subst hvs'
  have hgw2 : g < w2.heap.size := (Array.getElem?_eq_some_iff.1 H2.out).1
  have hh4 : w4.heap[g]? = some (.cells #[.bool true, .slice A1' (put l key v).length cap1', .slice A2 l.length cap2] 39 (0, 0)) :=
    (hg4.block g (by simp; omega) (fun e => hvg e.symm)).trans ((((Below.refl _ _).alloc (Nat.le_refl _) _).block g (by rw [hs3]; exact hgw2)).trans (heap_set1 H2.out))
  have H4 := Lib.hid hh4
  have RV4 := Lib.hid rv4
  have G4 := Lib.hid hg4
  have FR4 := Lib.hid fr4
  have VK := Lib.hid hvk
  have S3 := Lib.hid hs3
  have hc2 := cell_of hh4 2
  have hf2 := frozen_of hh4 2
  simp only [List.getElem?_toArray, List.getElem?_cons_succ, List.getElem?_cons_zero] at hc2
  clear K3 hvg hvk rv3 hs3 hne3 hnew3 rv4 hg4 fr4 hgw2 hh4 hc1 hf1
  go_wp2_with fail
  go_ret2
  have hk1 : (Value.slice A1' (put l key v).length cap1').ownBlock ≠ some g := Row.ne_of_type RK2.out H2.out (by decide)
  have hv1 : (Value.slice A2' (put l key v).length cap2').ownBlock ≠ some g := Row.ne_of_type RV4.out H4.out (by decide)
  have hsz1 : w1.heap.size < w2.heap.size := by
    have := G2.out.size
    simp at this
    omega
  have hsz3 : w2.heap.size < w4.heap.size := by
    have := G4.out.size
    simp at this
    omega
  -- the keys' row is another than the values' old one
  have hkv : ∀ k, (Value.slice A1' (put l key v).length cap1').ownBlock = some k → (Value.slice A2 l.length cap2).ownBlock ≠ some k := fun k e e' => by
    rcases FR2.out with f | ⟨k', f, hk'⟩
    · rw [f] at e
      have a := VK.out k e'
      rw [E1.out] at e
      exact a (Or.inr e.symm)
    · rw [f] at e
      cases e
      have := (Row.lt_size RV.out _ e').2
      have := HB1.out.size
      simp at hk'
      omega
  have K34 : Keeps (w2.setCell ⟨g, 1, none⟩ (.slice A1' (put l key v).length cap1')) (w4.setCell ⟨g, 2, none⟩ (.slice A2' (put l key v).length cap2')) (fun k => k = g ∨ some k = vb) := by
    refine ((Keeps.of_below (fun k => k = g ∨ some k = vb) ((Below.refl _ _).alloc (Nat.le_refl _) _)).trans (Keeps.of_grown G4.out) ?_).trans (Keeps.set w4 ⟨g, 2, none⟩ (.slice A2' (put l key v).length cap2')) (fun k _ h => Or.inl h)
    intro k _ h
    rw [E2.out] at h
    exact Or.inr h
  have K5 : Keeps w2 (w4.setCell ⟨g, 2, none⟩ (.slice A2' (put l key v).length cap2')) (fun k => k = g ∨ some k = vb) :=
    ((Keeps.set w2 ⟨g, 1, none⟩ _).mono (fun k _ h => Or.inl h)).trans K34 (fun _ _ h => h)
  refine ⟨rfl, (Value.slice A1' (put l key v).length cap1').ownBlock, (Value.slice A2' (put l key v).length cap2').ownBlock, ⟨_, _, heap_set2 H4.out, hg0, ?_, ?_, rfl, rfl, ?_⟩, ?_, ?_, ?_⟩
  · exact Row.keeps RK2.out (fun k e => K5.block k (Row.lt_size RK2.out k e).2 (by
      rintro (rfl | h)
      · exact hk1 e
      · exact hkv k e (E2.out.trans h.symm)))
  · exact Row.keeps RV4.out (fun k e => (Keeps.set w4 ⟨g, 2, none⟩ _).block k (Row.lt_size RV4.out k e).2 (fun e' => hv1 (by rw [e, e'])))
  · cases ek : (Value.slice A1' (put l key v).length cap1').ownBlock with
    | none => exact Or.inl rfl
    | some k =>
      refine Or.inr fun e => ?_
      rcases FR4.out with f | ⟨k', f, hk'⟩
      · exact hkv k ek (f.symm.trans e.symm)
      · rw [f] at e
        cases e
        have := (Row.lt_size RK2.out _ ek).2
        simp at hk'
        omega
  · refine (HK3.out.mono (T := Foot g kb vb) (fun k _ h => h.elim Or.inl (fun h => Or.inr (Or.inl h)))).trans K34 (fun k _ h => h.elim Or.inl (fun h => Or.inr (Or.inr h)))
  · rcases FR2.out with f | ⟨k, f, hk⟩
    · exact Or.inl (f.trans E1.out)
    · refine Or.inr ⟨k, f, ?_⟩
      have := HB1.out.size
      simp at hk
      omega
  · rcases FR4.out with f | ⟨k, f, hk⟩
    · exact Or.inl (f.trans E2.out)
    · refine Or.inr ⟨k, f, ?_⟩
      have := HB1.out.size
      simp at hk
      omega
end Go.Proofs.Ytdenkbdagbmddaa.DcW
