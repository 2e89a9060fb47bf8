/- dict: the law's 'all' and 'awake'. -/
import Derived.Test.YtdenkbdagbmddaaDictKept
import Derived.Test.YtdenkbdagbmddaaDictAll
namespace Go.Proofs.Ytdenkbdagbmddaa.DcL
open Go.RowKit Go.Shelf Dc DcM DcW DcI DcR
set_option linter.unusedVariables false

theorem all_m {n0 g : Nat} {w : World} {l : List Pr} (h : MapAt n0 w g l) (hl : l.length < 1000000) (most : Nat) :
    Calls Try.prog 7 #[.pointer (some ⟨g, 0, none⟩), .int .i64 most] w fun e w' => ∃ v, e = .returned v ∧ w'.ownsRow n0 24 2 v (l.take most).length (cellsP (l.take most)) ∧ MapAt n0 w' g l ∧ Kept n0 w w' := by
  obtain ⟨kb, vb, hD, hs, hn⟩ := id h
  exact (lawall_any w n0 g kb vb l most hD hl).mono fun e w' ⟨v, he, hr, hb⟩ => ⟨v, he, row_base hr hn, h.below hb, Kept.of_below hb hn⟩

/-! ### awake -/
theorem lt_ab : lt ⟨#[97]⟩ ⟨#[98]⟩ = true := by
  unfold lt; rw [Lib.toList_data, Lib.toList_data]; rfl
theorem put1 (k v : ByteArray) : put [] k v = [(k, v)] := rfl
theorem put2 (v u : ByteArray) : put [(⟨#[98]⟩, v)] ⟨#[97]⟩ u = [(⟨#[97]⟩, u), (⟨#[98]⟩, v)] := by
  simp [put, Dc.below, above, lt_ab, lt_asymm lt_ab]
theorem put3 (v u x : ByteArray) : put [(⟨#[97]⟩, u), (⟨#[98]⟩, v)] ⟨#[98]⟩ x = [(⟨#[97]⟩, u), (⟨#[98]⟩, x)] := by
  simp [put, Dc.below, above, lt_ab, lt_asymm lt_ab, lt_irrefl]
theorem get1 (k : ByteArray) : dget [] k = (⟨#[]⟩, false) := rfl
theorem get2 (v : ByteArray) : dget [(⟨#[98]⟩, v)] ⟨#[97]⟩ = (⟨#[]⟩, false) := by
  have : (⟨#[98]⟩ : ByteArray) ≠ ⟨#[97]⟩ := (lt_ne lt_ab).symm
  simp [dget, at_, this]
theorem get3 (v u : ByteArray) : dget [(⟨#[97]⟩, u), (⟨#[98]⟩, v)] ⟨#[98]⟩ = (v, true) := by
  have : (⟨#[97]⟩ : ByteArray) ≠ ⟨#[98]⟩ := lt_ne lt_ab
  simp [dget, at_, this]
set_option maxRecDepth 100000 in
set_option maxHeartbeats 8000000 in
theorem awake_any (w : World) : Calls Try.prog 4 #[] w fun e w' => e = .returned (.bool true) ∧ Below w.heap.size w w' := by
  go_enter Try.func4, Try.ntmps4
  go_wp2_with fail
  refine (new_m w.heap.size w (Nat.le_refl _)).mono ?_
  rintro e w1 ⟨rfl, hm1, hk1⟩
  dsimp only
  have K1 := Lib.hid hk1
  clear hk1
  go_wp2_with fail
  refine (put_m hm1 (by simp) _ _).mono ?_
  rw [get1, put1]
  rintro e w2 ⟨rfl, hm2, hk2⟩
  dsimp only
  have K2 := Lib.hid (K1.out.trans hk2)
  clear hk2 hm1
  go_wp2_with fail
  refine (put_m hm2 (by simp) _ _).mono ?_
  rw [get2, put2]
  rintro e w3 ⟨rfl, hm3, hk3⟩
  dsimp only
  have K3 := Lib.hid (K2.out.trans hk3)
  clear hk3 hm2
  go_wp2_with fail
  refine (put_m hm3 (by simp) _ _).mono ?_
  rw [get3, put3]
  rintro e w4 ⟨rfl, hm4, hk4⟩
  dsimp only
  have K4 := Lib.hid (K3.out.trans hk4)
  clear hk4 hm3
  go_wp2_with fail
  refine (len_m hm4).mono ?_
  rintro e w5 ⟨rfl, rfl⟩
  go_wp2_with fail
  refine (all_m hm4 (by simp) 9).mono ?_
  rintro e w6 ⟨v, rfl, hr, hm6, hk6⟩
  have K6 := Lib.hid (K4.out.trans hk6)
  have hr2 := hr.alloc (.cells #[.string ⟨#[97]⟩, .string ⟨#[50]⟩, .string ⟨#[98]⟩, .string ⟨#[51]⟩] 24)
  have hq := World.ownsRow_lit (base := w.heap.size) (e := 24) (size := 2) w6 #[.string ⟨#[97]⟩, .string ⟨#[50]⟩, .string ⟨#[98]⟩, .string ⟨#[51]⟩] 2 K6.out.size (by decide) rfl
  have P1 := Lib.hid (Prs.of_owns (l := [(⟨#[97]⟩, ⟨#[50]⟩), (⟨#[98]⟩, ⟨#[51]⟩)]) hr2)
  have P2 := Lib.hid (Prs.of_owns (l := [(⟨#[97]⟩, ⟨#[50]⟩), (⟨#[98]⟩, ⟨#[51]⟩)]) hq)
  clear hk6 hm4 hr hr2 hq hm6
  go_wp2_with fail
  refine (same_ref _ _ _ _ _ P1.out P2.out (by simp)).mono ?_
  rintro e w7 ⟨rfl, n, rfl⟩
  simp only [decide_true]
  go_wp2_with fail
  go_ret
  exact ⟨rfl, dn ((K6.out.below).alloc K6.out.size _) n⟩
end Go.Proofs.Ytdenkbdagbmddaa.DcL
