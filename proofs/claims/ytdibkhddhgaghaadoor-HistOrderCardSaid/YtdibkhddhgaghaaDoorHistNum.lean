/- hist.call's closures: a number, a text. -/
import Derived.Test.YtdibkhddhgaghaaDoorHistNext
namespace Go.Proofs.YtdibkhddhgaghaaDoor.Hs
open Go.RowKit
set_option linter.unusedVariables false
set_option linter.unusedSimpArgs false
def Small (s : St) : Prop := s.1.length ≤ 4294967296 ∧ ∀ t ∈ s.1, t.size ≤ 4294967296
theorem Small.nxt {s : St} (h : Small s) : Small (nxt s).2 ∧ (nxt s).1.size ≤ 4294967296 := by
  obtain ⟨l, fi⟩ := s
  cases l with
  | nil => exact ⟨⟨by simp [Hs.nxt], fun t ht => by simp [Hs.nxt] at ht⟩, by show (0 : Nat) ≤ _; omega⟩
  | cons t r => exact ⟨⟨by have := h.1; simp at this; simp [Hs.nxt]; omega, fun u hu => h.2 u (List.mem_cons_of_mem _ hu)⟩, h.2 t (List.mem_cons_self)⟩
theorem Small.num {s : St} {a b : Int} (h : Small s) : Small (num a b s).2 := h.nxt.1
theorem Small.txt {s : St} (h : Small s) : Small (txt s).2 := h.nxt.1
def NumPost (B L F X : Nat) (a b : Int) (s : St) (w : World) (e : Ending) (w' : World) : Prop := e = .returned (.int .i64 (num a b s).1) ∧ SAt w' B L F X (num a b s).2 ∧ Fr (LF L F) w w'
def TxtPost (B L F X : Nat) (s : St) (w : World) (e : Ending) (w' : World) : Prop := e = .returned (.string (txt s).1) ∧ SAt w' B L F X (txt s).2 ∧ Fr (LF L F) w w'
set_option maxHeartbeats 4000000 in
theorem number_any (w : World) (B L F X : Nat) (s : St) (a b : Int) (h : SAt w B L F X s) (hs : Small s) :
    Calls Tryd.prog 91 #[.int .i64 a, .int .i64 b, .pointer (some ⟨X, 0, none⟩), .pointer (some ⟨F, 0, none⟩)] w (NumPost B L F X a b s w) := by
  have HN := Lib.hid (next_any w B L F X s h hs.1)
  have cX := cell_of_one h.func
  have ht := hs.nxt.2
  obtain ⟨t, hte⟩ : ∃ t, t = (nxt s).1 := ⟨_, rfl⟩
  obtain ⟨s1, hs1e⟩ : ∃ s1, s1 = (nxt s).2 := ⟨_, rfl⟩
  have HE := Lib.hid (show num a b s = ((Dg.parse t.data.toList a b).1, s1.1, s1.2 && decide ((Dg.parse t.data.toList a b).2 = 0)) by unfold num; rw [hte, hs1e])
  unfold NextPost at HN
  rw [← hte, ← hs1e] at HN
  rw [← hte] at ht
  have HP := Lib.hid (fun W => DgW.parse_any t a b (by omega) W)
  obtain ⟨n, hne⟩ : ∃ n, n = (Dg.parse t.data.toList a b).1 := ⟨_, rfl⟩
  obtain ⟨c, hce⟩ : ∃ c, c = (Dg.parse t.data.toList a b).2 := ⟨_, rfl⟩
  rw [← hne, ← hce] at HP HE
  have H := Lib.hid h
  clear hte hs1e hne hce h hs ht
  obtain ⟨l1, f1⟩ := s1
  dsimp only at HE
  by_cases hc : c = 0
  all_goals
    first
      | (have b1 : (c == 0) = true := by simpa using hc)
      | (have b1 : (c == 0) = false := by simpa using hc)
    cases f1
    all_goals
      have HC := Lib.hid hc
      clear hc
      go_enter Tryd.func91, Tryd.ntmps91
      go_wp2_with fail
      refine HN.out.mono ?_
      rintro e w1 ⟨rfl, hs1, hf1⟩
      have HS1 := Lib.hid hs1
      have HF1 := Lib.hid hf1
      clear hs1 hf1
      go_wp2_with fail
      refine (HP.out _).mono ?_
      rintro e w2 ⟨rfl, hb2⟩
      have hs2 := HS1.out.below hb2
      have cF := cell_of_one hs2.fine
      have zF := free_of_one hs2.fine
      dsimp only at cF
      have HS2 := Lib.hid hs2
      have HB2 := Lib.hid hb2
      clear hs2 hb2
      go_wp2_with fail
      go_ret
      refine ⟨by rw [HE.out]; rfl, ?_, (HF1.out.trans (Fr.of_below HB2.out)).put (Or.inr rfl) 0 _⟩
      rw [HE.out]
      have := HC.out
      first
        | (have h3 := HS2.out.setFine true; simpa [this] using h3)
        | (have h3 := HS2.out.setFine false; simpa [this] using h3)
set_option maxHeartbeats 4000000 in
theorem text_any (w : World) (B L F X : Nat) (s : St) (h : SAt w B L F X s) (hs : Small s) :
    Calls Tryd.prog 93 #[.pointer (some ⟨X, 0, none⟩), .pointer (some ⟨F, 0, none⟩)] w (TxtPost B L F X s w) := by
  have HN := Lib.hid (next_any w B L F X s h hs.1)
  have cX := cell_of_one h.func
  have ht := hs.nxt.2
  obtain ⟨t, hte⟩ : ∃ t, t = (nxt s).1 := ⟨_, rfl⟩
  obtain ⟨s1, hs1e⟩ : ∃ s1, s1 = (nxt s).2 := ⟨_, rfl⟩
  have HE := Lib.hid (show txt s = (Hxw.out t, s1.1, s1.2 && decide (Hxw.err t = 0)) by unfold txt; rw [hte, hs1e])
  unfold NextPost at HN
  rw [← hte, ← hs1e] at HN
  rw [← hte] at ht
  have HP := Lib.hid (fun W => Hxw.parse_any t (by omega) W)
  obtain ⟨n, hne⟩ : ∃ n, n = Hxw.out t := ⟨_, rfl⟩
  obtain ⟨c, hce⟩ : ∃ c, c = Hxw.err t := ⟨_, rfl⟩
  rw [← hne, ← hce] at HP HE
  have H := Lib.hid h
  clear hte hs1e hne hce h hs ht
  obtain ⟨l1, f1⟩ := s1
  dsimp only at HE
  by_cases hc : c = 0
  all_goals
    first
      | (have b1 : (c == 0) = true := by simpa using hc)
      | (have b1 : (c == 0) = false := by simpa using hc)
    cases f1
    all_goals
      have HC := Lib.hid hc
      clear hc
      go_enter Tryd.func93, Tryd.ntmps93
      go_wp2_with fail
      refine HN.out.mono ?_
      rintro e w1 ⟨rfl, hs1, hf1⟩
      have HS1 := Lib.hid hs1
      have HF1 := Lib.hid hf1
      clear hs1 hf1
      go_wp2_with fail
      refine (HP.out _).mono ?_
      rintro e w2 ⟨rfl, hb2⟩
      have hs2 := HS1.out.below hb2
      have cF := cell_of_one hs2.fine
      have zF := free_of_one hs2.fine
      dsimp only at cF
      have HS2 := Lib.hid hs2
      have HB2 := Lib.hid hb2
      clear hs2 hb2
      go_wp2_with fail
      go_ret
      refine ⟨by rw [HE.out]; rfl, ?_, (HF1.out.trans (Fr.of_below HB2.out)).put (Or.inr rfl) 0 _⟩
      rw [HE.out]
      have := HC.out
      first
        | (have h3 := HS2.out.setFine true; simpa [this] using h3)
        | (have h3 := HS2.out.setFine false; simpa [this] using h3)
end Go.Proofs.YtdibkhddhgaghaaDoor.Hs
