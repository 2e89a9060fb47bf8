/- HistOrder: to be ahead is an order, each thread's calls stand one behind the other, and what is printed is parsed again. For every list of calls; the library's tables and the table of hexadecimal digits as they are laid. -/
import Derived.Test.YtdibkhddhgaghaaDoorRows
import Derived.Test.YtdibkhddhgaghaaDoorHistTab
import Derived.WalkKit
import Derived.ProofKit
import Derived.OpenShut
import Derived.ShutString
import Derived.ChangeOld
import Derived.Below
import Derived.SizedLaws
import Derived.Carry
import Derived.ChangeSame
import Derived.ChangeVars
import Derived.JoinedOf
import Derived.Stop.Joined
import Derived.Test.YtdibkhddhgaghaaDoorTie
import Derived.Test.YtdibkhddhgaghaaDoorCards
import Derived.SevenTiedAt
namespace Go.Proofs.YtdibkhddhgaghaaDoor.histOrder
open Go.ChangeShapes Go.WideShapes Go.ChangeAt Go.RowKit
open Go.ChangeMaps (open_string shut_string)
set_option linter.unusedVariables false
theorem own : ownKnob Tryd.prog.godebug = none := by kernel_rfl
theorem laidOut : laidOutB Tryd.prog = true := by kernel_rfl
set_option maxRecDepth 100000 in
theorem lifted (os : Os) (started : os.Started) (H : Type) (enc : TypeId × Value → H) :
    ReturnsInHanded {} Tryd.checked os 5 .any (fun w args => (Rows.histOrderSpec.pre enc Tryd.prog Tryd.f5 [] false w args ∧ laidMet Tryd.prog HsTab.histLaid w) ∧ sizedMet enc Tryd.prog Tryd.f5 (OpenSpec.ofChange Rows.histOrderSpec) false w args) (Rows.histOrderSpec.post enc Tryd.prog Tryd.f5 false true false false) := by
  refine HsTab.returns_shaped (C := Tryd.checked) (X := fun w _ => laidMet Tryd.prog HsTab.histLaid w) (fun _ _ _ hh h => h.of_heap hh) own started (by kernel_rfl) Tryd.func5
    (ChangeSpec.witness_at (enc := enc) (C := Tryd.checked) (os := os) (X := fun w _ => laidMet Tryd.prog HsTab.histLaid w) false (HsTab.laidWorld os) #[.slice none 0 0] 8 rfl (by kernel_rfl) (by kernel_rfl) (by kernel_rfl) (by kernel_rfl) (by kernel_rfl) (HsTab.laid_met os _)) ?_
  intro W base args ds gs before hval0 hW hsh hL
  have hval : ∀ (j : Nat) t v, Tryd.f5.params[j]? = some t → args[j]? = some v → Value.okWide Tryd.prog W .any base t v := hval0
  have hW' := hW
  obtain ⟨p, q, hA0, hV, rfl, hfz, hnd⟩ := hW
  have hA : DataW.TrodAll enc Tryd.prog W 0 (fun _ => true) true Tryd.f5.params.toList args.toList ds p := hA0
  rw [Tryd.params5] at hA hval
  obtain ⟨v0, vs0, d0, ds0, p0, q0, hargs, rfl, rfl, h0, r0⟩ := trodAll_cons hA
  obtain ⟨rfl, rfl, rfl⟩ := trodAll_nil r0
  obtain rfl : args = #[v0] := by cases args; simp_all
  obtain ⟨rfl, rfl⟩ := trodVars_none hV
  have g0 := h0
  have t0 : ∀ x ∈ p0, x.block < W.heap.size := fun x hx => by simpa using hW'.lt x (by simp [hx])
  obtain ⟨a0, f0, w0⟩ := Hs.open_calls (hval 0 34 v0 rfl rfl) h0
  have hT := HsTab.wv_of_laid hL hsh
  clear hA0 hval0
  refine (HsTab.order_walk W hT v0 a0 f0 w0).mono fun e W' ⟨he, bel⟩ => ?_
  subst he
  exact ⟨_, rfl, _, _, _, [], _, [], hW', trodAll_mk1 (shut_bool Tryd.underlying4 _), (trodAll_cons_mk (Below.trod laidOut (by kernel_rfl) (of_decide_eq_true (by kernel_rfl)) g0 bel t0) trodAll_mk0), rfl, bel.frame _, fun h => by cases h⟩
theorem over : Rows.histOrderRow.holds Tryd.pinned (OpenSpec.ofChange Rows.histOrderSpec) :=
  OpenClaim.holds_of_wide 5 Tryd.f5 rfl rfl rfl rfl rfl rfl rfl ⟨rfl, rfl, rfl, rfl, rfl⟩ rfl rfl rfl rfl rfl (by kernel_rfl) Tryd.func5 (by kernel_rfl)
    (of_decide_eq_true (by kernel_rfl)) (by unfold Func.isWrapper; first | (rw [if_pos (by decide +kernel)]; kernel_rfl) | (rw [if_neg (by decide +kernel)]; exact ⟨rfl, rfl⟩))
    (fun os started H enc _ => lifted os started H enc)
set_option maxRecDepth 100000 in
theorem card_holds : Rows.HistOrderCardSaid :=
  Claim7.holds_tied_plain_at .later [] [.data, .data, .data, .data, .data, .sentinel, .sentinel, .pinned] true (true, "d1b15c4eed7d8c7af2a06801299d6bde2c6883d18b7bf307c077726f13445f9f") true
    over (fun _ h => by cases h) (by kernel_rfl) (fun _ h => by cases h) histOrder_row_tie rfl ⟨rfl, rfl⟩ (by kernel_rfl) rfl
    (fun f fn hf hfn => by
      obtain rfl : f = 5 := Option.some.inj ((show Tryd.prog.funcNamed "sprocket/sprocketlaw41.HistOrder" = some 5 by kernel_rfl).symm.trans hf) |>.symm
      obtain rfl : fn = Tryd.f5 := (Option.some.inj (Tryd.func5.symm.trans hfn)).symm
      exact ⟨by kernel_rfl, fun j t ht => by
        rw [Tryd.params5] at ht
        have hm : t ∈ [34] := List.mem_of_getElem? (by simpa using ht)
        have hall : [34].all (fun t => Tryd.prog.wantsStandIn t == false) = true := by kernel_rfl
        have hf : Tryd.prog.wantsStandIn t = false := by simpa using List.all_eq_true.1 hall t hm
        exact hf⟩)
    (by kernel_rfl)
#print axioms card_holds
end Go.Proofs.YtdibkhddhgaghaaDoor.histOrder
namespace Go.Proofs.YtdibkhddhgaghaaDoor
/-- The tied card, under a short name, for the claim. -/
theorem histOrder_card : Rows.HistOrderCardSaid := histOrder.card_holds
end Go.Proofs.YtdibkhddhgaghaaDoor
