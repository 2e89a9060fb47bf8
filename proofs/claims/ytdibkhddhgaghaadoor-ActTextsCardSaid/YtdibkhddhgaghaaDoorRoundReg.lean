/- A region that draws its order and makes no call of a Go function, inside the fence of a round: it may be walked without the fence; and a load may be taken first of whatever cell holds its value till a named store comes up that waits for the load. -/
import Derived.Deep.RegionHeld3
import Derived.Deep.RegionLaw
import Derived.OrdersIn
namespace Go.Proofs.YtdibkhddhgaghaaDoor.Rr
open Go
set_option linter.unusedVariables false
set_option linter.unusedSimpArgs false
def plainOp : Op → Bool
  | .move _ | .assign _ | .buildSlice .. | .load .. | .store .. | .fieldAddr .. | .nilCheck _ => true
  | .call { callee := .builtin .append, .. } => true
  | _ => false
theorem plain_wp {F : Fence} {n : Nat} {P : Program} {o : Oper} {a : Act} {w : World} {K : Act → World → Prop} {Q : Exit → Act → World → Prop} (h : plainOp o.op = true) (hh : o.wp P a w K Q) : o.wpIn F n P a w K Q := by
  have hnd : ∀ c, o.op ≠ .defer c := fun c e => by rw [e] at h; cases h
  have hab : ∀ f, o.about P w a.eval = some f → F.fn f := fun f hf => by
    unfold Oper.about at hf
    split at hf
    · next c hc =>
      rw [hc] at h
      obtain ⟨callee, args, types⟩ := c
      unfold plainOp at h
      split at h <;> try (cases h; done)
      all_goals (rename_i e; first | (cases e; done) | skip)
      all_goals (injection e with e; injection e with e1 e2 e3; subst e1; simp [resolve, Target.leads] at hf)
    · cases hf
  refine ⟨hab, ?_⟩
  rw [Oper.semAt_eq F.round a.eval o hnd]
  unfold Oper.wp at hh
  have hne : ∀ x w', (execOp a.eval o).run P w = .ok x w' → (∃ v, x = .value v) ∨ x = .skip := fun x w' hx => by
    unfold plainOp at h
    split at h
    all_goals first
      | (cases h; done)
      | (rename_i e
         simp only [execOp, e, resolve, invoke, builtin, Sem.run_bind, Sem.run_pure, Result.andThen_ok] at hx
         first
           | (cases hx; exact Or.inl ⟨_, rfl⟩)
           | (revert hx
              generalize Sem.run P _ w = r
              intro hx
              cases r with
              | halt q w2 => cases hx
              | ok y w2 => first | (cases hx; exact Or.inl ⟨_, rfl⟩) | (cases hx; exact Or.inr rfl)))
      | (rename_i y e
         simp only [execOp, e] at hx
         generalize a.eval y = vy at hx
         split at hx
         all_goals first
           | (cases hx; exact Or.inl ⟨_, rfl⟩)
           | (simp [go_sem] at hx; done)
           | (split at hx
              all_goals first
                | (cases hx; exact Or.inl ⟨_, rfl⟩)
                | (simp [go_sem] at hx; done)
                | (simp only [Sem.run_bind] at hx
                   generalize Sem.run P program w = r1 at hx
                   cases r1 with
                   | halt q w2 => cases hx
                   | ok y1 w2 =>
                     simp only [Result.andThen_ok] at hx
                     generalize Sem.run P (nilAhead _ _ _ _) w2 = r2 at hx
                     cases r2 with
                     | halt q w3 => cases hx
                     | ok y2 w3 =>
                       simp only [Result.andThen_ok] at hx
                       split at hx
                       · simp [go_sem] at hx
                       · cases hx; exact Or.inl ⟨_, rfl⟩)))
  generalize (execOp a.eval o).run P w = r at *
  cases r with
  | ok x w' =>
    rcases hne x w' rfl with ⟨v, rfl⟩ | rfl
    · exact hh
    · exact hh
  | halt x w' => cases x <;> exact hh
section
variable {F : Fence} {n : Nat} {P : Program} {md : Region.Mode} {ops : Array Oper} {Q : Exit → Act → World → Prop} {S : World → Prop} {s1 : Nat}
def plainOps (ops : Array Oper) : Bool := ops.all fun o => plainOp o.op
theorem about_skip {o : Oper} (h : plainOp o.op = true) (w : World) (ρ : Operand → Value) : o.about P w ρ = none := by
  unfold Oper.about
  split
  · next c hc =>
    rw [hc] at h
    obtain ⟨callee, args, types⟩ := c
    unfold plainOp at h
    split at h <;> try (cases h; done)
    all_goals (rename_i e; first | (cases e; done) | skip)
    all_goals (injection e with e; injection e with e1 e2 e3; subst e1; simp [resolve, Target.leads])
  · rfl
theorem wpOp_in (hp : plainOps ops = true) (hQ : ¬ LetsOut Q) {i : Nat} {K : Act → World → Prop} {a : Act} {w : World} (h : wpOp P ops Q i K a w) : wpOpIn F n P ops Q i K a w := by
  unfold wpOp at h
  unfold wpOpIn
  cases ho : ops[i]? with
  | none => rw [ho] at h; exact h
  | some o =>
    rw [ho] at h
    simp only at h ⊢
    have hpo : plainOp o.op = true := Array.all_eq_true_iff_forall_mem.1 hp o (Array.mem_of_getElem? ho)
    split
    · next hw =>
      rw [if_pos hw] at h
      rcases h with h | ⟨_, h⟩
      · exact plain_wp hpo h
      · exact absurd h hQ
    · next hw =>
      rw [if_neg hw] at h
      exact ⟨(fun f hf => by rw [about_skip hpo] at hf; cases hf), h⟩
theorem any_in (hp : plainOps ops = true) (hQ : ¬ LetsOut Q) : ∀ (fuel : Nat) (listed : Array Bool) (a : Act) (w : World), wpAny P md ops Q fuel listed a w → wpAnyIn F n P md ops Q fuel listed a w
  | 0, _, _, _, h => h
  | fuel + 1, _, _, _, h => ⟨h.1, fun i hi => wpOp_in hp hQ (wpOp_mono (fun a' w' h' => any_in hp hQ fuel _ a' w' h') (h.2 i hi))⟩
/-- Whatever order is picked; T holds, and S till s1 has come up. -/
def wpTill (P : Program) (md : Region.Mode) (ops : Array Oper) (Q : Exit → Act → World → Prop) (T S : World → Prop) (s1 : Nat) : Nat → Array Bool → Act → World → Prop
  | 0, listed, a, w => Region.ready md ops listed = [] ∧ Q .normal a w
  | fuel + 1, listed, a, w =>
    (Region.ready md ops listed = [] → Q .normal a w) ∧
    ∀ i ∈ Region.ready md ops listed, wpOp P ops Q i (fun a' w' => (T w' ∧ ((listed.setIfInBounds i true).getD s1 false = false → S w')) ∧ wpTill P md ops Q T S s1 fuel (listed.setIfInBounds i true) a' w') a w
theorem any_of_till {T : World → Prop} : ∀ (fuel : Nat) (listed : Array Bool) (a : Act) (w : World), wpTill P md ops Q T S s1 fuel listed a w → wpAny P md ops Q fuel listed a w
  | 0, _, _, _, h => h
  | fuel + 1, _, _, _, h => ⟨h.1, fun i hi => wpOp_mono (fun a' w' h' => any_of_till fuel _ a' w' h'.2) (h.2 i hi)⟩
variable {T : World → Prop}
theorem till_first {i : Nat} {oi : Oper} {v : Value} {X : World → Prop} (hi : ops[i]? = some oi) (hsel : ∀ (j : Nat) (o : Oper) cs b, ops[j]? = some o → o.op ≠ .select cs b) (hne1 : i ≠ s1)
    (D : Bool) (hdir : D = true → ∀ o, ops[s1]? = some o → ∃ e ∈ o.after, Region.binds md e = true ∧ e.on = i) (hX : ∀ w, T w → (D = true → S w) → X w)
    (hQ : ∀ c a w, Q (.panic c) (a.put oi.dst v) w → Q (.panic c) a w) :
    ∀ (fuel : Nat) (listed : Array Bool) (a : Act) (w : World),
      (∀ j oj, ops[j]? = some oj → j ≠ i → listed.getD j true = false → (∀ e ∈ oj.after, Region.binds md e = true → e.on ≠ i) → oi.apart ops oj = true) →
      i ∈ Region.ready md ops listed → (D = true → listed.getD s1 false = false) → YieldsIf P ops X oi v a → T w → (listed.getD s1 false = false → S w) →
      wpTill P md ops Q T S s1 fuel (listed.setIfInBounds i true) (a.put oi.dst v) w → wpTill P md ops Q T S s1 (fuel + 1) listed a w := by
  intro fuel
  induction fuel with
  | zero =>
    intro listed a w _ hr hls hy hT hS H
    have hSi : (listed.setIfInBounds i true).getD s1 false = false → S w := fun h => hS (by rw [getD_set_ne false hne1] at h; exact h)
    refine ⟨fun h => (by rw [h] at hr; cases hr), fun j hj => ?_⟩
    by_cases hji : j = i
    · subst hji; exact hy.wpOp hi (hX w hT fun d => hS (hls d)) ⟨⟨hT, hSi⟩, H⟩
    · have := ready_mono hj hji
      rw [H.1] at this
      cases this
  | succ fuel ih =>
    intro listed a w hfree hr hls hy hT hS H
    have hSi : (listed.setIfInBounds i true).getD s1 false = false → S w := fun h => hS (by rw [getD_set_ne false hne1] at h; exact h)
    refine ⟨fun h => (by rw [h] at hr; cases hr), fun j hj => ?_⟩
    by_cases hji : j = i
    · subst hji; exact hy.wpOp hi (hX w hT fun d => hS (hls d)) ⟨⟨hT, hSi⟩, H⟩
    · have h1 := H.2 j (ready_mono hj hji)
      obtain ⟨hjun, oj, hoj, hall⟩ := mem_ready.1 hj
      have hun : ∀ e ∈ oj.after, Region.binds md e = true → e.on ≠ i := fun e he hb heq => by
        have h1 := hall e he hb
        have h0 := (mem_ready.1 hr).1
        rw [heq] at h1
        rcases Nat.lt_or_ge i listed.size with h' | h'
        · simp [h'] at h0 h1; rw [h0] at h1; cases h1
        · simp [Array.getElem?_eq_none h'] at h1
      have h2 := wpOp_putIf hoj (hfree j oj hoj hji hjun hun) (fun cs b => hsel i oi cs b hi) (fun cs b => hsel j oj cs b hoj) hQ hy h1
      have hfree' : ∀ k ok, ops[k]? = some ok → k ≠ i → (listed.setIfInBounds j true).getD k true = false →
          (∀ e ∈ ok.after, Region.binds md e = true → e.on ≠ i) → oi.apart ops ok = true := fun k ok hk hki hun hno => by
        refine hfree k ok hk hki ?_ hno
        by_cases hjk : j = k
        · subst hjk; exact hjun
        · rw [getD_set_ne true hjk] at hun; exact hun
      have hls' : D = true → (listed.setIfInBounds j true).getD s1 false = false := fun d => by
        have hjs : j ≠ s1 := fun e => by
          subst e
          obtain ⟨e, he, hb, hon⟩ := hdir d oj hoj
          exact hun e he hb hon
        rw [getD_set_ne false hjs]; exact hls d
      have hS' : ∀ w', (((listed.setIfInBounds i true).setIfInBounds j true).getD s1 false = false → S w') → ((listed.setIfInBounds j true).getD s1 false = false → S w') := fun w' h h0 => h (by
        rw [← Array.setIfInBounds_comm _ _ hji, getD_set_ne false hne1]; exact h0)
      refine wpOp_mono (fun a' w' h3 => ⟨⟨h3.2.1.1, hS' w' h3.2.1.2⟩, ih (listed.setIfInBounds j true) a' w' hfree' (ready_mono hr (Ne.symm hji)) hls' h3.1 h3.2.1.1 (hS' w' h3.2.1.2) ?_⟩) h2
      rw [Array.setIfInBounds_comm _ _ hji]
      exact h3.2.2
/-- Take number i first: it yields in every world in which T holds. -/
theorem take_T (i : Nat) {oi : Oper} {v : Value} {fuel : Nat} {listed : Array Bool} {a : Act} {w : World} (hi : ops[i]? = some oi)
    (hs : Region.noSelect ops = true) (hf : Region.free md ops listed i = true) (hr : (Region.ready md ops listed).contains i = true) (hne1 : (i != s1) = true)
    (hQ : ∀ c a w, Q (.panic c) (a.put oi.dst v) w → Q (.panic c) a w) (hT : T w) (hS : listed.getD s1 false = false → S w) (hy : YieldsIf P ops T oi v a)
    (h : wpTill P md ops Q T S s1 fuel (listed.setIfInBounds i true) (a.put oi.dst v) w) : wpTill P md ops Q T S s1 (fuel + 1) listed a w :=
  till_first (X := T) hi (Region.noSelect_spec hs) (by simpa using hne1) false (fun d => by cases d) (fun _ h _ => h) hQ fuel listed a w (Region.free_spec hi hf) (by simpa using hr) (fun d => by cases d) hy hT hS h
/-- Take number i first: it yields in every world in which S holds, and s1 waits for it. -/
theorem take_S (i : Nat) {oi : Oper} {v : Value} {fuel : Nat} {listed : Array Bool} {a : Act} {w : World} (hi : ops[i]? = some oi)
    (hs : Region.noSelect ops = true) (hf : Region.free md ops listed i = true) (hr : (Region.ready md ops listed).contains i = true) (hne1 : (i != s1) = true) (hls : listed.getD s1 false = false)
    (hdir : (match ops[s1]? with | some o => o.after.any fun e => Region.binds md e && e.on == i | none => true) = true)
    (hQ : ∀ c a w, Q (.panic c) (a.put oi.dst v) w → Q (.panic c) a w) (hT : T w) (hS : S w) (hy : YieldsIf P ops S oi v a)
    (h : wpTill P md ops Q T S s1 fuel (listed.setIfInBounds i true) (a.put oi.dst v) w) : wpTill P md ops Q T S s1 (fuel + 1) listed a w :=
  till_first (X := S) hi (Region.noSelect_spec hs) (by simpa using hne1) true (fun _ o ho => by
    rw [ho] at hdir
    obtain ⟨e, he, hb⟩ := Array.any_eq_true'.1 hdir
    rw [Bool.and_eq_true] at hb
    exact ⟨e, he, hb.1, by simpa using hb.2⟩) (fun _ _ h => h rfl) hQ fuel listed a w (Region.free_spec hi hf) (by simpa using hr) (fun _ => hls) hy hT (fun _ => hS) h
/-- Whichever of those that may come up comes up. -/
theorem till_all (rs : List Nat) {fuel : Nat} {listed : Array Bool} {a : Act} {w : World} (hr : Region.ready md ops listed = rs) (hne : rs ≠ [])
    (h : ∀ i ∈ rs, ∀ K : Act → World → Prop, (∀ a' w', T w' → ((listed.setIfInBounds i true).getD s1 false = false → S w') → wpTill P md ops Q T S s1 fuel (listed.setIfInBounds i true) a' w' → K a' w') → wpOp P ops Q i K a w) : wpTill P md ops Q T S s1 (fuel + 1) listed a w :=
  ⟨fun h0 => absurd (hr ▸ h0) hne, fun i hi => h i (hr ▸ hi) _ (fun a' w' h0 h1 h2 => ⟨⟨h0, h1⟩, h2⟩)⟩
/-- An operation that is wanted, and runs to its end. -/
theorem op_at {i : Nat} (o : Oper) {a : Act} {w : World} {K : Act → World → Prop} (hi : ops[i]? = some o) (h : if Region.wanted o (yielded ops a.tmps) = true then Oper.wp P o a w K Q else K (a.put o.dst undef) w) : wpOp P ops Q i K a w := by
  unfold wpOp
  rw [hi]
  simp only
  split
  · next hw => rw [if_pos hw] at h; exact Or.inl h
  · next hw => rw [if_neg hw] at h; exact h
theorem till_done {listed : Array Bool} {a : Act} {w : World} (hr : Region.ready md ops listed = []) (h : Q .normal a w) : ∀ fuel, wpTill P md ops Q T S s1 fuel listed a w
  | 0 => ⟨hr, h⟩
  | _ + 1 => ⟨fun _ => h, by rw [hr]; simp⟩
/-- The beginning. -/
theorem region_round {id : Nat} {a : Act} {w : World} (T S : World → Prop) (s1 : Nat) (hm : P.follows .mixedOrders = true) (hp : plainOps ops = true) (hQ : ¬ LetsOut Q)
    (h : wpTill P .any ops Q T S s1 ops.size (Array.replicate ops.size false) a w.drew) : (Code.region id ops true).wpIn F n P Q a w :=
  wpIn_region_any hm (any_in hp hQ _ _ _ _ (any_of_till _ _ _ _ h))
end
end Go.Proofs.YtdibkhddhgaghaaDoor.Rr
