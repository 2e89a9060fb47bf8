/- What the act row's condition on the library's variables gives a walk, and a world that meets it. -/
import Derived.Outline
import Derived.Test.YtdibkhddhgaghaaDoorRows
import Derived.Test.YtdibkhddhgaghaaDoorActLaw
import Derived.Test.YtdibkhddhgaghaaDoorOpenGen
import Derived.Lib.LaidTab
import Derived.Lib.LaidU8
import Derived.LaidLaws
import Derived.Deep.DeepLaidRun
import Derived.HandedShaped
import Derived.ChangeSame
namespace Go.Proofs.YtdibkhddhgaghaaDoor.AcTab
open Go.RowKit
set_option linter.unusedVariables false
/-- The plain wrap over listed variables, the world's shape kept. -/
theorem returns_shaped {H : Type} {enc : TypeId × Value → H} {a : Assume} {C : Checked} {os : Os} {f : FuncId} {fn : Func} {s : ChangeSpec} {conds : List PathCond} {apart fresh handsOn again : Bool} {X : World → Array Value → Prop}
    (hX : ∀ (w w' : World) (args : Array Value), w.heap = w'.heap → X w args → X w' args) (own : ownKnob C.prog.godebug = none) (started : os.Started) (noInit : C.prog.inits.idxOf? f = none) (hfn : C.prog.funcs[f]? = some fn)
    (witness : ∃ (w : World) (tape : Tape) (i : Input), w.os = os ∧ (w.forCall tape i).Shaped C.prog ∧ i.vars = [] ∧ Input.okWide C.prog (w.forCall tape i) .any w.heap.size f i ∧
      ((s.pre enc C.prog fn conds apart (w.forCall tape i).memory i.args ∧ X (w.forCall tape i).memory i.args) ∧ sizedMet enc C.prog fn (OpenSpec.ofChange s) apart (w.forCall tape i).memory i.args) ∧ a.holds C.prog (lone (Frame.enter C.prog f i.args .normal) [] (w.forCall tape i)))
    (contract : ∀ (W : World) (base : Nat) (args : Array Value) (ds gs : List (DataW H)) (before : List MemPlace), (∀ (j : Nat) t v, fn.params[j]? = some t → args[j]? = some v → Value.okWide C.prog W .any base t v) →
      DataW.Whole enc C.prog fn.params.toList s.vars apart W args.toList ds gs before → W.ShapedOpen C.prog → X W args → Calls C.prog f args W fun e W' => ∃ v, e = .returned v ∧ s.post enc C.prog fn apart fresh handsOn again W args v W') :
    ReturnsInHanded a C os f .any (fun w args => (s.pre enc C.prog fn conds apart w args ∧ X w args) ∧ sizedMet enc C.prog fn (OpenSpec.ofChange s) apart w args) (s.post enc C.prog fn apart fresh handsOn again) := by
  refine returnsInHanded_of_calls own started noInit witness fun w tape i _ hsh _ hok hpre _ => ?_
  obtain ⟨_, _, _, fn', hfn', _, _, _, _, hval⟩ := hok
  cases hfn'.symm.trans hfn
  obtain ⟨⟨⟨ds, gs, before, hw, _⟩, hx⟩, _⟩ := hpre
  exact (contract (w.forCall tape i) w.heap.size i.args ds gs before hval (DataW.Whole.of_heap (w' := w.forCall tape i) (by rfl) hw) hsh (hX _ _ _ (by rfl) hx)).mono fun e W' ⟨v, he, hp⟩ => by
    subst he
    exact ChangeSpec.post_blind hp
theorem gp : Tryd.prog.globalNamed "internal/strconv.uint64pow10" = some 3 := by kernel_rfl
theorem tp : (Tryd.prog.globals[3]?).map (·.type) = some 189 := by kernel_rfl
theorem cA : Tryd.prog.cellsOf 189 = 20 := by kernel_rfl
theorem cE : Tryd.prog.cellsOf 22 = 1 := by kernel_rfl
theorem uA : Tryd.prog.underlying 189 = some (.array 20 22) := by kernel_rfl
theorem pow_data : (Rows.laid_internal_strconv_uint64pow10 : DataW Unit) = Lib.tabData .u64 Lib.pow10Tab := rfl
theorem pow_of_reads {W : World} (h : Lib.VarReads Tryd.prog W "internal/strconv.uint64pow10" Rows.laid_internal_strconv_uint64pow10) : DgP.Pow W := by
  obtain ⟨g, t, cs, fuel, p, h1, h2, h3, h4⟩ := h
  obtain rfl := Option.some.inj (gp.symm.trans h1)
  obtain rfl := Option.some.inj (tp.symm.trans h2)
  rw [pow_data] at h4
  have hcs := Lib.cells_of_tab uA Tryd.underlying22 cE cA h4
  show W.var? Tryd.prog _ = _
  rw [h3, ← hcs]
theorem hgn : Tryd.prog.globalNamed "sprocket/act.words" = some 0 := by kernel_rfl
theorem hgt : (Tryd.prog.globals[0]?).map (·.type) = some 75 := by kernel_rfl
theorem hcA : Tryd.prog.cellsOf 75 = 7 := by kernel_rfl
theorem hcE : Tryd.prog.cellsOf 9 = 1 := by kernel_rfl
theorem huA : Tryd.prog.underlying 75 = some (.array 7 9) := by kernel_rfl
def strData {H : Type} (l : List (List UInt8)) : DataW H := .agg (l.map fun s => .lit (.string s))
theorem cells_of_strs {H : Type} {enc : TypeId × Value → H} {P : Program} {w : World} {base : Nat} {sp : Nat → Bool} {held : Bool} {fuel : Nat} {t e : TypeId} {n : Nat} {cs : List Value} {zs : List (List UInt8)} {p : List MemPlace}
    (ht : P.underlying t = some (.array n e)) (he : P.underlying e = some .string) (hce : P.cellsOf e = 1) (hct : P.cellsOf t = n)
    (h : DataW.trod enc P w base sp held fuel t cs = some (strData zs, p)) : cs = zs.map fun z => Value.string (Ac.ba z) := by
  cases fuel with
  | zero => simp [DataW.trod] at h
  | succ fuel =>
    simp only [DataW.trod, ht, hce, hct, Nat.mul_one] at h
    split at h
    · rename_i hl
      obtain ⟨xs, hm, hx⟩ := Option.map_eq_some_iff.1 h
      have hxs : xs.map (·.1) = zs.map fun z => (DataW.lit (.string z) : DataW H) := by
        have := congrArg Prod.fst hx
        simpa [strData] using this
      have hxl : xs.length = n := by simpa using Lib.mapM_length hm
      have hzl : zs.length = n := by
        have := congrArg List.length hxs
        simp at this
        omega
      apply List.ext_getElem?
      intro i
      by_cases hi : i < n
      · obtain ⟨b, hb, hf⟩ := Lib.mapM_at hm i i (by simp [hi])
        obtain ⟨z, hc, rfl, _⟩ := DataW.trod_string he hf
        have h1 : cs[i]? = some (.string z) := by
          have := congrArg (·[0]?) hc
          simpa [List.getElem?_take, List.getElem?_drop] using this
        have h2 : (xs.map (·.1))[i]? = some (DataW.lit (.string z.data.toList) : DataW H) := by simp [hb]
        rw [hxs] at h2
        simp only [List.getElem?_map, Option.map_eq_some_iff, DataW.lit.injEq, Lit.string.injEq] at h2
        obtain ⟨z', hz', e⟩ := h2
        have e2 : Ac.ba z' = z := Ac.ba_ext (by rw [Ac.ba_data]; exact e)
        simp [h1, hz', e2]
      · rw [List.getElem?_eq_none (by omega), List.getElem?_eq_none (by simp; omega)]
    · cases h
theorem words_data : (Rows.laid_sprocket_act_words : DataW Unit) = strData [Ac.kw 0, Ac.kw 1, Ac.kw 2, Ac.kw 3, Ac.kw 4, Ac.kw 5, Ac.kw 6] := rfl
theorem wds_of_reads {W : World} (h : Lib.VarReads Tryd.prog W "sprocket/act.words" Rows.laid_sprocket_act_words) : Ac.Wds W := by
  obtain ⟨g, t, cs, fuel, p, h1, h2, h3, h4⟩ := h
  obtain rfl := Option.some.inj (hgn.symm.trans h1)
  obtain rfl := Option.some.inj (hgt.symm.trans h2)
  rw [words_data] at h4
  have hcs := cells_of_strs huA Tryd.underlying9 hcE hcA h4
  have hc : ∀ i : Nat, i < 7 → W.cell? ⟨0, i, none⟩ = some (.string (Ac.ba (Ac.kw i))) := by
    intro i hi
    have := World.var?_cell hgn h3 i
    rw [this, ← Array.getElem?_toList, hcs]
    match i, hi with
    | 0, _ => rfl
    | 1, _ => rfl
    | 2, _ => rfl
    | 3, _ => rfl
    | 4, _ => rfl
    | 5, _ => rfl
    | 6, _ => rfl
    | n + 7, h => exact absurd h (by omega)
  exact ⟨World.block_lt_of_cell? W _ (hc 0 (by omega)), hc⟩
theorem gr : Tryd.prog.globalNamed "strconv.ErrRange" = some 8 := by kernel_rfl
theorem tr : (Tryd.prog.globals[8]?).map (·.type) = some 97 := by kernel_rfl
theorem rng_of_reads {W : World} (h : Lib.VarReads Tryd.prog W "strconv.ErrRange" Rows.laid_strconv_ErrRange) : DgW.Rng W := by
  obtain ⟨g, t, cs, fuel, p, h1, h2, h3, h4⟩ := h
  obtain rfl := Option.some.inj (gr.symm.trans h1)
  obtain rfl := Option.some.inj (tr.symm.trans h2)
  obtain ⟨_, u, v, hcs, _, _⟩ := iface_of_trod Tryd.underlying97 h4
  refine ⟨.iface u v, ?_, Or.inr ⟨u, v, rfl⟩⟩
  have := World.var?_cell gr h3 0
  rw [this, ← Array.getElem?_toList, hcs]
  rfl
/-- The condition of the hist rows. -/
abbrev actLaid : List (String × DataW Unit) := [("math/bits.deBruijn32tab", Rows.laid_math_bits_deBruijn32tab), ("math/bits.deBruijn64tab", Rows.laid_math_bits_deBruijn64tab), ("internal/strconv.uint64pow10", Rows.laid_internal_strconv_uint64pow10), ("unicode/utf8.acceptRanges", Rows.laid_unicode_utf8_acceptRanges), ("strconv.ErrRange", Rows.laid_strconv_ErrRange), ("strconv.ErrSyntax", Rows.laid_strconv_ErrSyntax), ("sprocket/act.words", Rows.laid_sprocket_act_words), ("unicode/utf8.first", Rows.laid_unicode_utf8_first)]
theorem wv_of_laid {W : World} (h : laidMet Tryd.prog actLaid W) (hsh : W.ShapedOpen Tryd.prog) : Ac.Av W := by
  obtain ⟨m, hm⟩ := Tryd.laysM145.s1_3 W hsh
  have hm' : W.cell? ⟨2, 0, none⟩ = some (.int .i64 m) := hm
  exact ⟨⟨m, hm'⟩, wds_of_reads (Lib.laidMet.reads h (by simp [actLaid])), pow_of_reads (Lib.laidMet.reads h (by simp [actLaid])), rng_of_reads (Lib.laidMet.reads h (by simp [actLaid]))⟩
/-- The cells of a datum of numbers and texts, flat. -/
def flat : Nat → DataW Unit → List Value
  | 0, _ => []
  | n + 1, .agg l => l.flatMap (flat n)
  | _, .lit (.int k z) => [.int k z]
  | _, .lit (.string s) => [.string ⟨s.toArray⟩]
  | _, _ => []
def lay (g : Nat) (vs : List Value) (h : Array Obj) : Array Obj := h.modify g fun
      | .cells _ t frozen => .cells vs.toArray t frozen
      | o => o
def textOf : DataW Unit → ByteArray
  | .iface _ (.ptr (.agg [.lit (.string s)])) => ⟨s.toArray⟩
  | _ => .empty
noncomputable def low : Nat := (World.holding Tryd.prog default ⟨#[], #[], []⟩).heap.size
/-- A world that meets the condition: the settled one, the variables' cells laid, the two errors' texts in blocks of their own. -/
noncomputable def laidWorld (os : Os) : World :=
  let w0 := World.holding Tryd.prog os ⟨#[.cells #[.string (textOf Rows.laid_strconv_ErrRange)] 210, .cells #[.string (textOf Rows.laid_strconv_ErrSyntax)] 210], #[], []⟩
  { w0 with heap := lay 7 [.iface 208 (.pointer (some ⟨low + 1, 0, none⟩))] <| lay 8 [.iface 208 (.pointer (some ⟨low, 0, none⟩))] <| lay 3 (flat 3 Rows.laid_internal_strconv_uint64pow10) <| lay 0 (flat 3 Rows.laid_sprocket_act_words) <| lay 6 (flat 3 Rows.laid_unicode_utf8_acceptRanges) <| lay 5 (flat 3 Rows.laid_unicode_utf8_first) <| lay 9 (flat 3 Rows.laid_math_bits_deBruijn32tab) <| lay 10 (flat 3 Rows.laid_math_bits_deBruijn64tab) w0.heap }
set_option maxRecDepth 1000000 in
theorem laid_met (os : Os) (args : Array Value) : laidMet Tryd.prog actLaid ((laidWorld os).forCall (fun _ _ => 0) ⟨#[], args, []⟩).memory :=
  laidMet_of_run3 8 (by kernel_rfl) (by kernel_rfl) (by kernel_rfl)
theorem act_walk (W : World) (hT : Ac.Av W) (x : Ac.ActL) (h : Ac.Rng x ∧ -9223372036854775808 ≤ x.cell) (s : ByteArray) (hs : s.size ≤ maxLen) :
    Calls Tryd.prog 3 #[Ac.encA x, .string s] W fun e W' => e = .returned (.bool true) ∧ Below W.heap.size W W' :=
  Ac.law_any W hT x h.1 h.2 s (by unfold maxLen at hs; omega)
section
open Go.ChangeShapes Go.WideShapes Go.Deep
theorem wf_i {z : Int} (h : (Lit.int .i64 z).wf = true) : -9223372036854775808 ≤ z ∧ z < 9223372036854775808 := by
  simp [Lit.wf, IntKind.min, IntKind.max, IntKind.signed, IntKind.bits] at h
  omega
theorem wf_u {z : Int} (h : (Lit.int .u64 z).wf = true) : 0 ≤ z ∧ z < 18446744073709551616 := by
  simp [Lit.wf, IntKind.min, IntKind.max, IntKind.signed, IntKind.bits] at h
  omega
set_option maxRecDepth 100000 in
theorem open_act {H : Type} {enc : TypeId × Value → H} {W : World} {base : Nat} {spare : Nat → Bool} {held : Bool} {r : Reach} {b0 : Nat} {v : Value} {d : DataW H} {ps : List MemPlace} (hval : Value.okWide Tryd.prog W r b0 24 v) (h : DataW.Trod enc Tryd.prog W base spare held 24 v d ps) :
    ∃ x : Ac.ActL, v = Ac.encA x ∧ (Ac.Rng x ∧ -9223372036854775808 ≤ x.cell) := by
  obtain ⟨cs, rfl, hsz, hf⟩ := Og.open_agg Tryd.underlying24 (by kernel_rfl) (by kernel_rfl) hval h
  obtain ⟨u0, y0, n0, e0, t0⟩ := hf 0 _ rfl
  obtain ⟨u1, y1, n1, e1, t1⟩ := hf 1 _ rfl
  obtain ⟨u2, y2, n2, e2, t2⟩ := hf 2 _ rfl
  obtain ⟨u3, y3, n3, e3, t3⟩ := hf 3 _ rfl
  obtain ⟨u4, y4, n4, e4, t4⟩ := hf 4 _ rfl
  obtain ⟨z0, rfl, w0⟩ := Og.cell_int Tryd.underlying3 t0
  obtain ⟨z1, rfl, w1⟩ := Og.cell_int Tryd.underlying22 t1
  obtain ⟨z2, rfl, w2⟩ := Og.cell_int Tryd.underlying3 t2
  obtain ⟨z3, rfl, w3⟩ := Og.cell_int Tryd.underlying22 t3
  obtain ⟨z4, rfl, w4⟩ := Og.cell_int Tryd.underlying22 t4
  have hs5 : cs.size = 5 := hsz
  have hcs : cs = #[.int .i64 z0, .int .u64 z1, .int .i64 z2, .int .u64 z3, .int .u64 z4] := by
    apply Array.ext_getElem?
    intro j
    match j with
    | 0 => exact e0
    | 1 => exact e1
    | 2 => exact e2
    | 3 => exact e3
    | 4 => exact e4
    | j + 5 => rw [Array.getElem?_eq_none (by omega), Array.getElem?_eq_none (by simp)]
  subst hcs
  exact ⟨⟨z0, z1, z2, z3, z4⟩, rfl, ⟨wf_u w1, (wf_i w2).2, wf_u w3, wf_u w4⟩, (wf_i w2).1⟩
end
end Go.Proofs.YtdibkhddhgaghaaDoor.AcTab
