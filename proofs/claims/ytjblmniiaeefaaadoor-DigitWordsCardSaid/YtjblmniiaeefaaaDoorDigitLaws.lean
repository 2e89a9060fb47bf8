/- The walks of the laws DigitReads, DigitWords, DigitBack and of their 'awake'. -/
import Derived.Outline
import Derived.Test.YtjblmniiaeefaaaDoorDigitRef4
namespace Go.Proofs.YtjblmniiaeefaaaDoor.DgL
open Go.RowKit DgF
theorem pow_below {w w' : World} (h : DgF.Pow w) (hb : Below w.heap.size w w') : DgF.Pow w' := by
  unfold DgF.Pow Lib.TabIs World.var? at *
  cases hg : Tryd.prog.globalNamed "internal/strconv.uint64pow10" with
  | none => simp [hg] at h
  | some g =>
    simp only [hg, Option.bind_some] at h ⊢
    have hlt : g < w.heap.size := by
      rcases Nat.lt_or_ge g w.heap.size with h' | h'
      · exact h'
      · rw [Array.getElem?_eq_none h'] at h; simp at h
    rw [hb.block g hlt]
    exact h
theorem rng_below {w w' : World} (h : DgW.Rng w) (hb : Below w.heap.size w w') : DgW.Rng w' := by
  obtain ⟨ev, h1, h2⟩ := h
  have hlt := World.block_lt_of_cell? w _ h1
  exact ⟨ev, by rw [hb.cell (p := ⟨4, 0, none⟩) hlt]; exact h1, h2⟩
/-- what the package reads of the library's variables -/
structure Vars (w : World) : Prop where
  pow : DgF.Pow w
  rng : DgW.Rng w
theorem Vars.below {w w' : World} (h : Vars w) (hb : Below w.heap.size w w') : Vars w' := ⟨pow_below h.pow hb, rng_below h.rng hb⟩
theorem chain {w w1 w2 : World} (a : Below w.heap.size w w1) (b : Below w1.heap.size w1 w2) : Below w.heap.size w w2 := a.trans (b.mono a.size)
theorem parse_c (s : ByteArray) (least most o c : Int) (hs : s.size ≤ 100) (h : Dg.parse s.data.toList least most = (o, c)) (w : World) :
    Calls Tryd.prog 20 #[.string s, .int .i64 least, .int .i64 most] w fun e w' => e = .returned (.tuple #[.int .i64 o, .int .i64 c]) ∧ Below w.heap.size w w' := by
  have := DgW.parse_any s least most (by omega) w
  rw [h] at this
  exact this
theorem word_c (s : ByteArray) (o c : Int) (hs : s.size ≤ 100) (h : Dg.word s.data.toList = (o, c)) (w : World) (hv : Vars w) :
    Calls Tryd.prog 25 #[.string s] w fun e w' => e = .returned (.tuple #[.int .u64 o, .int .i64 c]) ∧ Below w.heap.size w w' := by
  have := DgW.word_any s (by omega) w hv.rng
  rw [h] at this
  exact this
theorem print_c (n : Int) (o : ByteArray) (h0 : -9223372036854775808 ≤ n) (h1 : n ≤ 9223372036854775807) (h : (⟨(Lib.itoa n).toArray⟩ : ByteArray) = o) (w : World) (hv : Vars w) :
    Calls Tryd.prog 22 #[.int .i64 n] w fun e w' => e = .returned (.string o) ∧ Below w.heap.size w w' := by
  have := DgW.print_any n h0 h1 w hv.pow
  rw [h] at this
  exact this
theorem show_c (u : Nat) (o : ByteArray) (h0 : u < 18446744073709551616) (h : (⟨(Lib.decDigits u).toArray⟩ : ByteArray) = o) (w : World) (hv : Vars w) :
    Calls Tryd.prog 27 #[.int .u64 u] w fun e w' => e = .returned (.string o) ∧ Below w.heap.size w w' := by
  have := DgW.show_any u h0 w hv.pow
  rw [h] at this
  exact this
theorem itoa12 : (⟨(Lib.itoa (-12)).toArray⟩ : ByteArray) = ⟨#[45, 49, 50]⟩ := by
  unfold Lib.itoa
  rw [if_pos (by decide), show (-12 : Int).natAbs = 12 from rfl, Dg.dec_big (by decide), Dg.dec_small (by decide)]
  rfl
theorem dec0 : (⟨(Lib.decDigits 0).toArray⟩ : ByteArray) = ⟨#[48]⟩ := by rw [Dg.dec_small (by decide)]; rfl
set_option maxHeartbeats 4000000 in
set_option maxRecDepth 1000000 in
theorem awake_any (w : World) (hv : Vars w) : Calls Tryd.prog 24 #[] w fun e w' => e = .returned (.bool true) ∧ Below w.heap.size w w' := by
  have HV := Lib.hid hv
  clear hv
  go_enter Tryd.func24, Tryd.ntmps24
  go_wp2_with fail
  refine (parse_c ⟨#[45, 48, 55]⟩ (-99) 99 0 3 (by decide) (by decide +kernel) _).mono ?_
  rintro e w1 ⟨rfl, hb⟩
  have HB1 := Lib.hid hb
  clear hb
  go_wp2_with fail
  refine (parse_c ⟨#[45, 55]⟩ (-99) 99 (-7) 0 (by decide) (by decide +kernel) _).mono ?_
  rintro e w2 ⟨rfl, hb⟩
  have HB2 := Lib.hid (chain HB1.out hb)
  clear hb
  go_wp2_with fail
  refine (word_c ⟨#[49, 56, 52, 52, 54, 55, 52, 52, 48, 55, 51, 55, 48, 57, 53, 53, 49, 54, 49, 54]⟩ 0 5 (by decide) (by decide +kernel) _ (HV.out.below HB2.out)).mono ?_
  rintro e w3 ⟨rfl, hb⟩
  have HB3 := Lib.hid (chain HB2.out hb)
  clear hb
  go_wp2_with fail
  refine (word_c ⟨#[49, 56, 52, 52, 54, 55, 52, 52, 48, 55, 51, 55, 48, 57, 53, 53, 49, 54, 49, 53]⟩ 18446744073709551615 0 (by decide) (by decide +kernel) _ (HV.out.below HB3.out)).mono ?_
  rintro e w4 ⟨rfl, hb⟩
  have HB4 := Lib.hid (chain HB3.out hb)
  clear hb
  go_wp2_with fail
  refine (parse_c ⟨#[56]⟩ 0 7 0 5 (by decide) (by decide +kernel) _).mono ?_
  rintro e w5 ⟨rfl, hb⟩
  have HB5 := Lib.hid (chain HB4.out hb)
  clear hb
  go_wp2_with fail
  refine (print_c (-12) ⟨#[45, 49, 50]⟩ (by decide) (by decide) itoa12 _ (HV.out.below HB5.out)).mono ?_
  rintro e w6 ⟨rfl, hb⟩
  have HB6 := Lib.hid (chain HB5.out hb)
  clear hb
  go_wp2_with fail
  refine (show_c 0 ⟨#[48]⟩ (by decide) dec0 _ (HV.out.below HB6.out)).mono ?_
  rintro e w7 ⟨rfl, hb⟩
  have HB7 := Lib.hid (chain HB6.out hb)
  clear hb
  go_wp2
  go_ret
  exact ⟨rfl, HB7.out⟩
set_option maxHeartbeats 4000000 in
set_option maxRecDepth 1000000 in
theorem reads_walk (s : ByteArray) (least most : Int) (w : World) (hv : Vars w) (hs : s.size ≤ 140737488351232) (h1 : (Lit.int .i64 least).wf = true) (_h2 : (Lit.int .i64 most).wf = true) :
    Calls Tryd.prog 4 #[.string s, .int .i64 least, .int .i64 most] w fun e w' => e = .returned (.bool true) ∧ Below w.heap.size w w' := by
  have h0 : -9223372036854775808 ≤ least ∧ least ≤ 9223372036854775807 := by simp [Lit.wf, IntKind.min, IntKind.max, IntKind.signed, IntKind.bits] at h1; omega
  have c1 := fun w => DgW.parse_any s least most (by omega) w
  have c2 := fun w => DgR.parse_any s least most (by omega) w
  have c3 := fun w (hv : Vars w) => DgW.print_any least h0.1 h0.2 w hv.pow
  have c4 := fun w => DgR.print_any least h0.1 h0.2 w
  generalize (Dg.parse s.data.toList least most).1 = a at *
  generalize (Dg.parse s.data.toList least most).2 = b at *
  generalize (⟨(Lib.itoa least).toArray⟩ : ByteArray) = p at *
  have HV := Lib.hid hv
  have C1 := Lib.hid c1
  have C2 := Lib.hid c2
  have C3 := Lib.hid c3
  have C4 := Lib.hid c4
  clear hv c1 c2 c3 c4 h1
  go_enter Tryd.func4, Tryd.ntmps4
  go_wp2_with fail
  refine (C1.out _).mono ?_
  rintro e w1 ⟨rfl, hb⟩
  have HB1 := Lib.hid hb
  clear hb
  go_wp2_with fail
  refine (C2.out _).mono ?_
  rintro e w2 ⟨rfl, rfl⟩
  go_wp2_with fail
  refine (C3.out _ (HV.out.below HB1.out)).mono ?_
  rintro e w3 ⟨rfl, hb⟩
  have HB3 := Lib.hid (chain HB1.out hb)
  clear hb
  go_wp2_with fail
  refine (C4.out _).mono ?_
  rintro e w4 ⟨rfl, hb⟩
  have HB4 := Lib.hid (chain HB3.out hb)
  clear hb
  go_wp2_with fail
  refine (awake_any _ (HV.out.below HB4.out)).mono ?_
  rintro e w5 ⟨rfl, hb⟩
  have HB5 := Lib.hid (chain HB4.out hb)
  clear hb
  go_wp2
  go_ret
  exact ⟨rfl, HB5.out⟩
set_option maxHeartbeats 4000000 in
set_option maxRecDepth 1000000 in
theorem words_walk (s : ByteArray) (u : Int) (w : World) (hv : Vars w) (hs : s.size ≤ 140737488351232) (h1 : (Lit.int .u64 u).wf = true) :
    Calls Tryd.prog 5 #[.string s, .int .u64 u] w fun e w' => e = .returned (.bool true) ∧ Below w.heap.size w w' := by
  have h0 : 0 ≤ u ∧ u < 18446744073709551616 := by simp [Lit.wf, IntKind.min, IntKind.max, IntKind.signed, IntKind.bits] at h1; omega
  obtain ⟨u, rfl⟩ : ∃ n : Nat, u = n := ⟨u.toNat, by omega⟩
  have hu : u < 18446744073709551616 := by omega
  have c1 := fun w (hv : Vars w) => DgW.word_any s (by omega) w hv.rng
  have c2 := fun w => DgR.word_any s (by omega) w
  have c3 := fun w (hv : Vars w) => DgW.show_any u hu w hv.pow
  have c4 := fun w => DgR.show_any u hu w
  generalize (Dg.word s.data.toList).1 = a at *
  generalize (Dg.word s.data.toList).2 = b at *
  generalize (⟨(Lib.decDigits u).toArray⟩ : ByteArray) = p at *
  have HV := Lib.hid hv
  have C1 := Lib.hid c1
  have C2 := Lib.hid c2
  have C3 := Lib.hid c3
  have C4 := Lib.hid c4
  clear hv c1 c2 c3 c4 h1
  go_enter Tryd.func5, Tryd.ntmps5
  go_wp2_with fail
  refine (C1.out _ HV.out).mono ?_
  rintro e w1 ⟨rfl, hb⟩
  have HB1 := Lib.hid hb
  clear hb
  go_wp2_with fail
  refine (C2.out _).mono ?_
  rintro e w2 ⟨rfl, rfl⟩
  go_wp2_with fail
  refine (C3.out _ (HV.out.below HB1.out)).mono ?_
  rintro e w3 ⟨rfl, hb⟩
  have HB3 := Lib.hid (chain HB1.out hb)
  clear hb
  go_wp2_with fail
  refine (C4.out _).mono ?_
  rintro e w4 ⟨rfl, hb⟩
  have HB4 := Lib.hid (chain HB3.out hb)
  clear hb
  go_wp2_with fail
  refine (awake_any _ (HV.out.below HB4.out)).mono ?_
  rintro e w5 ⟨rfl, hb⟩
  have HB5 := Lib.hid (chain HB4.out hb)
  clear hb
  go_wp2
  go_ret
  exact ⟨rfl, HB5.out⟩
/-- the head of DigitBack, up to the two tests: the word comes back -/
theorem back_word (u : Nat) (hu : u < 18446744073709551616) (w : World) (hv : Vars w) :
    Calls Tryd.prog 25 #[.string ⟨(Lib.decDigits u).toArray⟩] w fun e w' => e = .returned (.tuple #[.int .u64 u, .int .i64 0]) ∧ Below w.heap.size w w' := by
  have hl := Dg.dec_len 20 u (by omega) (by omega)
  have := DgW.word_any ⟨(Lib.decDigits u).toArray⟩ (by show (Lib.decDigits u).toArray.size ≤ _; rw [List.size_toArray]; omega) w hv.rng
  rw [show (⟨(Lib.decDigits u).toArray⟩ : ByteArray).data.toList = Lib.decDigits u from rfl, Dg.word_show u hu] at this
  exact this
theorem itoa_len (n : Int) (h0 : -9223372036854775808 ≤ n) (h1 : n ≤ 9223372036854775807) : (⟨(Lib.itoa n).toArray⟩ : ByteArray).size ≤ 100 := by
  show (Lib.itoa n).toArray.size ≤ _
  rw [List.size_toArray]
  unfold Lib.itoa
  split
  · have := Dg.dec_len 20 n.natAbs (by omega) (by omega)
    rw [List.length_cons]; omega
  · have := Dg.dec_len 20 n.toNat (by omega) (by omega)
    omega
theorem back_parse (n o c : Int) (h0 : -9223372036854775808 ≤ n) (h1 : n ≤ 9223372036854775807) (h : Dg.parse (Lib.itoa n) (-999999999999999999) 999999999999999999 = (o, c)) (w : World) :
    Calls Tryd.prog 20 #[.string ⟨(Lib.itoa n).toArray⟩, .int .i64 (-999999999999999999), .int .i64 999999999999999999] w fun e w' => e = .returned (.tuple #[.int .i64 o, .int .i64 c]) ∧ Below w.heap.size w w' :=
  parse_c _ _ _ o c (itoa_len n h0 h1) h w
theorem same_text (n m : Int) : ((⟨(Lib.itoa n).toArray⟩ : ByteArray).toList == (⟨(Lib.itoa m).toArray⟩ : ByteArray).toList) = (n == m) := by
  rw [ByteArray.toList_eq, ByteArray.toList_eq, Bool.eq_iff_iff, beq_iff_eq, beq_iff_eq]
  constructor
  · intro h; exact Dg.itoa_inj h
  · rintro rfl; rfl
set_option maxHeartbeats 4000000 in
set_option maxRecDepth 1000000 in
theorem back_walk (n m u : Int) (w : World) (hv : Vars w) (h1 : (Lit.int .i64 n).wf = true) (h2 : (Lit.int .i64 m).wf = true) (h3 : (Lit.int .u64 u).wf = true) :
    Calls Tryd.prog 6 #[.int .i64 n, .int .i64 m, .int .u64 u] w fun e w' => e = .returned (.bool true) ∧ Below w.heap.size w w' := by
  have hn : -9223372036854775808 ≤ n ∧ n ≤ 9223372036854775807 := by simp [Lit.wf, IntKind.min, IntKind.max, IntKind.signed, IntKind.bits] at h1; omega
  have hm : -9223372036854775808 ≤ m ∧ m ≤ 9223372036854775807 := by simp [Lit.wf, IntKind.min, IntKind.max, IntKind.signed, IntKind.bits] at h2; omega
  have hu0 : 0 ≤ u ∧ u < 18446744073709551616 := by simp [Lit.wf, IntKind.min, IntKind.max, IntKind.signed, IntKind.bits] at h3; omega
  obtain ⟨u, rfl⟩ : ∃ n : Nat, u = n := ⟨u.toNat, by omega⟩
  have hu : u < 18446744073709551616 := by omega
  have c1 := fun w (hv : Vars w) => DgW.show_any u hu w hv.pow
  have c2 := fun w (hv : Vars w) => back_word u hu w hv
  have c3 := fun w (hv : Vars w) => DgW.print_any n hn.1 hn.2 w hv.pow
  have c4 := fun w (hv : Vars w) => DgW.print_any m hm.1 hm.2 w hv.pow
  have hst := same_text n m
  have c5 := back_parse n
  generalize (⟨(Lib.decDigits u).toArray⟩ : ByteArray) = p at *
  have HV := Lib.hid hv
  have C1 := Lib.hid c1
  have C2 := Lib.hid c2
  clear hv c1 c2 h1 h2 h3
  have hrange : (-1000000000000000000 < n ∧ n < 1000000000000000000) ∨ n < -999999999999999999 ∨ (¬ n < -999999999999999999 ∧ 999999999999999999 < n) := by omega
  rcases hrange with hr | hr | ⟨hr0, hr⟩
  · have c5 := c5 n 0 hn.1 hn.2 (Dg.parse_back hr.1 hr.2)
    generalize (⟨(Lib.itoa n).toArray⟩ : ByteArray) = q at *
    generalize (⟨(Lib.itoa m).toArray⟩ : ByteArray) = r at *
    have C3 := Lib.hid c3
    have C4 := Lib.hid c4
    have C5 := Lib.hid c5
    have d1 : decide (n < -999999999999999999) = false := decide_eq_false (by omega)
    have d2 : decide (999999999999999999 < n) = false := decide_eq_false (by omega)
    clear c3 c4 c5 hr
    have hnm : ((q.toList == r.toList) = true ∧ (n == m) = true) ∨ ((q.toList == r.toList) = false ∧ (n == m) = false) := by
      rw [hst]; cases (n == m) <;> simp
    clear hst
    rcases hnm with ⟨e1, e2⟩ | ⟨e1, e2⟩
    all_goals
      go_enter Tryd.func6, Tryd.ntmps6
      go_wp2_with fail
      refine (C1.out _ HV.out).mono ?_
      rintro e w1 ⟨rfl, hb⟩
      have HB1 := Lib.hid hb
      clear hb
      go_wp2_with fail
      refine (C2.out _ (HV.out.below HB1.out)).mono ?_
      rintro e w2 ⟨rfl, hb⟩
      have HB2 := Lib.hid (chain HB1.out hb)
      clear hb
      go_wp2_with fail
      refine (C3.out _ (HV.out.below HB2.out)).mono ?_
      rintro e w3 ⟨rfl, hb⟩
      have HB3 := Lib.hid (chain HB2.out hb)
      clear hb
      go_wp2_with fail
      refine (C4.out _ (HV.out.below HB3.out)).mono ?_
      rintro e w4 ⟨rfl, hb⟩
      have HB4 := Lib.hid (chain HB3.out hb)
      clear hb
      go_wp2_with fail
      refine (C3.out _ (HV.out.below HB4.out)).mono ?_
      rintro e w5 ⟨rfl, hb⟩
      have HB5 := Lib.hid (chain HB4.out hb)
      clear hb
      go_wp2_with fail
      refine (C5.out _).mono ?_
      rintro e w6 ⟨rfl, hb⟩
      have HB6 := Lib.hid (chain HB5.out hb)
      clear hb
      go_wp2_with fail
      refine (awake_any _ (HV.out.below HB6.out)).mono ?_
      rintro e w7 ⟨rfl, hb⟩
      have HB7 := Lib.hid (chain HB6.out hb)
      clear hb
      go_wp2
      go_ret
      exact ⟨rfl, HB7.out⟩
  · have c5 := c5 0 3 hn.1 hn.2 (Dg.parse_far (by omega))
    generalize (⟨(Lib.itoa n).toArray⟩ : ByteArray) = q at *
    generalize (⟨(Lib.itoa m).toArray⟩ : ByteArray) = r at *
    have C3 := Lib.hid c3
    have C4 := Lib.hid c4
    have C5 := Lib.hid c5
    have d1 : decide (n < -999999999999999999) = true := decide_eq_true (by omega)
    clear c3 c4 c5 hr
    have hnm : ((q.toList == r.toList) = true ∧ (n == m) = true) ∨ ((q.toList == r.toList) = false ∧ (n == m) = false) := by
      rw [hst]; cases (n == m) <;> simp
    clear hst
    rcases hnm with ⟨e1, e2⟩ | ⟨e1, e2⟩
    all_goals
      go_enter Tryd.func6, Tryd.ntmps6
      go_wp2_with fail
      refine (C1.out _ HV.out).mono ?_
      rintro e w1 ⟨rfl, hb⟩
      have HB1 := Lib.hid hb
      clear hb
      go_wp2_with fail
      refine (C2.out _ (HV.out.below HB1.out)).mono ?_
      rintro e w2 ⟨rfl, hb⟩
      have HB2 := Lib.hid (chain HB1.out hb)
      clear hb
      go_wp2_with fail
      refine (C3.out _ (HV.out.below HB2.out)).mono ?_
      rintro e w3 ⟨rfl, hb⟩
      have HB3 := Lib.hid (chain HB2.out hb)
      clear hb
      go_wp2_with fail
      refine (C4.out _ (HV.out.below HB3.out)).mono ?_
      rintro e w4 ⟨rfl, hb⟩
      have HB4 := Lib.hid (chain HB3.out hb)
      clear hb
      go_wp2_with fail
      refine (C3.out _ (HV.out.below HB4.out)).mono ?_
      rintro e w5 ⟨rfl, hb⟩
      have HB5 := Lib.hid (chain HB4.out hb)
      clear hb
      go_wp2_with fail
      refine (C5.out _).mono ?_
      rintro e w6 ⟨rfl, hb⟩
      have HB6 := Lib.hid (chain HB5.out hb)
      clear hb
      go_wp2_with fail
      refine (awake_any _ (HV.out.below HB6.out)).mono ?_
      rintro e w7 ⟨rfl, hb⟩
      have HB7 := Lib.hid (chain HB6.out hb)
      clear hb
      go_wp2
      go_ret
      exact ⟨rfl, HB7.out⟩
  · have c5 := c5 0 3 hn.1 hn.2 (Dg.parse_far (by omega))
    generalize (⟨(Lib.itoa n).toArray⟩ : ByteArray) = q at *
    generalize (⟨(Lib.itoa m).toArray⟩ : ByteArray) = r at *
    have C3 := Lib.hid c3
    have C4 := Lib.hid c4
    have C5 := Lib.hid c5
    have d1 : decide (n < -999999999999999999) = false := decide_eq_false (by omega)
    have d2 : decide (999999999999999999 < n) = true := decide_eq_true (by omega)
    clear c3 c4 c5 hr hr0
    have hnm : ((q.toList == r.toList) = true ∧ (n == m) = true) ∨ ((q.toList == r.toList) = false ∧ (n == m) = false) := by
      rw [hst]; cases (n == m) <;> simp
    clear hst
    rcases hnm with ⟨e1, e2⟩ | ⟨e1, e2⟩
    all_goals
      go_enter Tryd.func6, Tryd.ntmps6
      go_wp2_with fail
      refine (C1.out _ HV.out).mono ?_
      rintro e w1 ⟨rfl, hb⟩
      have HB1 := Lib.hid hb
      clear hb
      go_wp2_with fail
      refine (C2.out _ (HV.out.below HB1.out)).mono ?_
      rintro e w2 ⟨rfl, hb⟩
      have HB2 := Lib.hid (chain HB1.out hb)
      clear hb
      go_wp2_with fail
      refine (C3.out _ (HV.out.below HB2.out)).mono ?_
      rintro e w3 ⟨rfl, hb⟩
      have HB3 := Lib.hid (chain HB2.out hb)
      clear hb
      go_wp2_with fail
      refine (C4.out _ (HV.out.below HB3.out)).mono ?_
      rintro e w4 ⟨rfl, hb⟩
      have HB4 := Lib.hid (chain HB3.out hb)
      clear hb
      go_wp2_with fail
      refine (C3.out _ (HV.out.below HB4.out)).mono ?_
      rintro e w5 ⟨rfl, hb⟩
      have HB5 := Lib.hid (chain HB4.out hb)
      clear hb
      go_wp2_with fail
      refine (C5.out _).mono ?_
      rintro e w6 ⟨rfl, hb⟩
      have HB6 := Lib.hid (chain HB5.out hb)
      clear hb
      go_wp2_with fail
      refine (awake_any _ (HV.out.below HB6.out)).mono ?_
      rintro e w7 ⟨rfl, hb⟩
      have HB7 := Lib.hid (chain HB6.out hb)
      clear hb
      go_wp2
      go_ret
      exact ⟨rfl, HB7.out⟩
end Go.Proofs.YtjblmniiaeefaaaDoor.DgL
