/- spec: the little map of Allows. -/
import Derived.Test.YtdhgacionopghaaGreatDoorSpecDo
import Derived.Maps.Keyed
import Derived.Carry
namespace Go.Proofs.YtdhgacionopghaaGreatDoor.Sp
open Go.RowKit Go.Shelf Dc DcM DcW DcI DcR DcL
set_option linter.unusedVariables false
theorem chk (e : Bool) (z : Int) (w : World) : (Instr.checkKey e 10000 3 (.int .i64 z)).run Tryz.prog w = .ok () w := MapKept.run_checkKey (k := .int .i64 z) Tryz.underlying3 rfl e 9999
theorem map_ins (w : World) (r : Nat) (h : w.heap[r]? = some (.map #[] 0)) : (Instr.mapUpdate 71 (.map (some r)) (.int .i64 11) (.int .i64 1)).run Tryz.prog w = .ok () (w.putObj r (.map #[⟨.int .i64 11, .int .i64 1, 0⟩] 1)) := by
  have u1 := fun w => run_underlying (w := w) Tryz.underlying71
  have u2 := fun w => run_underlying (w := w) Tryz.underlying3
  unfold Instr.mapUpdate
  simp only [Sem.run_bind, u1, Result.andThen_ok]
  simp only [MapKept.run_getObj_map h, Result.andThen_ok, Sem.run_bind, chk]
  simp [Instr.findKey, u2, Instr.findNow, MapKept.run_setObj_map _ h, World.putObj]
theorem map_look (w : World) (r : Nat) (kd : Int) (h : w.heap[r]? = some (.map #[⟨.int .i64 11, .int .i64 1, 0⟩] 1)) : (Instr.lookup 71 (.map (some r)) (.int .i64 kd) false).run Tryz.prog w = .ok (.int .i64 (if kd = 11 then 1 else 0)) w := by
  have u1 := fun w => run_underlying (w := w) Tryz.underlying71
  have u2 := fun w => run_underlying (w := w) Tryz.underlying3
  have hz : (zeroValue 3).run Tryz.prog w = .ok (.int .i64 0) w := by kernel_rfl
  unfold Instr.lookup
  simp only [Sem.run_bind, u1, Result.andThen_ok, MapKept.run_getObj_map h, Sem.run_pure, chk]
  by_cases hk : kd = 11
  · subst hk
    simp [Instr.findKey, u2, Instr.findNow, Instr.sameNow]
  · have hb : (kd == 11) = false := by rw [beq_eq_false_iff_ne]; exact hk
    simp [Instr.findKey, u2, Instr.findNow, Instr.sameNow, hb, hk, hz]
end Go.Proofs.YtdhgacionopghaaGreatDoor.Sp
