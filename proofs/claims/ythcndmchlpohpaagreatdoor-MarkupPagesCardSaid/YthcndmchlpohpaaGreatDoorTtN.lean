/- cell.Blank, cell.Spacer with any pen. No condition. -/
import Derived.Test.YthcndmchlpohpaaGreatDoorTxA
namespace Go.Proofs.YthcndmchlpohpaaGreatDoor
set_option linter.unusedVariables false
set_option linter.unusedSimpArgs false
open Go.RowKit

def Cell.blankP (c : Cell) : Cell := ⟨0, 0, 0, 0, 1, c.f0, c.f1, c.f2, c.f3, c.f4, c.b0, c.b1, c.b2, c.b3, c.b4, c.flags⟩
set_option maxHeartbeats 1000000 in
theorem blankP_any (c : Cell) (w : World) : Calls Tryz.prog 56 #[c.pen] w fun e w' => e = .returned c.blankP.val ∧ Sees w w' := by
  unfold Cell.pen
  go_enter Tryz.func56, Tryz.ntmps56
  go_wp2
  exact bodyPost_ret (v := .agg #[.int .i32 0, .int .i32 0, .int .i32 0, .int .i32 0, .int .i64 1, .int .i64 c.f0, .int .u8 c.f1, .int .u8 c.f2, .int .u8 c.f3, .int .u8 c.f4, .int .i64 c.b0, .int .u8 c.b1, .int .u8 c.b2, .int .u8 c.b3, .int .u8 c.b4, .int .u8 c.flags]) (by simp [results, Tryz.results56, go_sem]) rfl ⟨rfl, ((Sees.refl _).alloc _).alloc _⟩
set_option maxHeartbeats 1000000 in
theorem spacer_any (c : Cell) (w : World) : Calls Tryz.prog 68 #[c.pen] w fun e w' => e = .returned c.spacer.val ∧ Sees w w' := by
  unfold Cell.pen
  go_enter Tryz.func68, Tryz.ntmps68
  go_wp2
  exact bodyPost_ret (v := .agg #[.int .i32 0, .int .i32 0, .int .i32 0, .int .i32 0, .int .i64 0, .int .i64 c.f0, .int .u8 c.f1, .int .u8 c.f2, .int .u8 c.f3, .int .u8 c.f4, .int .i64 c.b0, .int .u8 c.b1, .int .u8 c.b2, .int .u8 c.b3, .int .u8 c.b4, .int .u8 c.flags]) (by simp [results, Tryz.results68, go_sem]) rfl ⟨rfl, ((Sees.refl _).alloc _).alloc _⟩
end Go.Proofs.YthcndmchlpohpaaGreatDoor
