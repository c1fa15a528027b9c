/- New pages; the law's lines of one cell. No condition. -/
import Derived.Test.YtpicffaghoggdaaDoorPush2
namespace Go.Proofs.YtpicffaghoggdaaDoor
set_option linter.unusedVariables false
set_option linter.unusedSimpArgs false
open Go.RowKit

theorem new_bad (n : Int) (w : World) (h : decide (n < 1) = true ∨ (decide (n < 1) = false ∧ decide (n > 1024) = true)) :
    Calls Tryd.prog 98 #[.int .i64 n] w fun e w' => e = .returned (.tuple #[.pointer none, .int .i64 2]) ∧ Sees w w' := by
  have hw := Sees.refl w
  rcases h with h1 | ⟨h1, h2⟩
  · go_enter Tryd.func98, Tryd.ntmps98
    go_wp2
    go_ret2
    exact ⟨rfl, hw⟩
  · go_enter Tryd.func98, Tryd.ntmps98
    go_wp2
    go_ret2
    exact ⟨rfl, hw⟩
theorem new_ok (n : Int) (w : World) (h1 : decide (n < 1) = false) (h2 : decide (n > 1024) = false) :
    Calls Tryd.prog 98 #[.int .i64 n] w fun e w' => e = .returned (.tuple #[.pointer (some ⟨w.heap.size, 0, none⟩), .int .i64 0]) ∧ Page (fun b => w.heap.size ≤ b) w' w.heap.size n 0 [] ∧ Sees w w' := by
  have hw := Sees.refl w
  go_enter Tryd.func98, Tryd.ntmps98
  go_wp2
  go_ret2
  exact ⟨rfl, ⟨Nat.le_refl _, .slice none 0 0, heap_alloc_new _ _, OwnL.nil _ _⟩, hw.alloc _⟩

/-- The cell of a line of a rune. -/
def one (r : Int) : Cell := ⟨r, 0, 0, 0, 1, 0, 0, 0, 0, 0, 0, 0, 0, 0, 0, 0⟩
end Go.Proofs.YtpicffaghoggdaaDoor
