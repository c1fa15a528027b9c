/- scrollbacklaw40.TextFits (40): its walk. The tables hold what the program's text lays. -/
import Derived.Test.YtfdolhppbimbmaaDoorTtQ
import Derived.Laws.Cover4
import Derived.Stop.FmtQuoteTie
namespace Go.Proofs.YtfdolhppbimbmaaDoor
set_option linter.unusedVariables false
set_option linter.unusedSimpArgs false
open Go.RowKit
attribute [local go_sem] Oper.semAt_some

theorem enc_rune (r : Nat) : Utf8.encode (r : Int) = strL (Lib.encodeRune (r : Int)) := by
  refine bytes_ext ?_
  rw [strL_list, Lib.encodeRune, ← Go.Extern.FmtText.encode_eq]
  simp only [Go.Extern.FmtText.nums, List.map_map]
  symm
  exact (List.map_congr_left (fun b _ => by simp)).trans (List.map_id _)
theorem conv_rune (r : Int) (W : World) : (convert 59 9 (.slice (some ⟨W.heap.size, 0, none⟩) 1 1)).run Tryd.prog (W.alloc (.cells #[.int .i32 r] 21)) = .ok (.string (Utf8.encode r)) (W.alloc (.cells #[.int .i32 r] 21)) := by
  have q := run_convert_runes (P := Tryd.prog) (W.alloc (.cells #[.int .i32 r] 21)) 59 9 21 ⟨W.heap.size, 0, none⟩ 1 1 [r] (by simp) Tryd.underlying59 Tryd.underlying21 Tryd.underlying9 (fun j hj => by
    obtain rfl : j = 0 := by simp at hj; omega
    rw [addr_add, cell_of_row _ _ _ _ _ _ (heap_alloc_new W _)]
    rfl)
  rw [q]
  have e : runesBytes ([r].take 1) = Utf8.encode r := by simp [runesBytes]
  rw [e]
end Go.Proofs.YtfdolhppbimbmaaDoor
