/- SearchSteps (42). The tables hold what the program's text lays. -/
import Derived.Test.YtfdolhppbimbmaaDoorSrY
namespace Go.Proofs.YtfdolhppbimbmaaDoor
set_option linter.unusedVariables false
set_option linter.unusedSimpArgs false
open Go.RowKit Go.Shelf
attribute [local go_sem] Oper.semAt_some

theorem after_sees (l c l' c' : Int) (w : World) :
    Calls Tryd.prog 18 #[.agg #[.int .i64 l, .int .i64 c], .agg #[.int .i64 l', .int .i64 c']] w fun e w' => e = .returned (.bool (befB l' c' l c)) ∧ Sees w w' := after_any l c l' c' w
theorem nextD_step {d : Mt} {l c : Int} {ms : List Mt} {q : Nat} {x : Mt} (h : ms[q]? = some x) : nextD d l c (ms.drop q) = if x.beh l c then x else nextD d l c (ms.drop (q + 1)) := by
  have hq := (List.getElem?_eq_some_iff.1 h).1
  rw [List.drop_eq_getElem_cons hq, (List.getElem?_eq_some_iff.1 h).2, nextD]
theorem prevD_step {d : Mt} {l c : Int} {ms : List Mt} {q : Nat} {x : Mt} (h : ms[q]? = some x) : prevD l c d (ms.take (q + 1)) = if x.ahe l c then x else prevD l c d (ms.take q) := by
  rw [List.take_add_one, h]
  show prevD l c d (ms.take q ++ [x]) = _
  rw [prevD_append]
  rfl
theorem foR_in {ls : List Ln} {first : Int} {p : ByteArray} {i k : Nat} (h : ckR ls first p = 0) (hi : i < ls.length) (hk : k < cols ls) : foR ls first p (first + i) k = 0 := by
  unfold foR
  rw [if_pos h, if_neg]
  unfold foB
  rw [decide_eq_false (by omega), decide_eq_false (by omega), decide_eq_false (by omega), decide_eq_false (by omega)]
  simp
theorem foR_out {ls : List Ln} {first : Int} {p : ByteArray} {l c : Int} (h : ckR ls first p = 0) (ho : foB ls first l c = true) : foR ls first p l c = 3 := by
  unfold foR
  rw [if_pos h, if_pos ho]
end Go.Proofs.YtfdolhppbimbmaaDoor
