/- The chapter's examples, as plain facts. No condition. -/
import Derived.Test.YtoljdfaghomjkaaDoorPlG
namespace Go.Proofs.YtoljdfaghomjkaaDoor
set_option linter.unusedVariables false
set_option linter.unusedSimpArgs false
open Go.RowKit

theorem compare_c (l c m d v : Int) (h : cmpP l c m d = v) (w : World) : Calls Tryd.prog 11 #[pl l c, pl m d] w fun e w' => e = .returned (.int .i64 v) ∧ Sees w w' := by
  rw [← h]; exact compare_any l c m d w
theorem within_c (l c m d x y : Int) (v : Bool) (h : (decide (cmpP m d l c ≤ 0) && decide (cmpP l c x y < 0)) = v) (w : World) :
    Calls Tryd.prog 13 #[pl l c, pl m d, pl x y] w fun e w' => e = .returned (.bool v) ∧ Sees w w' := by
  rw [← h]; exact within_any l c m d x y w
theorem order_c (w : World) : Calls Tryd.prog 12 #[pl 3 0, pl 2 9] w fun e w' => e = .returned (.tuple #[pl 2 9, pl 3 0]) ∧ Sees w w' := by
  have h := order_any 3 0 2 9 w
  rw [if_pos (by decide)] at h
  exact h
theorem txt_12_0 : (⟨#[49, 50, 58, 48]⟩ : ByteArray) = txt 12 0 := by kernel_rfl
theorem pa_1 : PaR ⟨#[55, 58, 51]⟩ 7 3 0 := .inl ⟨⟨by kernel_rfl, by kernel_rfl, by kernel_rfl, by kernel_rfl⟩, rfl⟩
theorem pa_bad {s : ByteArray} (h : ∀ l c, ¬ HasPl s l c) : PaR s 0 0 6 := .inr ⟨h, rfl, rfl, rfl⟩
theorem pa_2 : PaR ⟨#[48, 55, 58, 51]⟩ 0 0 6 := pa_bad fun l c ⟨h1, h2, h3, h4⟩ => by
  have e1 : Lib.atoiAll (Lib.cut (⟨#[48, 55, 58, 51]⟩ : ByteArray).data.toList [58]).1 = .ok 7 := by kernel_rfl
  have e2 : Lib.atoiAll (Lib.cut (⟨#[48, 55, 58, 51]⟩ : ByteArray).data.toList [58]).2.1 = .ok 3 := by kernel_rfl
  have g1 := e1.symm.trans h1
  have g2 := e2.symm.trans h2
  simp only [Lib.NumEnd.ok.injEq] at g1 g2
  subst g1 g2
  have e3 : (txt 7 3).size = 3 := by kernel_rfl
  rw [h4] at e3
  exact absurd e3 (by decide)
theorem pa_3 : PaR ⟨#[55]⟩ 0 0 6 := pa_bad fun l c ⟨h1, h2, h3, h4⟩ => by
  have e2 : Lib.atoiAll (Lib.cut (⟨#[55]⟩ : ByteArray).data.toList [58]).2.1 = Lib.atoiAll [] := by kernel_rfl
  rw [e2] at h2
  cases h2
theorem pa_4 : PaR ⟨#[55, 58, 49, 48, 48, 49]⟩ 0 0 6 := pa_bad fun l c ⟨h1, h2, h3, h4⟩ => by
  have e2 : Lib.atoiAll (Lib.cut (⟨#[55, 58, 49, 48, 48, 49]⟩ : ByteArray).data.toList [58]).2.1 = .ok 1001 := by kernel_rfl
  have g2 := e2.symm.trans h2
  simp only [Lib.NumEnd.ok.injEq] at g2
  subst g2
  unfold vP at h3
  simp at h3
end Go.Proofs.YtoljdfaghomjkaaDoor
