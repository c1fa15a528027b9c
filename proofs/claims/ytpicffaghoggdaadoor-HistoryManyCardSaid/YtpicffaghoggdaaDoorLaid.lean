/- What the row's list gives: the two tables. No condition. -/
import Derived.Test.YtpicffaghoggdaaDoorWidth
import Derived.Lib.LaidTab
namespace Go.Proofs.YtpicffaghoggdaaDoor
set_option linter.unusedVariables false
set_option linter.unusedSimpArgs false
open Go.RowKit

/-- An array of pairs that reads as a table of pairs holds them, cell for cell. -/
theorem cells_of_pairs {H : Type} {enc : TypeId × Value → H} {P : Program} {w : World} {base : Nat} {sp : Nat → Bool} {held : Bool} {fuel : Nat} {t e e2 : TypeId} {n : Nat} {k : IntKind} {cs : List Value} {zs : List (Int × Int)} {p : List MemPlace}
    (ht : P.underlying t = some (.array n e)) (he : P.underlying e = some (.array 2 e2)) (he2 : P.underlying e2 = some (.int k)) (hce2 : P.cellsOf e2 = 1) (hce : P.cellsOf e = 2) (hct : P.cellsOf t = n * 2)
    (h : DataW.trod enc P w base sp held fuel t cs = some (.agg (zs.map fun z => .agg [.lit (.int k z.1), .lit (.int k z.2)]), p)) : ∀ (i : Nat) z, zs[i]? = some z → cs[i * 2]? = some (.int k z.1) ∧ cs[i * 2 + 1]? = some (.int k z.2) := by
  cases fuel with
  | zero => simp [DataW.trod] at h
  | succ fuel =>
    simp only [DataW.trod, ht, hce, hct] at h
    split at h
    · rename_i hl
      obtain ⟨xs, hm, hx⟩ := Option.map_eq_some_iff.1 h
      have hxs : xs.map (·.1) = zs.map fun z => (DataW.agg [.lit (.int k z.1), .lit (.int k z.2)] : DataW H) := by
        have := congrArg Prod.fst hx
        simpa using this
      have hxl : xs.length = n := by simpa using Lib.mapM_length hm
      intro i z hz
      have hi : i < n := by
        have h1 := congrArg List.length hxs
        simp at h1
        have h2 := (List.getElem?_eq_some_iff.1 hz).1
        omega
      obtain ⟨b, hb, hf⟩ := Lib.mapM_at hm i i (by simp [hi])
      have h2 : (xs.map (·.1))[i]? = some b.1 := by simp [hb]
      rw [hxs] at h2
      simp only [List.getElem?_map, hz, Option.map_some, Option.some.injEq] at h2
      obtain ⟨b1, b2⟩ := b
      subst h2
      have hc := Lib.cells_of_tab (zs := [z.1, z.2]) he he2 hce2 hce hf
      have g0 := congrArg (·[0]?) hc
      have g1 := congrArg (·[1]?) hc
      simp [List.getElem?_take, List.getElem?_drop] at g0 g1
      exact ⟨by simpa using g0, by simpa using g1⟩
    · cases h

theorem tabs_of_laid {W : World} (h : laidMet Tryd.prog Rows.historySharesRow.laid W) : Tabs W := by
  obtain ⟨ps, ⟨g1, t1, cs1, f1, p1, q1, hg1, ht1, hv1, hd1, ⟨g2, t2, cs2, f2, p2, q2, hg2, ht2, hv2, hd2, _, _⟩, _⟩, _⟩ := h
  have n1 : Tryd.prog.globalNamed (Rows.historySharesRow.laid[0]?.map (·.1)).get! = some 0 := by kernel_rfl
  have n2 : Tryd.prog.globalNamed (Rows.historySharesRow.laid[1]?.map (·.1)).get! = some 1 := by kernel_rfl
  have e1 : g1 = 0 := Option.some.inj (hg1.symm.trans n1)
  have e2 : g2 = 1 := Option.some.inj (hg2.symm.trans n2)
  subst e1 e2
  have y1 : (Tryd.prog.globals[0]?).map (·.type) = some 151 := by kernel_rfl
  have y2 : (Tryd.prog.globals[1]?).map (·.type) = some 152 := by kernel_rfl
  obtain rfl := Option.some.inj (y1.symm.trans ht1)
  obtain rfl := Option.some.inj (y2.symm.trans ht2)
  have k1 := cells_of_pairs (n := 18) (zs := marksL) Tryd.underlying151 Tryd.underlying150 Tryd.underlying21 (by kernel_rfl) (by kernel_rfl) (by kernel_rfl) hd1
  have k2 := cells_of_pairs (n := 19) (zs := wideL) Tryd.underlying152 Tryd.underlying150 Tryd.underlying21 (by kernel_rfl) (by kernel_rfl) (by kernel_rfl) hd2
  refine ⟨fun i hi => ?_, fun i hi => ?_⟩
  · have hz : marksL[i]? = some (marksT i) := by
      unfold marksT
      rw [List.getD_eq_getElem?_getD, List.getElem?_eq_getElem (show i < marksL.length from hi)]; rfl
    obtain ⟨c1, c2⟩ := k1 i _ hz
    exact ⟨(World.var?_cell hg1 hv1 (i * 2)).trans (by simpa using c1), (World.var?_cell hg1 hv1 (i * 2 + 1)).trans (by simpa using c2)⟩
  · have hz : wideL[i]? = some (wideT i) := by
      unfold wideT
      rw [List.getD_eq_getElem?_getD, List.getElem?_eq_getElem (show i < wideL.length from hi)]; rfl
    obtain ⟨c1, c2⟩ := k2 i _ hz
    exact ⟨(World.var?_cell hg2 hv2 (i * 2)).trans (by simpa using c1), (World.var?_cell hg2 hv2 (i * 2 + 1)).trans (by simpa using c2)⟩
end Go.Proofs.YtpicffaghoggdaaDoor
