/- text.Block (40). The tables hold what the program's text lays. -/
import Derived.Test.YtfdolhppbimbmaaDoorTtH
namespace Go.Proofs.YtfdolhppbimbmaaDoor
set_option linter.unusedVariables false
set_option linter.unusedSimpArgs false
open Go.RowKit

set_option maxHeartbeats 1000000
/-- Parts of lines, parts of cells. -/
theorem mid_lns {G : Nat → Prop} {w : World} {a : Option Addr} {n c : Nat} {ls : List Ln} (hv : lnEl.Rd G w (.slice a n c) ls) (k m : Nat) (hk : k ≤ m) (hm : m ≤ n) :
    ∃ a2 c2, (∀ W, (Instr.sliceAt 22 (.slice a n c) (some (.int .i64 (k : Int))) (some (.int .i64 (m : Int))) none).run Tryd.prog W = .ok (.slice a2 (m - k) c2) W) ∧ (∀ (F : Nat → Prop) (W : World), lnEl.Rd F W (.slice a n c) ls → lnEl.Rd F W (.slice a2 (m - k) c2) ((ls.drop k).take (m - k))) := by
  have hnl := hv.len
  have hvx : n ≤ c := by obtain ⟨_, _, e, h, _⟩ := hv; cases e; omega
  have hmc : ¬ c < m := by omega
  have hmk : ¬ m < k := by omega
  by_cases hls : ls = []
  · subst hls
    obtain rfl : n = 0 := hnl
    obtain rfl : m = 0 := by omega
    obtain rfl : k = 0 := by omega
    cases a with
    | none => exact ⟨none, c, fun W => by go_simp, fun F W _ => El.Rd.empty _ _ _ _⟩
    | some x =>
      by_cases hc0 : c = 0
      · subst hc0
        exact ⟨some x, 0, fun W => by go_simp, fun F W _ => El.Rd.empty _ _ _ _⟩
      · exact ⟨some (x.add 0), c, fun W => by go_simp, fun F W _ => El.Rd.empty _ _ _ _⟩
  · obtain ⟨b, o, rfl⟩ : ∃ b o, a = some ⟨b, o, none⟩ := by
      obtain ⟨ao, cap, e, _, hh⟩ := hv
      cases e
      obtain ⟨b, o, e, _⟩ := hh hls
      exact ⟨b, o, e⟩
    by_cases h : c = k
    · subst h
      obtain rfl : m = c := by omega
      obtain rfl : n = m := by omega
      exact ⟨some ⟨b, o, none⟩, 0, fun W => by go_simp, fun F W hr => by rw [Nat.sub_self, List.take_zero]; exact El.Rd.empty _ _ _ _⟩
    · exact ⟨some ⟨b, o + k * 2, none⟩, c - k, fun W => by go_simp, fun F W hr => by
        have hl := hr.len
        exact (hr.drop k (by omega) (c - k) (by omega)).take (m - k) (by rw [List.length_drop]; omega) (c - k) (by omega)⟩
theorem mid_cells {G : Nat → Prop} {w : World} {a : Option Addr} {n c : Nat} {ls : List Cell} (hv : cellEl.Rd G w (.slice a n c) ls) (k m : Nat) (hk : k ≤ m) (hm : m ≤ n) :
    ∃ a2 c2, (∀ W, (Instr.sliceAt 35 (.slice a n c) (some (.int .i64 (k : Int))) (some (.int .i64 (m : Int))) none).run Tryd.prog W = .ok (.slice a2 (m - k) c2) W) ∧ (∀ (F : Nat → Prop) (W : World), cellEl.Rd F W (.slice a n c) ls → cellEl.Rd F W (.slice a2 (m - k) c2) ((ls.drop k).take (m - k))) := by
  have hnl := hv.len
  have hvx : n ≤ c := by obtain ⟨_, _, e, h, _⟩ := hv; cases e; omega
  have hmc : ¬ c < m := by omega
  have hmk : ¬ m < k := by omega
  by_cases hls : ls = []
  · subst hls
    obtain rfl : n = 0 := hnl
    obtain rfl : m = 0 := by omega
    obtain rfl : k = 0 := by omega
    cases a with
    | none => exact ⟨none, c, fun W => by go_simp, fun F W _ => El.Rd.empty _ _ _ _⟩
    | some x =>
      by_cases hc0 : c = 0
      · subst hc0
        exact ⟨some x, 0, fun W => by go_simp, fun F W _ => El.Rd.empty _ _ _ _⟩
      · exact ⟨some (x.add 0), c, fun W => by go_simp, fun F W _ => El.Rd.empty _ _ _ _⟩
  · obtain ⟨b, o, rfl⟩ : ∃ b o, a = some ⟨b, o, none⟩ := by
      obtain ⟨ao, cap, e, _, hh⟩ := hv
      cases e
      obtain ⟨b, o, e, _⟩ := hh hls
      exact ⟨b, o, e⟩
    by_cases h : c = k
    · subst h
      obtain rfl : m = c := by omega
      obtain rfl : n = m := by omega
      exact ⟨some ⟨b, o, none⟩, 0, fun W => by go_simp, fun F W hr => by rw [Nat.sub_self, List.take_zero]; exact El.Rd.empty _ _ _ _⟩
    · exact ⟨some ⟨b, o + k * 16, none⟩, c - k, fun W => by go_simp, fun F W hr => by
        have hl := hr.len
        exact (hr.drop k (by omega) (c - k) (by omega)).take (m - k) (by rw [List.length_drop]; omega) (c - k) (by omega)⟩
theorem exec_mid {P : Program} {ρ : Operand → Value} {o : Oper} {t : TypeId} {x lo hi : Operand} {a b d v : Value} {W W' : World} (ho : o.op = .slice t x (some lo) (some hi) none) (hx : ρ x = a) (hlo : ρ lo = b) (hhi : ρ hi = d)
    (h : (Instr.sliceAt t a (some b) (some d) none).run P W = .ok v W') : (execOp ρ o).run P W = .ok (.value v) W' := by
  unfold execOp
  rw [ho]
  simp only [hx, hlo, hhi, Option.map_some, Option.map_none, Sem.run_bind, h, Result.andThen_ok]
  rfl
end Go.Proofs.YtfdolhppbimbmaaDoor
