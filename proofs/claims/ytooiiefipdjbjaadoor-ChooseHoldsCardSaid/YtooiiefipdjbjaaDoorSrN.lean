/- search.Next (42). The tables hold what the program's text lays. search.Prev (42). The tables hold what the program's text lays. No condition. -/
import Derived.Test.YtooiiefipdjbjaaDoorSrL
namespace Go.Proofs.YtooiiefipdjbjaaDoor
set_option linter.unusedVariables false
set_option linter.unusedSimpArgs false
open Go.RowKit Go.Shelf
attribute [local go_sem] Oper.semAt_some

/-- What Next and Prev answer. -/
def zeroMt : Mt := ⟨0, 0, 0, 0⟩
def nextR (ms : List Mt) (l c : Int) : Mt := match ms with | [] => zeroMt | d :: r => nextD d l c (d :: r)
def prevR (ms : List Mt) (l c : Int) : Mt := match ms.getLast? with | none => zeroMt | some d => prevD l c d ms
def noneE (ms : List Mt) : Int := if ms = [] then 9 else 0
/-- A variable that holds a place. -/
def PlAt (W : World) (b : Nat) (l c : Int) : Prop := W.heap[b]? = some (.cells #[.int .i64 l, .int .i64 c] 25 (0, 0))
namespace PlAt
variable {W W' : World} {b : Nat} {l c : Int}
theorem lt (h : PlAt W b l c) : b < W.heap.size := (Array.getElem?_eq_some_iff.1 h).1
theorem keeps {F : Nat → Prop} (h : PlAt W b l c) (hk : Keeps F W W') (hF : ¬ F b) : PlAt W' b l c := by
  unfold PlAt; rw [hk.block _ h.lt hF]; exact h
theorem sees (h : PlAt W b l c) (hs : Sees W W') : PlAt W' b l c := h.keeps (Keeps.of_sees (F := fun _ => False) hs) (fun h => h)
theorem cells (h : PlAt W b l c) : W.cell? ⟨b, 0, none⟩ = some (.int .i64 l) ∧ W.cell? ⟨b, 1, none⟩ = some (.int .i64 c) := by
  rw [cell_of_row _ _ _ _ _ _ h, cell_of_row _ _ _ _ _ _ h]; exact ⟨rfl, rfl⟩
end PlAt
/-- A match is stored. -/
def put4 (W : World) (b : Nat) (x : Mt) : World := (((W.setCell ⟨b, 0, none⟩ (.int .i64 x.l0)).setCell ⟨b, 1, none⟩ (.int .i64 x.c0)).setCell ⟨b, 2, none⟩ (.int .i64 x.l1)).setCell ⟨b, 3, none⟩ (.int .i64 x.c1)
theorem put4_keeps {F : Nat → Prop} {W0 W : World} {b : Nat} (hk : Keeps F W0 W) (hb : W0.heap.size ≤ b ∨ F b) (x : Mt) : Keeps F W0 (put4 W b x) := by
  have hF : ∀ {U : World} {i : Nat} {v : Value}, Keeps F W0 U → Keeps F W0 (U.setCell ⟨b, i, none⟩ v) := by
    intro U i v hU
    rcases hb with h | h
    · exact hU.trans' (Keeps.setCell (F := fun y => y = b) (Keeps.refl _ U) (p := ⟨b, i, none⟩) (fun _ => rfl) v) (fun c hc e => by omega)
    · exact hU.setCell (p := ⟨b, i, none⟩) (fun _ => h) v
  exact hF (hF (hF (hF hk)))
theorem sees_put4 {w W : World} {b : Nat} (h : Sees w W) (hb : w.heap.size ≤ b) (x : Mt) : Sees w (put4 W b x) := (put4_keeps (F := fun _ => False) (Keeps.of_sees h) (.inl hb) x).sees_end (fun _ _ h => h)
section
variable {w : World} {a : Option Addr} {n cp : Nat} {ls : List Ln} {first : Int} {p : ByteArray}
/-- Which match is kept, if none has been behind the place. -/
def keptM (ms : List Mt) (j : Nat) : Mt := if j = 0 then zeroMt else ms.headD zeroMt
def keptE (j : Nat) : Int := if j = 0 then 9 else 0
theorem foR_zero {ls : List Ln} {first : Int} {p : ByteArray} {l c : Int} (h : foR ls first p l c = 0) : ckR ls first p = 0 := by
  unfold foR at h
  split at h
  · assumption
  · cases h
theorem nextR_of {ms : List Mt} {j : Nat} {x : Mt} {l c : Int} (hx : ms[j]? = some x) (hb : x.beh l c = true) (hn : ∀ i y, i < j → ms[i]? = some y → y.beh l c = false) : nextR ms l c = x ∧ noneE ms = 0 := by
  cases ms with
  | nil => cases hx
  | cons d r => exact ⟨nextD_at hx hb hn, rfl⟩
theorem nextR_none {ms : List Mt} {l c : Int} (hn : ∀ i y, i < ms.length → ms[i]? = some y → y.beh l c = false) : nextR ms l c = keptM ms ms.length ∧ noneE ms = keptE ms.length := by
  cases ms with
  | nil => exact ⟨rfl, rfl⟩
  | cons d r =>
    refine ⟨?_, rfl⟩
    show nextD d l c (d :: r) = d
    refine nextD_none fun m hm => ?_
    obtain ⟨i, hi, e⟩ := List.mem_iff_getElem.1 hm
    exact hn i m hi (by rw [List.getElem?_eq_getElem hi, e])
end
end Go.Proofs.YtooiiefipdjbjaaDoor

namespace Go.Proofs.YtooiiefipdjbjaaDoor
set_option linter.unusedVariables false
set_option linter.unusedSimpArgs false
open Go.RowKit Go.Shelf
attribute [local go_sem] Oper.semAt_some

/-- The last match before a place; the last match. -/
def pvO (l c : Int) (ms : List Mt) : Option Mt := (ms.filter (·.ahe l c)).getLast?
theorem pvO_yes {l c : Int} {ms : List Mt} {x : Mt} (h : x.ahe l c = true) : pvO l c (ms ++ [x]) = some x := by
  unfold pvO; rw [List.filter_append, show [x].filter (fun y => y.ahe l c) = [x] by simp [h]]; simp
theorem pvO_no {l c : Int} {ms : List Mt} {x : Mt} (h : x.ahe l c = false) : pvO l c (ms ++ [x]) = pvO l c ms := by
  unfold pvO; rw [List.filter_append, show [x].filter (fun y => y.ahe l c) = [] by simp [h]]; simp
theorem prevD_pvO (l c : Int) : ∀ (d : Mt) (ms : List Mt), prevD l c d ms = (pvO l c ms).getD d
  | d, [] => rfl
  | d, m :: ms => by
    rw [prevD, prevD_pvO]
    unfold pvO
    cases h : m.ahe l c
    · rw [show (m :: ms).filter (fun x => x.ahe l c) = ms.filter (fun x => x.ahe l c) by simp [h]]; rfl
    · rw [show (m :: ms).filter (fun x => x.ahe l c) = m :: ms.filter (fun x => x.ahe l c) by simp [h], if_pos rfl]
      generalize List.filter (fun x => x.ahe l c) ms = ys
      cases ys with
      | nil => rfl
      | cons y ys => rw [List.getLast?_cons_cons, List.getLast?_cons]; rfl
theorem prevR_eq (l c : Int) (ms : List Mt) : prevR ms l c = (pvO l c ms).getD (ms.getLast?.getD zeroMt) := by
  unfold prevR
  cases h : ms.getLast? with
  | none => have : ms = [] := List.getLast?_eq_none_iff.1 h; subst this; rfl
  | some d => exact prevD_pvO l c d ms
def putA (W : World) (o : Nat) (x : Mt) : World := (put4 W o x).setCell ⟨o + 3, 0, none⟩ (.bool true)
def putB (W : World) (o : Nat) (x : Mt) : World := (put4 W (o + 1) x).setCell ⟨o + 2, 0, none⟩ (.int .i64 0)
theorem putA_keeps (W : World) (o : Nat) (x : Mt) : Keeps (fun b => b = o ∨ b = o + 3) W (putA W o x) := (put4_keeps (Keeps.refl _ W) (.inr (.inl rfl)) x).setCell (p := ⟨o + 3, 0, none⟩) (fun _ => .inr rfl) _
theorem putB_keeps (W : World) (o : Nat) (x : Mt) : Keeps (fun b => b = o + 1 ∨ b = o + 2) W (putB W o x) := (put4_keeps (Keeps.refl _ W) (.inr (.inl rfl)) x).setCell (p := ⟨o + 2, 0, none⟩) (fun _ => .inr rfl) _
section
variable {w W : World} {b0 o B : Nat} {l c : Int} {m : Option Mt} {y : Mt} {e : Int} {sv : Value} {first : Int} {p : ByteArray} {fold : Bool}
end
section
variable {w : World} {a : Option Addr} {n cp : Nat} {ls : List Ln} {first : Int} {p : ByteArray}
end
end Go.Proofs.YtooiiefipdjbjaaDoor
