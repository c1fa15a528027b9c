/- SearchSteps (42): its walk. The tables hold what the program's text lays. -/
import Derived.Test.YtfdolhppbimbmaaDoorSsA
namespace Go.Proofs.YtfdolhppbimbmaaDoor
set_option linter.unusedVariables false
set_option linter.unusedSimpArgs false
open Go.RowKit Go.Shelf
attribute [local go_sem] Oper.semAt_some

section
variable {ls : List Ln} {first : Int} {p : ByteArray} {fold : Bool} {l c k : Int}
theorem nxt_err (h : foR ls first p l c = k) (hk : k ≠ 0) : nxt ls first p fold l c = (⟨0, 0, 0, 0⟩, k) := by unfold nxt; rw [h, if_neg hk]; rfl
theorem prv_err (h : foR ls first p l c = k) (hk : k ≠ 0) : prv ls first p fold l c = (⟨0, 0, 0, 0⟩, k) := by unfold prv; rw [h, if_neg hk]; rfl
theorem nxt_in (h : foR ls first p l c = 0) : nxt ls first p fold l c = (nextR (allM ls first p.data.toList fold) l c, noneE (allM ls first p.data.toList fold)) := by unfold nxt; rw [if_pos h]
theorem prv_in (h : foR ls first p l c = 0) : prv ls first p fold l c = (prevR (allM ls first p.data.toList fold) l c, noneE (allM ls first p.data.toList fold)) := by unfold prv; rw [if_pos h]
theorem foR_two (h : ckR ls first p = 2) : foR ls first p l c = 2 := by unfold foR; rw [if_neg (by omega)]
end
theorem pl_put {W : World} {b : Nat} {l0 c0 : Int} (h : PlAt W b l0 c0) (l c : Int) : PlAt ((W.setCell ⟨b, 0, none⟩ (.int .i64 l)).setCell ⟨b, 1, none⟩ (.int .i64 c)) b l c := by
  have h1 := heap_setCell_same W b 0 _ _ (.int .i64 l) h
  exact heap_setCell_same _ b 1 _ _ (.int .i64 c) h1
theorem sees_two {w W : World} {b : Nat} (h : Sees w W) (hb : w.heap.size ≤ b) (x y : Value) : Sees w ((W.setCell ⟨b, 0, none⟩ x).setCell ⟨b, 1, none⟩ y) := (h.setCell (p := ⟨b, 0, none⟩) hb _).setCell (p := ⟨b, 1, none⟩) hb _
theorem after_at {l c l' c' : Int} {B : Bool} (h : befB l' c' l c = B) (w : World) : Calls Tryd.prog 18 #[.agg #[.int .i64 l, .int .i64 c], .agg #[.int .i64 l', .int .i64 c']] w fun e w' => e = .returned (.bool B) ∧ Sees w w' := by
  have q := after_sees l c l' c' w
  rw [h] at q
  exact q
def stM (W : World) (b : Nat) (x : Mt) : World := W.setRow b [Value.int .i64 x.l0, .int .i64 x.c0, .int .i64 x.l1, .int .i64 x.c1].toArray
theorem run_storeMt {W : World} {b : Nat} {m : Mt} (h : MtAt W b m) (x : Mt) : (Instr.storeAt 33 (.pointer (some ⟨b, 0, none⟩)) (.agg #[.int .i64 x.l0, .int .i64 x.c0, .int .i64 x.l1, .int .i64 x.c1])).run Tryd.prog W = .ok () (stM W b x) :=
  run_storeAt_row (P := Tryd.prog) (W := W) 33 b _ 33 [.int .i64 x.l0, .int .i64 x.c0, .int .i64 x.l1, .int .i64 x.c1] (fun _ => by kernel_rfl) h rfl (by intro v hv; simp only [List.mem_cons, List.not_mem_nil, or_false] at hv; rcases hv with rfl | rfl | rfl | rfl <;> rfl)
theorem stM_at {W : World} {b : Nat} {m : Mt} (h : MtAt W b m) (x : Mt) : MtAt (stM W b x) b x := by
  unfold MtAt at *
  simp [stM, World.setRow, Array.getElem?_modify, h]
theorem stM_keeps (W : World) (b : Nat) (x : Mt) : Keeps (fun y => y = b) W (stM W b x) :=
  ⟨rfl, rfl, rfl, by simp [stM, World.setRow], fun y _ hne => setRow_other _ _ _ _ hne⟩
/-- What stands while a place's neighbours are looked for. -/
structure StI (w : World) (b14 b15 b16 : Nat) (l c : Int) (x y : Mt) (W : World) : Prop where
  p : PlAt W b14 l c
  n : MtAt W b15 x
  v : MtAt W b16 y
  s : Sees w W
structure StB (w : World) (b14 b15 b16 : Nat) : Prop where
  a : b14 < b15 ∧ b14 < b16 ∧ b15 ≠ b16
  b : w.heap.size ≤ b15 ∧ w.heap.size ≤ b16
section
variable {w W W' : World} {b14 b15 b16 : Nat} {l c : Int} {x y : Mt}
theorem StI.sees (h : StI w b14 b15 b16 l c x y W) (hs : Sees W W') : StI w b14 b15 b16 l c x y W' := ⟨h.p.sees hs, h.n.sees hs, h.v.sees hs, h.s.trans hs⟩
theorem StI.setN (h : StI w b14 b15 b16 l c x y W) (hb : StB w b14 b15 b16) (z : Mt) : StI w b14 b15 b16 l c z y (put4 W b15 z) := by
  have hk := put4_keeps (F := fun y => y = b15) (Keeps.refl _ W) (.inr rfl) z
  have := hb.a
  exact ⟨h.p.keeps hk (by omega), put4_at h.n z, h.v.keeps hk (by omega), sees_put4 h.s hb.b.1 z⟩
theorem StI.setV (h : StI w b14 b15 b16 l c x y W) (hb : StB w b14 b15 b16) (z : Mt) : StI w b14 b15 b16 l c x z (put4 W b16 z) := by
  have hk := put4_keeps (F := fun y => y = b16) (Keeps.refl _ W) (.inr rfl) z
  have := hb.a
  exact ⟨h.p.keeps hk (by omega), h.n.keeps hk (by omega), put4_at h.v z, sees_put4 h.s hb.b.2 z⟩
end
end Go.Proofs.YtfdolhppbimbmaaDoor
