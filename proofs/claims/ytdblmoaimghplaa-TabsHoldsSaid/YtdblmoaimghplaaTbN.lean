/- The methods of none and of a zero struct (20). No condition. -/
import Derived.Test.YtdblmoaimghplaaTbK
namespace Go.Proofs.Ytdblmoaimghplaa
set_option linter.unusedVariables false
set_option linter.unusedSimpArgs false
open Go.RowKit Go.Maps

/-- None, or a zero struct. -/
def NoS (W : World) (s : Option Addr) : Prop := s = none ∨ ∃ p, s = some ⟨p, 0, none⟩ ∧ W.heap[p]? = some (.cells #[i64 0, .map none] 53 (0, 0))
section
variable {w W : World} {s : Option Addr}
theorem NoS.sees (h : NoS w s) (hs : Sees w W) : NoS W s := by
  rcases h with h | ⟨p, h1, h2⟩
  · exact .inl h
  · exact .inr ⟨p, h1, by rw [hs.block p (Array.getElem?_eq_some_iff.1 h2).1, h2]⟩
theorem no_check (h : NoS w s) (col : Int) : Calls Try.prog 30 #[.pointer s, i64 col] w fun e w' => e = .returned (i64 1) ∧ w' = w := by
  rcases h with rfl | ⟨p, rfl, h2⟩
  · exact check_nil w col
  · exact check_zero w p (by rw [Go.cell_of_row w p 0 _ _ _ h2]; rfl) col
theorem no_set (h : NoS w s) (i : Int) : Calls Try.prog 15 #[.pointer s, i64 i] w fun e w' => e = .returned (i64 1) ∧ Sees w w' := by
  have hc := no_check h i
  have hr := Sees.refl w
  clear h
  go_enter Try.func15, Try.ntmps15
  go_wp2_with (go_at_call 30; refine hc.mono ?_)
  try (rintro e W ⟨rfl, rfl⟩; go_wp2)
  go_ret
  exact ⟨rfl, hr⟩
theorem no_clear (h : NoS w s) (i : Int) : Calls Try.prog 16 #[.pointer s, i64 i] w fun e w' => e = .returned (i64 1) ∧ Sees w w' := by
  have hc := no_check h i
  have hr := Sees.refl w
  clear h
  go_enter Try.func16, Try.ntmps16
  go_wp2_with (go_at_call 30; refine hc.mono ?_)
  try (rintro e W ⟨rfl, rfl⟩; go_wp2)
  go_ret
  exact ⟨rfl, hr⟩
theorem no_reset (h : NoS w s) : Calls Try.prog 17 #[.pointer s] w fun e w' => e = .returned (i64 1) ∧ Sees w w' := by
  have hc := no_check h 0
  have hr := Sees.refl w
  clear h
  go_enter Try.func17, Try.ntmps17
  go_wp2_with (go_at_call 30; refine hc.mono ?_)
  try (rintro e W ⟨rfl, rfl⟩; go_wp2)
  go_ret
  exact ⟨rfl, hr⟩
theorem no_default (h : NoS w s) : Calls Try.prog 18 #[.pointer s] w fun e w' => e = .returned (i64 1) ∧ Sees w w' := by
  have hc := no_reset h
  clear h
  go_enter Try.func18, Try.ntmps18
  go_wp2_with fail
  refine hc.mono ?_
  rintro e W1 ⟨rfl, s1⟩
  go_wp2
  go_ret
  exact ⟨rfl, s1⟩
theorem no_walk (h : NoS w s) (a b c d : Int) : Calls Try.prog 33 #[.pointer s, i64 a, i64 b, i64 c, i64 d] w fun e w' => e = .returned (.tuple #[i64 0, i64 1]) ∧ w' = w := by
  have hc := no_check h a
  clear h
  go_enter Try.func33, Try.ntmps33
  go_wp2_with (go_at_call 30; refine hc.mono ?_)
  try (rintro e W ⟨rfl, rfl⟩; go_wp2)
  go_ret2
  exact ⟨rfl, rfl⟩
theorem no_next (h : NoS w s) (a b : Int) : Calls Try.prog 20 #[.pointer s, i64 a, i64 b] w fun e w' => e = .returned (.tuple #[i64 0, i64 1]) ∧ w' = w := by
  have hk := no_walk h a b 1 (-1)
  rcases h with rfl | ⟨p, rfl, h2⟩
  · clear hk
    go_enter Try.func20, Try.ntmps20
    go_wp2
    go_ret2
    exact ⟨rfl, rfl⟩
  · have q0 : w.cell? ⟨p, 0, none⟩ = some (i64 0) := by rw [Go.cell_of_row w p 0 _ _ _ h2]; rfl
    clear h2
    go_enter Try.func20, Try.ntmps20
    go_wp2_with (go_at_call 33; refine hk.mono ?_)
    try (rintro e W ⟨rfl, rfl⟩; go_wp2)
    go_ret2
    exact ⟨rfl, rfl⟩
theorem no_nexts (h : NoS w s) (a b : Int) : Calls Try.prog 24 #[.pointer s, i64 a, i64 b, i64 0, i64 1] w fun e w' => e = .returned (.bool true) ∧ Sees w w' :=
  (nexts_from _ _ _ _ _ (no_next h a b)).mono fun e w' h' => ⟨h'.1, by rw [h'.2]; exact Sees.refl w⟩
theorem no_prevs (h : NoS w s) (a b : Int) : Calls Try.prog 25 #[.pointer s, i64 a, i64 b, i64 0, i64 1] w fun e w' => e = .returned (.bool true) ∧ Sees w w' :=
  (prevs_from _ _ _ _ _ (prev_from _ _ _ _ _ (no_walk h a b _ _))).mono fun e w' h' => ⟨h'.1, by rw [h'.2]; exact Sees.refl w⟩
theorem no_resize (h : NoS w s) (c : Int) : Calls Try.prog 22 #[.pointer s, i64 c] w fun e w' => e = .returned (i64 1) ∧ Sees w w' := by
  have hs0 : Sees w (w.alloc (.cells #[i64 c] 3)) := (Sees.refl w).alloc _
  have hc := no_check (h.sees hs0) 0
  clear h
  go_enter Try.func22, Try.ntmps22
  go_wp2_with (go_at_call 30; refine hc.mono ?_)
  try (rintro e W ⟨rfl, rfl⟩; go_wp2)
  go_ret
  exact ⟨rfl, hs0⟩
theorem no_cols (h : NoS w s) : Calls Try.prog 12 #[.pointer s] w fun e w' => e = .returned (i64 0) ∧ Sees w w' := by
  have hr := Sees.refl w
  rcases h with rfl | ⟨p, rfl, h2⟩
  · go_enter Try.func12, Try.ntmps12
    go_wp2
    go_ret
    exact ⟨rfl, hr⟩
  · have q0 : w.cell? ⟨p, 0, none⟩ = some (i64 0) := by rw [Go.cell_of_row w p 0 _ _ _ h2]; rfl
    clear h2
    go_enter Try.func12, Try.ntmps12
    go_wp2
    go_ret
    exact ⟨rfl, hr⟩
theorem no_list (h : NoS w s) : Calls Try.prog 19 #[.pointer s] w fun e w' => e = .returned (.slice none 0 0) ∧ Sees w w' := by
  rcases h with rfl | ⟨p, rfl, h2⟩
  · exact list_nil w
  · exact list_zero w p (by rw [Go.cell_of_row w p 1 _ _ _ h2]; rfl)
theorem no_copy (h : NoS w s) : Calls Try.prog 23 #[.pointer s] w fun e w' => e = .returned (.pointer none) ∧ Sees w w' := by
  have hc := no_check h 0
  have hr := Sees.refl w
  clear h
  go_enter Try.func23, Try.ntmps23
  go_wp2_with (go_at_call 30; refine hc.mono ?_)
  try (rintro e W ⟨rfl, rfl⟩; go_wp2)
  go_ret
  exact ⟨rfl, hr⟩
end
end Go.Proofs.Ytdblmoaimghplaa
