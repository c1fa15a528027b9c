/- The helpers of the statements of 20: listed, nexts, prevs; the examples of the chapter. No condition. -/
import Derived.Test.YtdblmoaimghplaaTbR
import Derived.BigQuiet
namespace Go.Proofs.Ytdblmoaimghplaa
set_option linter.unusedVariables false
set_option linter.unusedSimpArgs false
open Go.RowKit Go.Maps

/-- A slice reads as numbers. -/
def IntsRd (W : World) (v : Value) (xs : List Int) : Prop := ∃ ao c, v = .slice ao xs.length c ∧ xs.length ≤ c ∧ ∀ i, i < xs.length → ∃ b o, ao = some ⟨b, o, none⟩ ∧ W.cell? ⟨b, o + i, none⟩ = some (i64 (xs.getD i 0))
theorem IntsRd.sees {W W' : World} {v : Value} {xs : List Int} (h : IntsRd W v xs) (hs : Sees W W') : IntsRd W' v xs := by
  obtain ⟨ao, c, h1, h2, h3⟩ := h
  exact ⟨ao, c, h1, h2, fun i hi => by obtain ⟨b, o, e1, e2⟩ := h3 i hi; exact ⟨b, o, e1, hs.cell e2⟩⟩
theorem IntsRd.of_row {W : World} {base : Nat} {v : Value} {xs : List Int} (h : W.ownsRow base 3 1 v xs.length (xs.map i64)) : IntsRd W v xs := by
  obtain ⟨h1, h2⟩ := h
  have hh : W.ownsRow base 3 1 v xs.length (xs.map i64) := ⟨h1, h2⟩
  rcases h2 with ⟨rfl, h0⟩ | ⟨g, cap, cur, rfl, _, _, hc, _⟩
  · exact ⟨none, 0, by rw [h0], by omega, fun i hi => by omega⟩
  · refine ⟨some ⟨g, 0, none⟩, cap, rfl, hc, fun i hi => ⟨g, 0, rfl, ?_⟩⟩
    rw [Nat.zero_add, hh.cellAt i (by omega), List.getElem?_map, List.getD_eq_getElem?_getD, List.getElem?_eq_getElem hi]
    rfl
theorem ints_new (W : World) (xs : List Int) : IntsRd (W.alloc (.cells (xs.map i64).toArray 3)) (.slice (some ⟨W.heap.size, 0, none⟩) xs.length xs.length) xs := by
  refine ⟨some ⟨W.heap.size, 0, none⟩, xs.length, rfl, Nat.le_refl _, fun i hi => ⟨W.heap.size, 0, rfl, ?_⟩⟩
  rw [Nat.zero_add, Go.cell_of_row _ W.heap.size i _ _ _ (heap_alloc_new W _), List.getElem?_toArray, List.getElem?_map, List.getD_eq_getElem?_getD, List.getElem?_eq_getElem hi]
  rfl
theorem ints_none (W : World) : IntsRd W (.slice none 0 0) [] := ⟨none, 0, rfl, Nat.le_refl _, fun i hi => by simp at hi⟩
section
variable {w : World} {p mb : Nat} {L : List Bool}
set_option maxHeartbeats 4000000 in
theorem listed_at (h : SpAt w p mb L) (v : Value) (xs : List Int) (hv : IntsRd w v xs) (he : stopsL L = xs) : Calls Try.prog 13 #[ptr p, v] w fun e w' => e = .returned (.bool true) ∧ Sees w w' := by
  have hc := list_at h
  rw [he] at hc
  have hn : xs.length ≤ 1000 := by rw [← he]; exact Nat.le_trans (stopsL_len L) h.2.2
  clear h he
  go_enter Try.func13, Try.ntmps13
  go_wp2_with fail
  refine hc.mono ?_
  rintro e W1 ⟨u, rfl, hu, s1⟩
  obtain ⟨a1, c1, rfl, hc1, hr1⟩ := IntsRd.of_row hu
  obtain ⟨a2, c2, rfl, hc2, hr2⟩ := hv.sees s1
  clear hv hu
  replace hr1 := Lib.hid hr1
  replace hr2 := Lib.hid hr2
  obtain ⟨n, hnn⟩ : ∃ n, n = xs.length := ⟨_, rfl⟩
  rw [← hnn] at hr1 hr2 hn hc1 hc2
  rw [← hnn]
  clear hnn
  go_wp2
  go_loopw [6] (fun x W => ∃ k : Nat, x = .int .i64 k ∧ k ≤ n ∧ RowKit.Hid (Sees W1 W)) (fun x _ => n - (vInt x).toNat)
  case atStart => exact ⟨0, rfl, by omega, Lib.hid (Sees.refl W1)⟩
  case round =>
    obtain ⟨k, rfl, hk, hS⟩ := hrel
    by_cases hlt : k < n
    · obtain ⟨b1, o1, rfl, x1⟩ := hr1.out k hlt
      obtain ⟨b2, o2, rfl, x2⟩ := hr2.out k hlt
      replace x1 := hS.out.cell x1
      replace x2 := hS.out.cell x2
      go_wp2_with fail
      go_quiet (fail)
      go_wp2
      go_roundw
      case rel => exact ⟨k + 1, by go_num, by omega, Lib.hid (below_drewN hS.out _)⟩
      case measure => simp [vInt]; omega
    · obtain rfl : k = n := by omega
      go_wp2
      go_ret
      exact ⟨rfl, s1.trans hS.out⟩
theorem nexts_from (s : Value) (col n x y : Int) (hk : Calls Try.prog 20 #[s, i64 col, i64 n] w fun e w' => e = .returned (.tuple #[i64 x, i64 y]) ∧ w' = w) :
    Calls Try.prog 24 #[s, i64 col, i64 n, i64 x, i64 y] w fun e w' => e = .returned (.bool true) ∧ w' = w := by
  go_enter Try.func24, Try.ntmps24
  go_wp2_with (go_at_call 20; refine hk.mono ?_)
  try (rintro e W ⟨rfl, rfl⟩; go_wp2)
  go_ret
  exact ⟨rfl, rfl⟩
theorem prevs_from (s : Value) (col n x y : Int) (hk : Calls Try.prog 21 #[s, i64 col, i64 n] w fun e w' => e = .returned (.tuple #[i64 x, i64 y]) ∧ w' = w) :
    Calls Try.prog 25 #[s, i64 col, i64 n, i64 x, i64 y] w fun e w' => e = .returned (.bool true) ∧ w' = w := by
  go_enter Try.func25, Try.ntmps25
  go_wp2_with (go_at_call 21; refine hk.mono ?_)
  try (rintro e W ⟨rfl, rfl⟩; go_wp2)
  go_ret
  exact ⟨rfl, rfl⟩
theorem nexts_at (h : SpAt w p mb L) (col n : Nat) (x : Nat) (hc : col < L.length) (hn : n ≤ 9223372036854775807) (hx : up L n col = x) : Calls Try.prog 24 #[ptr p, i64 col, i64 n, i64 x, i64 0] w fun e w' => e = .returned (.bool true) ∧ w' = w := by
  subst hx
  exact nexts_from _ _ _ _ _ (next_from h _ _ _ _ (walk_up h n col hc hn))
theorem prevs_at (h : SpAt w p mb L) (col n : Nat) (x : Nat) (hc : col < L.length) (hn : n ≤ 9223372036854775807) (hx : dn L n col = x) : Calls Try.prog 25 #[ptr p, i64 col, i64 n, i64 x, i64 0] w fun e w' => e = .returned (.bool true) ∧ w' = w := by
  subst hx
  exact prevs_from _ _ _ _ _ (prev_from _ _ _ _ _ (walk_dn h n col hc hn))
theorem nexts_out (h : SpAt w p mb L) (col n : Int) (hc : ¬ (0 ≤ col ∧ col < L.length)) : Calls Try.prog 24 #[ptr p, i64 col, i64 n, i64 0, i64 3] w fun e w' => e = .returned (.bool true) ∧ w' = w :=
  nexts_from _ _ _ _ _ (next_from h _ _ _ _ (walk_out h col n _ _ hc))
theorem prevs_out (h : SpAt w p mb L) (col n : Int) (hc : ¬ (0 ≤ col ∧ col < L.length)) : Calls Try.prog 25 #[ptr p, i64 col, i64 n, i64 0, i64 3] w fun e w' => e = .returned (.bool true) ∧ w' = w :=
  prevs_from _ _ _ _ _ (prev_from _ _ _ _ _ (walk_out h col n _ _ hc))
theorem nexts_neg (h : SpAt w p mb L) (col n : Int) (hc : 0 ≤ col ∧ col < L.length) (hn : n < 0) : Calls Try.prog 24 #[ptr p, i64 col, i64 n, i64 0, i64 2] w fun e w' => e = .returned (.bool true) ∧ w' = w :=
  nexts_from _ _ _ _ _ (next_from h _ _ _ _ (walk_neg h col n _ _ hc hn))
theorem prevs_neg (h : SpAt w p mb L) (col n : Int) (hc : 0 ≤ col ∧ col < L.length) (hn : n < 0) : Calls Try.prog 25 #[ptr p, i64 col, i64 n, i64 0, i64 2] w fun e w' => e = .returned (.bool true) ∧ w' = w :=
  prevs_from _ _ _ _ _ (prev_from _ _ _ _ _ (walk_neg h col n _ _ hc hn))
end
set_option maxHeartbeats 8000000 in
set_option maxRecDepth 100000 in
theorem known20 (w : World) : Calls Try.prog 8 #[] w fun e w' => e = .returned (.bool true) ∧ Sees w w' := by
  go_enter Try.func8, Try.ntmps8
  go_wp2_with fail
  refine (new_ok w 30 (by decide)).mono ?_
  rintro e W ⟨p, mb, rfl, hp, hm, h, s⟩
  have HS := Lib.hid h
  have HK := Lib.hid (Keeps.of_sees (F := fun b => b = p ∨ b = mb) s)
  clear h s
  go_wp2_with fail
  refine (listed_at (L := (defL 30)) (HS.out.sees ((Sees.refl _).alloc _)) _ [8, 16, 24] (ints_new _ [8, 16, 24]) (by decide +kernel)).mono ?_
  rintro e W ⟨rfl, s⟩
  replace HS := Lib.hid ((HS.out.sees ((Sees.refl _).alloc _)).sees s)
  replace HK := Lib.hid ((HK.out.alloc _).trans (Keeps.of_sees s))
  clear s
  go_wp2_with fail
  refine (nexts_at (L := (defL 30)) HS.out 0 1 8 (by decide +kernel) (by decide) (by decide +kernel)).mono ?_
  rintro e W ⟨rfl, rfl⟩
  go_wp2_with fail
  refine (nexts_at (L := (defL 30)) HS.out 8 1 16 (by decide +kernel) (by decide) (by decide +kernel)).mono ?_
  rintro e W ⟨rfl, rfl⟩
  go_wp2_with fail
  refine (nexts_at (L := (defL 30)) HS.out 8 2 24 (by decide +kernel) (by decide) (by decide +kernel)).mono ?_
  rintro e W ⟨rfl, rfl⟩
  go_wp2_with fail
  refine (nexts_at (L := (defL 30)) HS.out 25 1 29 (by decide +kernel) (by decide) (by decide +kernel)).mono ?_
  rintro e W ⟨rfl, rfl⟩
  go_wp2_with fail
  refine (nexts_at (L := (defL 30)) HS.out 3 0 3 (by decide +kernel) (by decide) (by decide +kernel)).mono ?_
  rintro e W ⟨rfl, rfl⟩
  go_wp2_with fail
  refine (prevs_at (L := (defL 30)) HS.out 9 1 8 (by decide +kernel) (by decide) (by decide +kernel)).mono ?_
  rintro e W ⟨rfl, rfl⟩
  go_wp2_with fail
  refine (prevs_at (L := (defL 30)) HS.out 8 1 0 (by decide +kernel) (by decide) (by decide +kernel)).mono ?_
  rintro e W ⟨rfl, rfl⟩
  go_wp2_with fail
  refine (prevs_at (L := (defL 30)) HS.out 29 9 0 (by decide +kernel) (by decide) (by decide +kernel)).mono ?_
  rintro e W ⟨rfl, rfl⟩
  go_wp2_with fail
  refine (set_in (L := (defL 30)) HS.out 3 (by decide +kernel)).mono ?_
  rintro e W ⟨rfl, h, k⟩
  replace HS := Lib.hid h
  replace HK := Lib.hid (HK.out.trans (k.mono fun b _ e => .inr e))
  clear h k
  go_wp2_with fail
  refine (set_in (L := ((defL 30).set 3 true)) HS.out 0 (by decide +kernel)).mono ?_
  rintro e W ⟨rfl, h, k⟩
  replace HS := Lib.hid h
  replace HK := Lib.hid (HK.out.trans (k.mono fun b _ e => .inr e))
  clear h k
  go_wp2_with fail
  refine (clear_in (L := (((defL 30).set 3 true).set 0 true)) HS.out 16 (by decide +kernel)).mono ?_
  rintro e W ⟨rfl, h, k⟩
  replace HS := Lib.hid h
  replace HK := Lib.hid (HK.out.trans (k.mono fun b _ e => .inr e))
  clear h k
  go_wp2_with fail
  refine (listed_at (L := ((((defL 30).set 3 true).set 0 true).set 16 false)) (HS.out.sees ((Sees.refl _).alloc _)) _ [0, 3, 8, 24] (ints_new _ [0, 3, 8, 24]) (by decide +kernel)).mono ?_
  rintro e W ⟨rfl, s⟩
  replace HS := Lib.hid ((HS.out.sees ((Sees.refl _).alloc _)).sees s)
  replace HK := Lib.hid ((HK.out.alloc _).trans (Keeps.of_sees s))
  clear s
  go_wp2_with fail
  refine (prevs_at (L := ((((defL 30).set 3 true).set 0 true).set 16 false)) HS.out 3 1 0 (by decide +kernel) (by decide) (by decide +kernel)).mono ?_
  rintro e W ⟨rfl, rfl⟩
  go_wp2_with fail
  refine (resize_ok (L := ((((defL 30).set 3 true).set 0 true).set 16 false)) HS.out 12 (by decide)).mono ?_
  rintro e W ⟨rfl, h, k⟩
  replace HS := Lib.hid h
  replace HK := Lib.hid (HK.out.trans k)
  clear h k
  go_wp2_with fail
  refine (listed_at (L := (resL ((((defL 30).set 3 true).set 0 true).set 16 false) 12)) (HS.out.sees ((Sees.refl _).alloc _)) _ [0, 3, 8] (ints_new _ [0, 3, 8]) (by decide +kernel)).mono ?_
  rintro e W ⟨rfl, s⟩
  replace HS := Lib.hid ((HS.out.sees ((Sees.refl _).alloc _)).sees s)
  replace HK := Lib.hid ((HK.out.alloc _).trans (Keeps.of_sees s))
  clear s
  go_wp2_with fail
  refine (resize_ok (L := (resL ((((defL 30).set 3 true).set 0 true).set 16 false) 12)) HS.out 20 (by decide)).mono ?_
  rintro e W ⟨rfl, h, k⟩
  replace HS := Lib.hid h
  replace HK := Lib.hid (HK.out.trans k)
  clear h k
  go_wp2_with fail
  refine (listed_at (L := (resL (resL ((((defL 30).set 3 true).set 0 true).set 16 false) 12) 20)) (HS.out.sees ((Sees.refl _).alloc _)) _ [0, 3, 8, 16] (ints_new _ [0, 3, 8, 16]) (by decide +kernel)).mono ?_
  rintro e W ⟨rfl, s⟩
  replace HS := Lib.hid ((HS.out.sees ((Sees.refl _).alloc _)).sees s)
  replace HK := Lib.hid ((HK.out.alloc _).trans (Keeps.of_sees s))
  clear s
  go_wp2_with fail
  refine (reset_at (L := (resL (resL ((((defL 30).set 3 true).set 0 true).set 16 false) 12) 20)) HS.out).mono ?_
  rintro e W ⟨rfl, h, k⟩
  replace HS := Lib.hid h
  replace HK := Lib.hid (HK.out.trans (k.mono fun b _ e => .inr e))
  clear h k
  go_wp2_with fail
  refine (listed_at (L := (List.replicate (resL (resL ((((defL 30).set 3 true).set 0 true).set 16 false) 12) 20).length false)) HS.out _ [] (ints_none _) (by decide +kernel)).mono ?_
  rintro e W ⟨rfl, s⟩
  replace HS := Lib.hid (HS.out.sees s)
  replace HK := Lib.hid (HK.out.trans (Keeps.of_sees s))
  clear s
  go_wp2_with fail
  refine (nexts_at (L := (List.replicate (resL (resL ((((defL 30).set 3 true).set 0 true).set 16 false) 12) 20).length false)) HS.out 0 5 19 (by decide +kernel) (by decide) (by decide +kernel)).mono ?_
  rintro e W ⟨rfl, rfl⟩
  go_wp2_with fail
  refine (default_at (L := (List.replicate (resL (resL ((((defL 30).set 3 true).set 0 true).set 16 false) 12) 20).length false)) HS.out).mono ?_
  rintro e W ⟨rfl, h, k⟩
  replace HS := Lib.hid h
  replace HK := Lib.hid (HK.out.trans (k.mono fun b _ e => .inr e))
  clear h k
  go_wp2_with fail
  refine (listed_at (L := (defL (List.replicate (resL (resL ((((defL 30).set 3 true).set 0 true).set 16 false) 12) 20).length false).length)) (HS.out.sees ((Sees.refl _).alloc _)) _ [8, 16] (ints_new _ [8, 16]) (by decide +kernel)).mono ?_
  rintro e W ⟨rfl, s⟩
  replace HS := Lib.hid ((HS.out.sees ((Sees.refl _).alloc _)).sees s)
  replace HK := Lib.hid ((HK.out.alloc _).trans (Keeps.of_sees s))
  clear s
  go_wp2_with fail
  refine (set_out (L := (defL (List.replicate (resL (resL ((((defL 30).set 3 true).set 0 true).set 16 false) 12) 20).length false).length)) HS.out 20 (by decide +kernel)).mono ?_
  rintro e W ⟨rfl, rfl⟩
  go_wp2_with fail
  refine (nexts_out (L := (defL (List.replicate (resL (resL ((((defL 30).set 3 true).set 0 true).set 16 false) 12) 20).length false).length)) HS.out 20 1 (by decide +kernel)).mono ?_
  rintro e W ⟨rfl, rfl⟩
  go_wp2_with fail
  refine (nexts_neg (L := (defL (List.replicate (resL (resL ((((defL 30).set 3 true).set 0 true).set 16 false) 12) 20).length false).length)) HS.out 0 (-1) (by decide +kernel) (by decide)).mono ?_
  rintro e W ⟨rfl, rfl⟩
  go_wp2_with fail
  refine (new_bad _ 0 (by decide)).mono ?_
  rintro e W ⟨rfl, rfl⟩
  go_wp2
  go_ret
  exact ⟨rfl, HK.out.sees_end (fun b hb e => by rcases e with rfl | rfl <;> omega)⟩
end Go.Proofs.Ytdblmoaimghplaa
