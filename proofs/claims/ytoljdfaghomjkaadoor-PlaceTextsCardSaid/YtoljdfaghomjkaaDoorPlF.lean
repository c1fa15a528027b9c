/- Distances, the order of two places, and what the statements ask of each function. No condition. -/
import Derived.Test.YtoljdfaghomjkaaDoorPlE
namespace Go.Proofs.YtoljdfaghomjkaaDoor
set_option linter.unusedVariables false
set_option linter.unusedSimpArgs false
open Go.RowKit

/-- How many cells are between two places, and the error. -/
def diR (l c m d cols : Int) : Int × Int := if inB l c cols = true ∧ inB m d cols = true then ((m - l) * cols + d - c, 0) else (0, 2)
theorem mul_both {x n : Int} (hx : -1099511627776 ≤ x ∧ x ≤ 1099511627776) (hn : 1 ≤ n ∧ n ≤ 1000) : -1099511627776000 ≤ x * n ∧ x * n ≤ 1099511627776000 := by
  have h1 : x * n ≤ 1099511627776 * n := Int.mul_le_mul_of_nonneg_right hx.2 (by omega)
  have h2 : -1099511627776 * n ≤ x * n := Int.mul_le_mul_of_nonneg_right hx.1 (by omega)
  omega
set_option maxHeartbeats 2000000 in
theorem distance_any (l c m d cols : Int) (w : World) :
    Calls Tryd.prog 21 #[pl l c, pl m d, .int .i64 cols] w fun e w' => e = .returned (.tuple #[.int .i64 (diR l c m d cols).1, .int .i64 (diR l c m d cols).2]) ∧ Sees w w' := by
  have hw := Sees.refl w
  obtain ⟨r, hr⟩ : ∃ r, r = diR l c m d cols := ⟨_, rfl⟩
  rw [← hr]
  unfold diR at hr
  go_enter Tryd.func21, Tryd.ntmps21
  go_wp2_with fail
  refine (in_any l c cols _).mono ?_
  rintro e w1 ⟨rfl, s1⟩
  have hS := ((hw.alloc _).alloc _).trans s1
  have R := ((PlAt.new w l c).sees ((Sees.refl _).alloc _)).sees s1
  have T := (PlAt.new (w.alloc (.cells #[.int .i64 l, .int .i64 c] 23)) m d).sees s1
  rw [show (w.alloc (.cells #[.int .i64 l, .int .i64 c] 23)).heap.size = w.heap.size + 1 by simp] at T
  clear s1
  by_cases h1 : inB l c cols = true
  · rw [h1]
    obtain ⟨k0, k1⟩ := T.cs
    go_wp2_with fail
    refine (in_any m d cols _).mono ?_
    rintro e w2 ⟨rfl, s2⟩
    have hS2 := hS.trans s2
    have R2 := R.sees s2
    have T2 := T.sees s2
    clear s2 R T k0 k1
    obtain ⟨d0, d1⟩ := R2.cs
    obtain ⟨d2, d3⟩ := T2.cs
    by_cases h2 : inB m d cols = true
    · rw [if_pos ⟨h1, h2⟩] at hr
      subst hr
      rw [h2]
      obtain ⟨a1, a2, a3, a4⟩ := in_ok h1
      obtain ⟨b1, b2, b3, b4⟩ := in_ok h2
      obtain ⟨m1, m2⟩ := mul_both (x := m - l) (n := cols) (by omega) a1
      go_wp2
      go_ret2
      exact ⟨rfl, hS2⟩
    · rw [if_neg fun h => h2 h.2] at hr
      subst hr
      have h2' : inB m d cols = false := by simpa using h2
      rw [h2']
      go_wp2
      go_ret2
      exact ⟨rfl, hS2⟩
  · rw [if_neg fun h => h1 h.1] at hr
    subst hr
    have h1' : inB l c cols = false := by simpa using h1
    rw [h1']
    go_wp2
    go_ret2
    exact ⟨rfl, hS⟩

/-- The nearest place, and the error. -/
def clR (l c first next cols : Int) : (Int × Int) × Int := if clBad first next cols = true then ((0, 0), 2) else ((clL l first next, clC l c first next cols), 0)
theorem clamp_r (l c first next cols : Int) (w : World) :
    Calls Tryd.prog 27 #[pl l c, .int .i64 first, .int .i64 next, .int .i64 cols] w fun e w' => e = .returned (.tuple #[pl (clR l c first next cols).1.1 (clR l c first next cols).1.2, .int .i64 (clR l c first next cols).2]) ∧ Sees w w' := by
  unfold clR
  by_cases h : clBad first next cols = true
  · rw [if_pos h]; exact clamp_bad l c first next cols h w
  · rw [if_neg h]; exact clamp_ok l c first next cols (by simpa using h) w
theorem rclamp_r (l c first next cols : Int) (w : World) :
    Calls Tryd.prog 15 #[pl l c, .int .i64 first, .int .i64 next, .int .i64 cols] w fun e w' => e = .returned (.tuple #[pl (clR l c first next cols).1.1 (clR l c first next cols).1.2, .int .i64 (clR l c first next cols).2]) ∧ Sees w w' := by
  unfold clR
  by_cases h : clBad first next cols = true
  · rw [if_pos h]; exact rclamp_bad l c first next cols h w
  · rw [if_neg h]; exact rclamp_ok l c first next cols (by simpa using h) w

theorem clamps_true (l c first next cols x y no : Int) (h : clR l c first next cols = ((x, y), no)) (w : World) :
    Calls Tryd.prog 16 #[pl l c, .int .i64 first, .int .i64 next, .int .i64 cols, pl x y, .int .i64 no] w fun e w' => e = .returned (.bool true) ∧ Sees w w' := by
  have hw := Sees.refl w
  have hc := fun W => clamp_r l c first next cols W
  rw [h] at hc
  have H := Lib.hid hc
  clear hc
  have q1 : (x == x) = true := by simp
  have q2 : (y == y) = true := by simp
  have q3 : (no == no) = true := by simp
  go_enter Tryd.func16, Tryd.ntmps16
  go_wp2_with fail
  refine (H.out _).mono ?_
  rintro e w1 ⟨rfl, s1⟩
  have hS := ((hw.alloc _).alloc _).trans s1
  have T := (PlAt.new (w.alloc (.cells #[.int .i64 l, .int .i64 c] 23)) x y).sees s1
  rw [show (w.alloc (.cells #[.int .i64 l, .int .i64 c] 23)).heap.size = w.heap.size + 1 by simp] at T
  have hl := T.lt
  obtain ⟨d0, d1⟩ := T.cs
  clear s1 T
  go_wp2
  go_ret
  exact ⟨rfl, hS.alloc _⟩
theorem steps_true (l c n cols x y no : Int) (hn : I64 n) (h : stR l c n cols = ((x, y), no)) (w : World) :
    Calls Tryd.prog 18 #[pl l c, .int .i64 n, .int .i64 cols, pl x y, .int .i64 no] w fun e w' => e = .returned (.bool true) ∧ Sees w w' := by
  have hw := Sees.refl w
  have hc := fun W => step_any l c n cols hn W
  rw [h] at hc
  have H := Lib.hid hc
  clear hc
  have q1 : (x == x) = true := by simp
  have q2 : (y == y) = true := by simp
  have q3 : (no == no) = true := by simp
  go_enter Tryd.func18, Tryd.ntmps18
  go_wp2_with fail
  refine (H.out _).mono ?_
  rintro e w1 ⟨rfl, s1⟩
  have hS := ((hw.alloc _).alloc _).trans s1
  have T := (PlAt.new (w.alloc (.cells #[.int .i64 l, .int .i64 c] 23)) x y).sees s1
  rw [show (w.alloc (.cells #[.int .i64 l, .int .i64 c] 23)).heap.size = w.heap.size + 1 by simp] at T
  have hl := T.lt
  obtain ⟨d0, d1⟩ := T.cs
  clear s1 T
  go_wp2
  go_ret
  exact ⟨rfl, hS.alloc _⟩
theorem distance_true (l c m d cols x no : Int) (h : diR l c m d cols = (x, no)) (w : World) :
    Calls Tryd.prog 20 #[pl l c, pl m d, .int .i64 cols, .int .i64 x, .int .i64 no] w fun e w' => e = .returned (.bool true) ∧ Sees w w' := by
  have hw := Sees.refl w
  have hc := fun W => distance_any l c m d cols W
  rw [h] at hc
  have H := Lib.hid hc
  clear hc
  have q1 : (x == x) = true := by simp
  have q3 : (no == no) = true := by simp
  go_enter Tryd.func20, Tryd.ntmps20
  go_wp2_with fail
  refine (H.out _).mono ?_
  rintro e w1 ⟨rfl, s1⟩
  have hS := ((hw.alloc _).alloc _).trans s1
  clear s1
  go_wp2
  go_ret
  exact ⟨rfl, hS⟩
theorem text_true_ok (l c : Int) (hl : I64 l) (hc : I64 c) (h : vP l c = true) (s : ByteArray) (hs : s = txt l c) (w : World) (hst : Std w) :
    Calls Tryd.prog 22 #[pl l c, .string s, .int .i64 0] w fun e w' => e = .returned (.bool true) ∧ Sees w w' := by
  have hw := Sees.refl w
  subst hs
  go_enter Tryd.func22, Tryd.ntmps22
  go_wp2_with fail
  refine (text_ok l c hl hc h _ (hst.sees (hw.alloc _))).mono ?_
  rintro e w1 ⟨rfl, s1⟩
  have hS := (hw.alloc _).trans s1
  clear s1
  go_wp2
  go_ret
  exact ⟨rfl, hS⟩
theorem text_true_bad (l c : Int) (h : vP l c = false) (w : World) :
    Calls Tryd.prog 22 #[pl l c, .string ⟨#[]⟩, .int .i64 2] w fun e w' => e = .returned (.bool true) ∧ Sees w w' := by
  have hw := Sees.refl w
  go_enter Tryd.func22, Tryd.ntmps22
  go_wp2_with fail
  refine (text_bad l c h _).mono ?_
  rintro e w1 ⟨rfl, s1⟩
  have hS := (hw.alloc _).trans s1
  clear s1
  go_wp2
  go_ret
  exact ⟨rfl, hS⟩
theorem cut_len (s sep : List UInt8) : (Lib.cut s sep).1.length ≤ s.length ∧ (Lib.cut s sep).2.1.length ≤ s.length := by
  unfold Lib.cut
  split <;> simp <;> omega
/-- What Parse gives. -/
def PaR (s : ByteArray) (x y no : Int) : Prop := (HasPl s x y ∧ no = 0) ∨ ((∀ l c, ¬ HasPl s l c) ∧ x = 0 ∧ y = 0 ∧ no = 6)
theorem HasPl.uniq {s : ByteArray} {l c m d : Int} (h : HasPl s l c) (k : HasPl s m d) : l = m ∧ c = d := by
  obtain ⟨a1, a2, _, _⟩ := h
  obtain ⟨b1, b2, _, _⟩ := k
  have h1 := a1.symm.trans b1
  have h2 := a2.symm.trans b2
  simp at h1 h2
  exact ⟨h1, h2⟩
theorem parse_r (s : ByteArray) (hs : s.size < 4294967281) (x y no : Int) (h : PaR s x y no) (w : World) (hst : Std w) :
    Calls Tryd.prog 35 #[.string s] w fun e w' => e = .returned (.tuple #[pl x y, .int .i64 no]) ∧ Sees w w' := by
  obtain ⟨z1, z2⟩ := cut_len s.data.toList [58]
  have hz : s.size = s.data.toList.length := Lib.size_eq s
  refine (parse_any0 s hs (Lib.cut s.data.toList [58]).1 (Lib.cut s.data.toList [58]).2.1 (Lib.cut s.data.toList [58]).2.2 rfl (by omega) (by omega) w hst).mono fun e w' ⟨he, hs'⟩ => ⟨?_, hs'⟩
  rcases h with ⟨h, rfl⟩ | ⟨h, rfl, rfl, rfl⟩
  · rcases he with ⟨l, c, hp, he⟩ | ⟨hp, he⟩
    · obtain ⟨rfl, rfl⟩ := HasPl.uniq (s := s) h hp
      exact he
    · exact absurd h (hp x y)
  · rcases he with ⟨l, c, hp, he⟩ | ⟨hp, he⟩
    · exact absurd hp (h l c)
    · exact he
theorem parses_true (s : ByteArray) (hs : s.size < 4294967281) (x y no : Int) (h : PaR s x y no) (w : World) (hst : Std w) :
    Calls Tryd.prog 24 #[.string s, pl x y, .int .i64 no] w fun e w' => e = .returned (.bool true) ∧ Sees w w' := by
  have hw := Sees.refl w
  have q1 : (x == x) = true := by simp
  have q2 : (y == y) = true := by simp
  have q3 : (no == no) = true := by simp
  go_enter Tryd.func24, Tryd.ntmps24
  go_wp2_with fail
  refine (parse_r s hs x y no h _ (hst.sees (hw.alloc _))).mono ?_
  rintro e w1 ⟨rfl, s1⟩
  have hS := (hw.alloc _).trans s1
  have T := (PlAt.new w x y).sees s1
  have hl := T.lt
  obtain ⟨d0, d1⟩ := T.cs
  clear s1 T
  go_wp2
  go_ret
  exact ⟨rfl, hS.alloc _⟩
end Go.Proofs.YtoljdfaghomjkaaDoor
