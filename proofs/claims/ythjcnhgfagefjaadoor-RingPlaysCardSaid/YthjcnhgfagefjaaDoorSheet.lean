/- Pages: what a page is in memory, and the methods that only look at it. No condition. -/
import Derived.Test.YthjcnhgfagefjaaDoorCopy6
namespace Go.Proofs.YthjcnhgfagefjaaDoor
set_option linter.unusedVariables false
set_option linter.unusedSimpArgs false
open Go.RowKit

/-- The three words of a page. -/
def PgAt (w : World) (p : Nat) (most gone : Int) (sv : Value) : Prop := w.heap[p]? = some (.cells #[.int .i64 most, .int .i64 gone, sv] 101 (0, 0))
namespace PgAt
variable {w W : World} {p : Nat} {most gone : Int} {sv : Value}
theorem sees (h : PgAt w p most gone sv) (hs : Sees w W) : PgAt W p most gone sv := by
  unfold PgAt; rw [hs.block _ (Array.getElem?_eq_some_iff.1 h).1]; exact h
theorem lt (h : PgAt w p most gone sv) : p < w.heap.size := (Array.getElem?_eq_some_iff.1 h).1
theorem c0 (h : PgAt w p most gone sv) : w.cell? ⟨p, 0, none⟩ = some (.int .i64 most) := by rw [cell_of_row _ _ _ _ _ _ h]; rfl
theorem c1 (h : PgAt w p most gone sv) : w.cell? ⟨p, 1, none⟩ = some (.int .i64 gone) := by rw [cell_of_row _ _ _ _ _ _ h]; rfl
theorem c2 (h : PgAt w p most gone sv) : w.cell? ⟨p, 2, none⟩ = some sv := by rw [cell_of_row _ _ _ _ _ _ h]; rfl
theorem fr (h : PgAt w p most gone sv) (i : Nat) : w.frozen? ⟨p, i, none⟩ = false := frozen_of_row w p i _ _ h
end PgAt

theorem zero_nil (w : World) : Calls Tryd.prog 60 #[.pointer none] w fun e w' => e = .returned (.bool true) ∧ Sees w w' := by
  have hw := Sees.refl w
  go_enter Tryd.func60, Tryd.ntmps60
  go_wp2
  go_ret
  exact ⟨rfl, hw⟩
theorem zero_z (w : World) (p : Nat) (most gone : Int) (sv : Value) (h : PgAt w p 0 gone sv) :
    Calls Tryd.prog 60 #[.pointer (some ⟨p, 0, none⟩)] w fun e w' => e = .returned (.bool true) ∧ Sees w w' := by
  have hw := Sees.refl w
  have c0 := h.c0
  clear h
  go_enter Tryd.func60, Tryd.ntmps60
  go_wp2
  go_ret
  exact ⟨rfl, hw⟩
theorem zero_at (w : World) (p : Nat) (most gone : Int) (sv : Value) (h : PgAt w p most gone sv) (hm : 0 < most) :
    Calls Tryd.prog 60 #[.pointer (some ⟨p, 0, none⟩)] w fun e w' => e = .returned (.bool false) ∧ Sees w w' := by
  have hw := Sees.refl w
  have c0 := h.c0
  have hd : (most == 0) = false := beq_eq_false_iff_ne.2 (by omega)
  clear h hm
  go_enter Tryd.func60, Tryd.ntmps60
  go_wp2
  go_ret
  exact ⟨by simp [hd], hw⟩
/-- No page: nil or zero. -/
def NoPg (w : World) (v : Value) : Prop := v = .pointer none ∨ ∃ p gone sv, v = .pointer (some ⟨p, 0, none⟩) ∧ PgAt w p 0 gone sv
theorem NoPg.sees {w W : World} {v : Value} (h : NoPg w v) (hs : Sees w W) : NoPg W v := by
  rcases h with h | ⟨p, g, sv, h, hp⟩
  · exact .inl h
  · exact .inr ⟨p, g, sv, h, hp.sees hs⟩
theorem zero_no (w : World) (v : Value) (h : NoPg w v) : Calls Tryd.prog 60 #[v] w fun e w' => e = .returned (.bool true) ∧ Sees w w' := by
  rcases h with rfl | ⟨p, g, sv, rfl, hp⟩
  · exact zero_nil w
  · exact zero_z w p 0 g sv hp

theorem len_no (w : World) (v : Value) (h : NoPg w v) : Calls Tryd.prog 54 #[v] w fun e w' => e = .returned (.int .i64 0) ∧ Sees w w' := by
  have H := Lib.hid h; clear h
  go_enter Tryd.func54, Tryd.ntmps54
  go_wp2_with fail
  refine (zero_no _ _ H.out).mono ?_
  rintro e w1 ⟨rfl, hs⟩
  go_wp2
  go_ret
  exact ⟨rfl, hs⟩
theorem len_at (w : World) (p : Nat) (most gone : Int) (a : Option Addr) (n c : Nat) (h : PgAt w p most gone (.slice a n c)) (hm : 0 < most) :
    Calls Tryd.prog 54 #[.pointer (some ⟨p, 0, none⟩)] w fun e w' => e = .returned (.int .i64 ((n : Int))) ∧ Sees w w' := by
  have H := Lib.hid h; clear h
  have Hm := Lib.hid hm; clear hm
  go_enter Tryd.func54, Tryd.ntmps54
  go_wp2_with fail
  refine (zero_at _ p _ _ _ H.out Hm.out).mono ?_
  rintro e w1 ⟨rfl, hs⟩
  have c0 := (H.out.sees hs).c2
  go_wp2
  go_ret
  exact ⟨rfl, hs⟩

theorem cap_no (w : World) (v : Value) (h : NoPg w v) : Calls Tryd.prog 65 #[v] w fun e w' => e = .returned (.int .i64 0) ∧ Sees w w' := by
  have H := Lib.hid h; clear h
  go_enter Tryd.func65, Tryd.ntmps65
  go_wp2_with fail
  refine (zero_no _ _ H.out).mono ?_
  rintro e w1 ⟨rfl, hs⟩
  go_wp2
  go_ret
  exact ⟨rfl, hs⟩
theorem cap_at (w : World) (p : Nat) (most gone : Int) (sv : Value) (h : PgAt w p most gone sv) (hm : 0 < most) :
    Calls Tryd.prog 65 #[.pointer (some ⟨p, 0, none⟩)] w fun e w' => e = .returned (.int .i64 (most)) ∧ Sees w w' := by
  have H := Lib.hid h; clear h
  have Hm := Lib.hid hm; clear hm
  go_enter Tryd.func65, Tryd.ntmps65
  go_wp2_with fail
  refine (zero_at _ p _ _ _ H.out Hm.out).mono ?_
  rintro e w1 ⟨rfl, hs⟩
  have c0 := (H.out.sees hs).c0
  go_wp2
  go_ret
  exact ⟨rfl, hs⟩

theorem gone_no (w : World) (v : Value) (h : NoPg w v) : Calls Tryd.prog 66 #[v] w fun e w' => e = .returned (.int .i64 0) ∧ Sees w w' := by
  have H := Lib.hid h; clear h
  go_enter Tryd.func66, Tryd.ntmps66
  go_wp2_with fail
  refine (zero_no _ _ H.out).mono ?_
  rintro e w1 ⟨rfl, hs⟩
  go_wp2
  go_ret
  exact ⟨rfl, hs⟩
theorem gone_at (w : World) (p : Nat) (most gone : Int) (sv : Value) (h : PgAt w p most gone sv) (hm : 0 < most) :
    Calls Tryd.prog 66 #[.pointer (some ⟨p, 0, none⟩)] w fun e w' => e = .returned (.int .i64 (gone)) ∧ Sees w w' := by
  have H := Lib.hid h; clear h
  have Hm := Lib.hid hm; clear hm
  go_enter Tryd.func66, Tryd.ntmps66
  go_wp2_with fail
  refine (zero_at _ p _ _ _ H.out Hm.out).mono ?_
  rintro e w1 ⟨rfl, hs⟩
  have c0 := (H.out.sees hs).c1
  go_wp2
  go_ret
  exact ⟨rfl, hs⟩

theorem room_no (w : World) (v : Value) (h : NoPg w v) : Calls Tryd.prog 51 #[v] w fun e w' => e = .returned (.int .i64 0) ∧ Sees w w' := by
  have H := Lib.hid h; clear h
  go_enter Tryd.func51, Tryd.ntmps51
  go_wp2_with fail
  refine (cap_no _ _ H.out).mono ?_
  rintro e w1 ⟨rfl, hs1⟩
  go_wp2_with fail
  refine (gone_no _ _ (H.out.sees hs1)).mono ?_
  rintro e w2 ⟨rfl, hs2⟩
  go_wp2_with fail
  refine (len_no _ _ (H.out.sees (hs1.trans hs2))).mono ?_
  rintro e w3 ⟨rfl, hs3⟩
  go_wp2
  go_ret
  exact ⟨rfl, hs1.trans (hs2.trans hs3)⟩
theorem room_at (w : World) (p : Nat) (most gone : Int) (a : Option Addr) (n c : Nat) (h : PgAt w p most gone (.slice a n c)) (hm : 0 < most) (h2 : most ≤ 1024) (h3 : 0 ≤ gone) (h4 : gone ≤ 1024) (h5 : n ≤ 1024) :
    Calls Tryd.prog 51 #[.pointer (some ⟨p, 0, none⟩)] w fun e w' => e = .returned (.int .i64 (most - gone - n)) ∧ Sees w w' := by
  have H := Lib.hid h; clear h
  have hw := Sees.refl w
  have hn1 : most - gone ≤ 1024 := by omega
  have hn2 : -1024 ≤ most - gone := by omega
  have Hm := Lib.hid hm; clear hm
  go_enter Tryd.func51, Tryd.ntmps51
  go_wp2_with fail
  refine (cap_at _ p most gone _ H.out Hm.out).mono ?_
  rintro e w1 ⟨rfl, hs1⟩
  go_wp2_with fail
  refine (gone_at _ p most gone _ (H.out.sees hs1) Hm.out).mono ?_
  rintro e w2 ⟨rfl, hs2⟩
  go_wp2_with fail
  refine (len_at _ p most gone a n c (H.out.sees (hs1.trans hs2)) Hm.out).mono ?_
  rintro e w3 ⟨rfl, hs3⟩
  go_wp2
  go_ret
  exact ⟨by go_num, hs1.trans (hs2.trans hs3)⟩
end Go.Proofs.YthjcnhgfagefjaaDoor
