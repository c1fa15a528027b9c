/- A page's copy. The calls of a page as data. What a page looks like. Each call, for the reference and for the page, with one plain function for both. No condition. -/
import Derived.Test.YthjcnhgfagefjaaDoorRefV
import Derived.Test.YthjcnhgfagefjaaDoorElO
import Derived.Test.YthjcnhgfagefjaaDoorStL
import Derived.Test.YthjcnhgfagefjaaDoorPgF
namespace Go.Proofs.YthjcnhgfagefjaaDoor
set_option linter.unusedVariables false
set_option linter.unusedSimpArgs false
open Go.RowKit

set_option maxRecDepth 100000 in
set_option maxHeartbeats 2000000 in
theorem pgCopy_ok {w1 : World} {M : Nat} {W : World} {p : Nat} {most gone : Int} {ls : List Ln} (h : PgS w1 M W p most gone ls) :
    Calls Tryd.prog 50 #[.pointer (some ⟨p, 0, none⟩)] W fun e w' => ∃ q, e = .returned (.pointer (some ⟨q, 0, none⟩)) ∧ PgS W w'.heap.size w' q most gone ls ∧ Sees W w' := by
  obtain ⟨a, c, hp⟩ := h.page.words
  have hd : decide (most = 0) = false := decide_eq_false (by have := h.most0; omega)
  have hm : (most == 0) = false := beq_eq_false_iff_ne.2 (by have := h.most0; omega)
  have H := Lib.hid h
  have hw := Sees.refl W
  clear h
  go_enter Tryd.func50, Tryd.ntmps50
  go_wp2_with fail
  refine (zero_at _ p most gone _ hp H.out.most0).mono ?_
  rintro e w2 ⟨rfl, hs2⟩
  have hp2 := hp.sees hs2
  go_wp2_with fail
  refine wpH_go (fun _ => False) 13 (by kernel_rfl) (by kernel_rfl) (by rfl) (fun hB w4 hs4 => ?_)
  have S4 := Lib.hid (hs2.trans hs4)
  have D0 := Lib.hid (hp2.sees hs4)
  have P4 := Lib.hid (H.out.sees S4.out)
  clear hp hp2 hs2 hs4
  have hS0 : Keeps (fun _ => False) w4 w4 := Keeps.refl _ w4
  refine wpH_take (i := 0) (v := .pointer (some ⟨p, 0, none⟩)) hB (by rfl) (by kernel_rfl) (fun _ _ _ _ _ h => h) (by rfl) hS0 (fun W hI => by clear hI; go_simp) ?_; (try simp only [Act.put, List.setIfInBounds_toArray, List.set_cons_zero, List.set_cons_succ])
  refine wpH_take (i := 1) (v := .pointer (some ⟨p, 0, none⟩)) hB (by rfl) (by kernel_rfl) (fun _ _ _ _ _ h => h) (by rfl) hS0 (fun W hI => by clear hI; go_simp) ?_; (try simp only [Act.put, List.setIfInBounds_toArray, List.set_cons_zero, List.set_cons_succ])
  refine wpH_take (i := 2) (v := .pointer (some ⟨p, 0, none⟩)) hB (by rfl) (by kernel_rfl) (fun _ _ _ _ _ h => h) (by rfl) hS0 (fun W hI => by clear hI; go_simp) ?_; (try simp only [Act.put, List.setIfInBounds_toArray, List.set_cons_zero, List.set_cons_succ])
  refine wpH_take (i := 3) (v := .int .i64 most) hB (by rfl) (by kernel_rfl) (fun _ _ _ _ _ h => h) (by rfl) hS0 (fun W hI => by have q := (D0.out.sees (hI.sees_end (fun _ _ h => h))).c0; go_simp) ?_; (try simp only [Act.put, List.setIfInBounds_toArray, List.set_cons_zero, List.set_cons_succ])
  refine wpH_take (i := 4) (v := .pointer (some ⟨p, 0, none⟩)) hB (by rfl) (by kernel_rfl) (fun _ _ _ _ _ h => h) (by rfl) hS0 (fun W hI => by clear hI; go_simp) ?_; (try simp only [Act.put, List.setIfInBounds_toArray, List.set_cons_zero, List.set_cons_succ])
  refine wpH_take (i := 5) (v := .pointer (some ⟨p, 0, none⟩)) hB (by rfl) (by kernel_rfl) (fun _ _ _ _ _ h => h) (by rfl) hS0 (fun W hI => by clear hI; go_simp) ?_; (try simp only [Act.put, List.setIfInBounds_toArray, List.set_cons_zero, List.set_cons_succ])
  refine wpH_take (i := 6) (v := .pointer (some ⟨p, 1, none⟩)) hB (by rfl) (by kernel_rfl) (fun _ _ _ _ _ h => h) (by rfl) hS0 (fun W hI => by clear hI; go_simp) ?_; (try simp only [Act.put, List.setIfInBounds_toArray, List.set_cons_zero, List.set_cons_succ])
  refine wpH_take (i := 7) (v := .int .i64 gone) hB (by rfl) (by kernel_rfl) (fun _ _ _ _ _ h => h) (by rfl) hS0 (fun W hI => by have q := (D0.out.sees (hI.sees_end (fun _ _ h => h))).c1; go_simp) ?_; (try simp only [Act.put, List.setIfInBounds_toArray, List.set_cons_zero, List.set_cons_succ])
  refine wpH_take (i := 8) (v := .pointer (some ⟨p, 0, none⟩)) hB (by rfl) (by kernel_rfl) (fun _ _ _ _ _ h => h) (by rfl) hS0 (fun W hI => by clear hI; go_simp) ?_; (try simp only [Act.put, List.setIfInBounds_toArray, List.set_cons_zero, List.set_cons_succ])
  refine wpH_one (i := 9) (by kernel_rfl) (wpOp_enter (fn := 64) (args := #[.pointer (some ⟨p, 0, none⟩)]) (by rfl) (by rfl) (by go_simp) (P4.out.lines.mono ?_))
  rintro e W8 ⟨v8, rfl, ho8, hs8⟩
  obtain ⟨a8, c8, rfl⟩ := ho8.slice
  refine ⟨_, rfl, Keeps.of_sees hs8, ?_⟩
  (try simp only [Act.put, List.setIfInBounds_toArray, List.set_cons_zero, List.set_cons_succ])
  have HO8 := Lib.hid ho8
  have HS8 := Lib.hid hs8
  clear ho8 hs8
  refine wpH_one (i := 10) (by kernel_rfl) (wpOp_val (v := .agg #[.int .i64 most, .int .i64 gone, .slice a8 ls.length c8]) (w' := W8) (by rfl) (wanted_none (by rfl) _) (exec_build3 (a := .int .i64 most) (b := .int .i64 gone) (c := .slice a8 ls.length c8) rfl (by go_simp) (by go_simp) (by go_simp) (by go_simp)) ⟨Keeps.of_sees HS8.out, ?_⟩)
  (try simp only [Act.put, List.setIfInBounds_toArray, List.set_cons_zero, List.set_cons_succ])
  have hS9 : Sees W8 (W8.alloc (.cells #[.int .i64 most, .int .i64 gone, .slice a8 ls.length c8] 101)) := (Sees.refl W8).alloc _
  refine wpH_one (i := 11) (by kernel_rfl) (wpOp_val (v := .pointer (some ⟨W8.heap.size, 0, none⟩)) (w' := W8.alloc (.cells #[.int .i64 most, .int .i64 gone, .slice a8 ls.length c8] 101)) (by rfl) (wanted_none (by rfl) _) (by go_simp) ⟨Keeps.of_sees (HS8.out.trans hS9), ?_⟩)
  (try simp only [Act.put, List.setIfInBounds_toArray, List.set_cons_zero, List.set_cons_succ])
  refine wpH_one (i := 12) (by kernel_rfl) (wpOp_val (v := .pointer (some ⟨W8.heap.size, 0, none⟩)) (w' := W8.alloc (.cells #[.int .i64 most, .int .i64 gone, .slice a8 ls.length c8] 101)) (by rfl) (wanted_none (by rfl) _) (by go_simp) ⟨Keeps.of_sees (HS8.out.trans hS9), ?_⟩)
  (try simp only [Act.put, List.setIfInBounds_toArray, List.set_cons_zero, List.set_cons_succ])
  refine wpH_end (by kernel_rfl) ?_
  go_wp2
  have hall : Sees W (W8.alloc (.cells #[.int .i64 most, .int .i64 gone, .slice a8 ls.length c8] 101)) := S4.out.trans (HS8.out.trans hS9)
  have hz4 := S4.out.size
  have hz8 := HS8.out.size
  have hz : (W8.alloc (.cells #[.int .i64 most, .int .i64 gone, .slice a8 ls.length c8] 101)).heap.size = W8.heap.size + 1 := Array.size_push _
  refine bodyPost_ret_by (v := .pointer (some ⟨W8.heap.size, 0, none⟩)) (by simp [results, Tryd.results50, go_sem]) rfl ⟨W8.heap.size, rfl, ⟨hall, ?_, Nat.le_refl _, P4.out.most0, P4.out.most1, P4.out.gone0, P4.out.room, P4.out.ok⟩, hall⟩
  refine ⟨⟨by omega, by omega⟩, _, heap_alloc_new W8 _, ((HO8.out.mono (G := fun b => w4.heap.size ≤ b ∧ b < W8.heap.size) (fun b hb h => ⟨h, hb⟩)).keeps (Keeps.of_sees (F := fun _ => False) hS9) (fun _ _ h => h)).mono (fun b hb h => ⟨⟨by omega, by omega⟩, by omega⟩)⟩
end Go.Proofs.YthjcnhgfagefjaaDoor

namespace Go.Proofs.YthjcnhgfagefjaaDoor
set_option linter.unusedVariables false
set_option linter.unusedSimpArgs false
open Go.RowKit

/-- A call of a page. -/
structure Act7 where
  what : Int
  num : Int
  cells : List Cell
  soft : Bool
section
variable {F G : Nat → Prop} {w W : World} {v : Value}
end
/-- At most 40 calls with at most 20 cells each. -/
def fewB (ls : List Act7) : Bool := decide (ls.length ≤ 40) && ls.all fun l => decide (l.cells.length ≤ 20)
theorem fewB_ok {ls : List Act7} (h : fewB ls = true) : ls.length ≤ 40 ∧ ∀ l ∈ ls, l.cells.length ≤ 20 := by
  unfold fewB at h
  simpa using h
end Go.Proofs.YthjcnhgfagefjaaDoor

namespace Go.Proofs.YthjcnhgfagefjaaDoor
set_option linter.unusedVariables false
set_option linter.unusedSimpArgs false
open Go.RowKit

end Go.Proofs.YthjcnhgfagefjaaDoor

namespace Go.Proofs.YthjcnhgfagefjaaDoor
set_option linter.unusedVariables false
set_option linter.unusedSimpArgs false
open Go.RowKit

def pushR (most gone : Int) (ls : List Ln) (cs : List Cell) (soft : Bool) : List Ln × Int :=
  if lnOk cs = true then (if gone + ls.length = most then (ls, 7) else (ls ++ [⟨cs, soft⟩], 0)) else (ls, 2)
def setR (ls : List Ln) (i : Int) (cs : List Cell) (soft : Bool) : List Ln × Int :=
  if lnOk cs = true then (if i < 0 ∨ (ls.length : Int) ≤ i then (ls, 3) else (ls.set i.toNat ⟨cs, soft⟩, 0)) else (ls, 2)
def dropR (gone : Int) (ls : List Ln) (i : Int) : List Ln × Int × Int :=
  if i < 0 ∨ (ls.length : Int) < i then (ls, gone, 3) else (ls.drop i.toNat, gone + i, 0)

section
variable {w1 W : World} {F G H : Nat → Prop} {p : Nat} {most gone : Int} {ls : List Ln} {v u : Value} {cs : List Cell} {soft : Bool}
theorem rd_more {W' : World} (hv : lnEl.Rd G W v ls) (hs : Sees W W') : lnEl.Rd (fun b => (G b ∧ b < W.heap.size) ∨ W.heap.size ≤ b) W' v ls :=
  (hv.mono (G := fun b => (G b ∧ b < W.heap.size) ∨ W.heap.size ≤ b) (fun b hb h => .inl ⟨h, hb⟩)).sees hs
theorem PgF.more {W' : World} (h : PgF w1 F W p most gone ls) (hs : Sees W W') : PgF w1 (fun b => F b ∨ W.heap.size ≤ b) W' p most gone ls :=
  (h.mono (F' := fun b => F b ∨ W.heap.size ≤ b) (fun b _ h => .inl h) (fun b hb => by have := h.see.size; rcases hb with hb | hb; exact h.low b hb; omega)).sees hs
theorem pgPush_any (ht : Tabs W) (h : PgF w1 F W p most gone ls) (hu : RdC H W u cs) (hH : ∀ b, H b → ¬ F b) (hn : cs.length ≤ 1000000) :
    Calls Tryd.prog 53 #[.pointer (some ⟨p, 0, none⟩), .agg #[u, .bool soft]] W fun e w' => e = .returned (.int .i64 (pushR most gone ls cs soft).2) ∧ PgF w1 (fun b => F b ∨ W.heap.size ≤ b) w' p most gone (pushR most gone ls cs soft).1 ∧ Keeps F W w' := by
  have hr := h.room
  unfold pushR
  by_cases hok : lnOk cs = true
  · rw [if_pos hok]
    by_cases hf : gone + ls.length = most
    · rw [if_pos hf]
      refine (h.toS.push_full ht u cs soft hu.rd hok hf).mono ?_
      rintro e w' ⟨rfl, hs⟩
      exact ⟨rfl, h.more hs, Keeps.of_sees hs⟩
    · rw [if_neg hf]
      exact h.push ht u cs soft hu hH hok (by omega)
  · rw [if_neg hok]
    refine (h.toS.push_bad ht u cs soft hu.rd hn (by simpa using hok)).mono ?_
    rintro e w' ⟨rfl, hs⟩
    exact ⟨rfl, h.more hs, Keeps.of_sees hs⟩
theorem pgSet_any (ht : Tabs W) (h : PgF w1 F W p most gone ls) (i : Int) (hu : RdC H W u cs) (hH : ∀ b, H b → ¬ F b) (hn : cs.length ≤ 1000000) :
    Calls Tryd.prog 45 #[.pointer (some ⟨p, 0, none⟩), .int .i64 i, .agg #[u, .bool soft]] W fun e w' => e = .returned (.int .i64 (setR ls i cs soft).2) ∧ PgF w1 (fun b => F b ∨ W.heap.size ≤ b) w' p most gone (setR ls i cs soft).1 ∧ Keeps F W w' := by
  unfold setR
  by_cases hok : lnOk cs = true
  · rw [if_pos hok]
    by_cases hf : i < 0 ∨ (ls.length : Int) ≤ i
    · rw [if_pos hf]
      refine (h.toS.set_range ht i hf u cs soft hu.rd hok).mono ?_
      rintro e w' ⟨rfl, hs⟩
      exact ⟨rfl, h.more hs, Keeps.of_sees hs⟩
    · rw [if_neg hf]
      obtain ⟨k, rfl⟩ : ∃ k : Nat, i = k := ⟨i.toNat, by omega⟩
      exact h.set ht k (by omega) u cs soft hu hH hok
  · rw [if_neg hok]
    refine (h.toS.set_bad ht i u cs soft hu.rd hn (by simpa using hok)).mono ?_
    rintro e w' ⟨rfl, hs⟩
    exact ⟨rfl, h.more hs, Keeps.of_sees hs⟩
theorem pgDrop_any (h : PgF w1 F W p most gone ls) (i : Int) :
    Calls Tryd.prog 58 #[.pointer (some ⟨p, 0, none⟩), .int .i64 i] W fun e w' => e = .returned (.int .i64 (dropR gone ls i).2.2) ∧ PgF w1 (fun b => F b ∨ W.heap.size ≤ b) w' p most (dropR gone ls i).2.1 (dropR gone ls i).1 ∧ Keeps F W w' := by
  unfold dropR
  by_cases hf : i < 0 ∨ (ls.length : Int) < i
  · rw [if_pos hf]
    refine (h.toS.drop_range i hf).mono ?_
    rintro e w' ⟨rfl, hs⟩
    exact ⟨rfl, h.more hs, Keeps.of_sees hs⟩
  · rw [if_neg hf]
    obtain ⟨k, rfl⟩ : ∃ k : Nat, i = k := ⟨i.toNat, by omega⟩
    exact h.drop k (by omega)
end
end Go.Proofs.YthjcnhgfagefjaaDoor
