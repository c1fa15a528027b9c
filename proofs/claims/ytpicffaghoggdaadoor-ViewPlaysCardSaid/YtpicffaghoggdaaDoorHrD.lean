/- The reference of layer 31: Pull and Push. The reference of layer 31: Clear and Replace. The reference of layer 28: Copy. No condition. -/
import Derived.Test.YtpicffaghoggdaaDoorHrA
import Derived.Test.YtpicffaghoggdaaDoorElO
namespace Go.Proofs.YtpicffaghoggdaaDoor
set_option linter.unusedVariables false
set_option linter.unusedSimpArgs false
open Go.RowKit

set_option maxRecDepth 100000 in
set_option maxHeartbeats 4000000 in
theorem refPull31 (G : Nat → Prop) (most first : Int) (v : Value) (ls : List Ln) (q : Nat) (w : World) (hq : q ≤ ls.length) (hl : ls.length ≤ 1000000) (hv : lnEl.Rd G w v ls) :
    Calls Tryd.prog 40 #[.agg #[.int .i64 most, .int .i64 first, v], .int .i64 q] w fun e w' => (∃ v', e = .returned (.agg #[.int .i64 most, .int .i64 first, v']) ∧ lnEl.Rd (fun b => (G b ∧ b < w.heap.size) ∨ w.heap.size ≤ b) w' v' (ls.take (ls.length - q))) ∧ Sees w w' := by
  have Hv := Lib.hid (hv.mono (G := fun b => G b ∧ b < w.heap.size) (fun b hb h => ⟨h, hb⟩))
  obtain ⟨a, c, rfl, hvx⟩ := hv.slice'
  obtain ⟨h9, h9r⟩ := cut_to hv (ls.length - q) (Nat.sub_le _ _)
  obtain ⟨n, hnl⟩ : ∃ n, n = ls.length := ⟨_, rfl⟩
  rw [← hnl] at Hv hq hl h9 h9r ⊢
  have Hnl := Lib.hid hnl
  have H9 := Lib.hid h9
  have H9r := Lib.hid h9r
  have hgk : IntKind.i64.wrap ((n : Int) - (q : Int)) = ((n - q : Nat) : Int) := by rw [IntWalk.i64_in _ (by omega)]; omega
  clear h9 h9r hnl hvx hv
  go_enter Tryd.func40, Tryd.ntmps40
  go_wp2_with fail
  refine wp_world (fun w1 hw1 => ?_)
  have A0 : HrAt w1 w.heap.size most first (.slice a n c) := by subst hw1; exact (HrAt.new rfl).alloc _
  have A2 : HrAt w1 (w.heap.size + 1) 0 0 (.slice none 0 0) := by subst hw1; exact HrAt.new (by simp)
  have hs1 : Sees w w1 := by subst hw1; exact ((Sees.refl w).alloc _).alloc _
  have hdx : w.heap.size ≠ w.heap.size + 1 := by omega
  have HZ : Hid (w.heap.size + 2 ≤ w1.heap.size) := Lib.hid (by subst hw1; simp)
  clear hw1
  refine wpH_go (fun b => b = w.heap.size + 1) 14 (by kernel_rfl) (by kernel_rfl) (by rfl) (fun hB w4 hs4 => ?_)
  have S4 := Lib.hid (hs1.trans hs4)
  have D0 := Lib.hid (A0.sees hs4)
  have D2 := Lib.hid (A2.sees hs4)
  have R8 : Hid (lnEl.Rd (fun b => (G b ∧ b < w.heap.size) ∨ w1.heap.size ≤ b) w4 (.slice a (n - q) c) (ls.take (n - q))) := Lib.hid ((H9r.out _ _ (Hv.out.sees S4.out)).mono (fun b _ h => .inl h))
  clear A0 A2 hs4 hs1
  have hS0 : Keeps (fun b => b = w.heap.size + 1) w4 w4 := Keeps.refl _ w4
  refine wpH_take (i := 0) (v := .pointer (some ⟨w.heap.size, 0, none⟩)) hB (by rfl) (by kernel_rfl) (fun _ _ _ _ _ h => h) (by rfl) hS0 (fun W hI => by clear hI; go_simp) ?_; (try simp only [Act.put, List.setIfInBounds_toArray, List.set_cons_zero, List.set_cons_succ])
  refine wpH_take (i := 1) (v := .int .i64 most) hB (by rfl) (by kernel_rfl) (fun _ _ _ _ _ h => h) (by rfl) hS0 (fun W hI => by have q := (D0.out.keeps hI hdx).c; obtain ⟨q0, q1, q2⟩ := q; go_simp) ?_; (try simp only [Act.put, List.setIfInBounds_toArray, List.set_cons_zero, List.set_cons_succ])
  refine wpH_take (i := 2) (v := .pointer (some ⟨w.heap.size, 1, none⟩)) hB (by rfl) (by kernel_rfl) (fun _ _ _ _ _ h => h) (by rfl) hS0 (fun W hI => by clear hI; go_simp) ?_; (try simp only [Act.put, List.setIfInBounds_toArray, List.set_cons_zero, List.set_cons_succ])
  refine wpH_take (i := 3) (v := .int .i64 first) hB (by rfl) (by kernel_rfl) (fun _ _ _ _ _ h => h) (by rfl) hS0 (fun W hI => by have q := (D0.out.keeps hI hdx).c; obtain ⟨q0, q1, q2⟩ := q; go_simp) ?_; (try simp only [Act.put, List.setIfInBounds_toArray, List.set_cons_zero, List.set_cons_succ])
  refine wpH_take (i := 4) (v := .pointer (some ⟨w.heap.size, 2, none⟩)) hB (by rfl) (by kernel_rfl) (fun _ _ _ _ _ h => h) (by rfl) hS0 (fun W hI => by clear hI; go_simp) ?_; (try simp only [Act.put, List.setIfInBounds_toArray, List.set_cons_zero, List.set_cons_succ])
  refine wpH_take (i := 5) (v := .slice a n c) hB (by rfl) (by kernel_rfl) (fun _ _ _ _ _ h => h) (by rfl) hS0 (fun W hI => by have q := (D0.out.keeps hI hdx).c; obtain ⟨q0, q1, q2⟩ := q; go_simp) ?_; (try simp only [Act.put, List.setIfInBounds_toArray, List.set_cons_zero, List.set_cons_succ])
  refine wpH_take (i := 6) (v := .pointer (some ⟨w.heap.size, 2, none⟩)) hB (by rfl) (by kernel_rfl) (fun _ _ _ _ _ h => h) (by rfl) hS0 (fun W hI => by clear hI; go_simp) ?_; (try simp only [Act.put, List.setIfInBounds_toArray, List.set_cons_zero, List.set_cons_succ])
  refine wpH_take (i := 7) (v := .slice a n c) hB (by rfl) (by kernel_rfl) (fun _ _ _ _ _ h => h) (by rfl) hS0 (fun W hI => by have q := (D0.out.keeps hI hdx).c; obtain ⟨q0, q1, q2⟩ := q; go_simp) ?_; (try simp only [Act.put, List.setIfInBounds_toArray, List.set_cons_zero, List.set_cons_succ])
  refine wpH_take (i := 8) (v := .int .i64 (n : Int)) hB (by rfl) (by kernel_rfl) (fun _ _ _ _ _ h => h) (by rfl) hS0 (fun W hI => by clear hI; go_simp) ?_; (try simp only [Act.put, List.setIfInBounds_toArray, List.set_cons_zero, List.set_cons_succ])
  refine wpH_take (i := 9) (v := .int .i64 (q : Int)) hB (by rfl) (by kernel_rfl) (fun _ _ _ _ _ h => h) (by rfl) hS0 (fun W hI => by clear hI; go_simp) ?_; (try simp only [Act.put, List.setIfInBounds_toArray, List.set_cons_zero, List.set_cons_succ])
  refine wpH_take (i := 10) (v := .int .i64 ((n - q : Nat) : Int)) hB (by rfl) (by kernel_rfl) (fun _ _ _ _ _ h => h) (by rfl) hS0 (fun W hI => by clear hI; go_simp) ?_; (try simp only [Act.put, List.setIfInBounds_toArray, List.set_cons_zero, List.set_cons_succ])
  refine wpH_take (i := 11) (v := .slice a (n - q) c) hB (by rfl) (by kernel_rfl) (fun _ _ _ _ _ h => h) (by rfl) hS0 (fun W hI => exec_toL rfl (by go_simp) (by go_simp) (H9.out W)) ?_; (try simp only [Act.put, List.setIfInBounds_toArray, List.set_cons_zero, List.set_cons_succ])
  refine wpH_one (i := 12) (by kernel_rfl) (wpOp_val (v := .agg #[.int .i64 most, .int .i64 first, .slice a (n - q) c]) (w' := w4) (by rfl) (wanted_none (by rfl) _) (exec_build3 (a := .int .i64 most) (b := .int .i64 first) (c := .slice a (n - q) c) rfl (by go_simp) (by go_simp) (by go_simp) (by go_simp)) ⟨hS0, ?_⟩)
  (try simp only [Act.put, List.setIfInBounds_toArray, List.set_cons_zero, List.set_cons_succ])
  obtain ⟨y0, y1, y2⟩ := D2.out.c
  have fy := D2.out.fr
  obtain ⟨w9, hw9⟩ : ∃ w9, w9 = w4.setRow (w.heap.size + 1) #[.int .i64 most, .int .i64 first, .slice a (n - q) c] := ⟨_, rfl⟩
  have hst9 : (Instr.storeAt 60 (.pointer (some ⟨w.heap.size + 1, 0, none⟩)) (.agg #[.int .i64 most, .int .i64 first, .slice a (n - q) c])).run Tryd.prog w4 = .ok () w9 := by
    rw [hw9]
    exact run_storeAt_row (P := Tryd.prog) (W := w4) 60 (w.heap.size + 1) _ 60 [.int .i64 most, .int .i64 first, .slice a (n - q) c] (fun _ => by kernel_rfl) D2.out rfl (by intro v hv; simp only [List.mem_cons, List.not_mem_nil, or_false] at hv; rcases hv with rfl | rfl | rfl <;> rfl)
  have hk9 : Keeps (fun b => b = w.heap.size + 1) w4 w9 := by rw [hw9]; exact ⟨rfl, rfl, rfl, by simp [World.setRow], fun b hb hne => setRow_other w4 _ b _ hne⟩
  have D9 : HrAt w9 (w.heap.size + 1) most first (.slice a (n - q) c) := by rw [hw9]; exact setRow_heap _ _ _ _ _ (0, 0) D2.out
  have Hst9 := Lib.hid hst9
  have Hk9 := Lib.hid hk9
  have HD9 := Lib.hid D9
  clear hw9 hst9 hk9 D9 y0 y1 y2 fy
  refine wpH_one (i := 13) (by kernel_rfl) (wpOp_skip (w' := w9) (by rfl) (wanted_none (by rfl) _) (exec_store (a := .pointer (some ⟨w.heap.size + 1, 0, none⟩)) (v := .agg #[.int .i64 most, .int .i64 first, .slice a (n - q) c]) rfl (by go_simp) (by go_simp) Hst9.out) ⟨Hk9.out, ?_⟩)
  (try simp only [Act.put, List.setIfInBounds_toArray, List.set_cons_zero, List.set_cons_succ])
  refine wpH_end (by kernel_rfl) ?_
  go_wp2
  obtain ⟨y0, y1, y2⟩ := HD9.out.c
  have hS9 : Sees w w9 := ((Keeps.of_sees (F := fun _ => False) S4.out).trans' Hk9.out (fun b hb e => by have e : b = w.heap.size + 1 := e; omega)).sees_end (fun _ _ h => h)
  refine bodyPost_ret_by (v := .agg #[.int .i64 most, .int .i64 first, .slice a (n - q) c]) (by simp [results, Tryd.results40, go_sem, y0, y1, y2]) rfl ⟨⟨_, rfl, ?_⟩, hS9⟩
  exact (R8.out.keeps Hk9.out (fun b hb e => by
    have e : b = w.heap.size + 1 := e
    have := HZ.out
    rcases hb with h | h
    · have := h.2; omega
    · omega)).mono (fun b _ h => by
    have := HZ.out
    rcases h with h | h
    · exact .inl h
    · exact .inr (by omega))

set_option maxRecDepth 100000 in
set_option maxHeartbeats 4000000 in
theorem refPush31 (G : Nat → Prop) (most first : Int) (v u : Value) (ls xs : List Ln) (k : Nat) (w : World) (h0 : 0 ≤ most) (h1 : most ≤ 1048576) (hf : 0 ≤ first) (hf2 : first + ls.length + xs.length ≤ 1000000000) (hl : ls.length ≤ 10000000) (hx : xs.length ≤ 10000000) (hv : lnEl.Rd G w v ls) (hu : lnEl.Rd G w u xs) (hk : k = ls.length + xs.length - most.toNat) :
    Calls Tryd.prog 38 #[.agg #[.int .i64 most, .int .i64 first, v], u] w fun e w' => (∃ v', e = .returned (.agg #[.int .i64 most, .int .i64 (first + k), v']) ∧ lnEl.Rd (fun b => (G b ∧ b < w.heap.size) ∨ w.heap.size ≤ b) w' v' ((ls ++ xs).drop k)) ∧ Sees w w' := by
  have Hv := Lib.hid (hv.mono (G := fun b => G b ∧ b < w.heap.size) (fun b hb h => ⟨h, hb⟩))
  have Hu := Lib.hid (hu.mono (G := fun b => G b ∧ b < w.heap.size) (fun b hb h => ⟨h, hb⟩))
  obtain ⟨a, c, rfl, hvx⟩ := hv.slice'
  obtain ⟨ua, uc, rfl, hux⟩ := hu.slice'
  have Hl := Lib.hid (And.intro hl hx)
  have Hk := Lib.hid hk
  have Hf := Lib.hid (And.intro hf hf2)
  have Hm := Lib.hid (And.intro h0 h1)
  obtain ⟨n, hnl⟩ : ∃ n, n = ls.length := ⟨_, rfl⟩
  obtain ⟨m, hml⟩ : ∃ m, m = xs.length := ⟨_, rfl⟩
  rw [← hnl] at Hv ⊢
  rw [← hml] at Hu ⊢
  have Hn := Lib.hid (And.intro hnl hml)
  obtain ⟨N, hN⟩ : ∃ N, N = n + m := ⟨_, rfl⟩
  have HN := Lib.hid hN
  obtain ⟨z, hz⟩ : ∃ z, z = (N : Int) - most := ⟨_, rfl⟩
  have hwz : IntKind.i64.wrap ((N : Int) - most) = z := by rw [hz]; exact IntWalk.i64_in _ (by omega)
  have hmax : (if (0 : Int) < z then z else 0) = (k : Int) := by split <;> omega
  have Hmax := Lib.hid hmax
  have g0 : IntKind.i64.wrap (first + (k : Int)) = first + (k : Int) := IntWalk.i64_in _ (by omega)
  clear hv hu hvx hux hl hx hk hf hf2 h0 h1 hnl hml hN hz
  go_enter Tryd.func38, Tryd.ntmps38
  go_wp2_with (at_builtin; first
    | (refine El.wpList_append_row (G := fun b => G b ∧ b < w.heap.size) (base := w.heap.size + 2) typedLn rfl (.const (.slice none 0 0)) (.tmp 8) rfl rfl (El.Row.nil _ _ _) (.slice a n c) rfl ls (Hv.out.sees (((Sees.refl w).alloc _).alloc _)) (fun _ _ e => by cases e) (by have := Hl.out; simp; omega) (by simp) ?_; intro v1 W1 hrow1 hk1 _; obtain ⟨a1, c1, hv1, _⟩ := hrow1.slice; subst hv1; have HR1 := Lib.hid hrow1; have HS1 := Lib.hid (hk1.sees_end (fun b hb e => by cases e)); clear hrow1 hk1)
    | (refine El.wpList_append_row (G := fun b => G b ∧ b < w.heap.size) (base := w.heap.size + 2) typedLn rfl (.tmp 9) (.tmp 10) rfl rfl HR1.out (.slice ua m uc) rfl xs (Hu.out.sees ((((Sees.refl w).alloc _).alloc _).trans HS1.out)) (fun b hb e => by have := (El.Row.base_le HR1.out e).1; have := hb.2; omega) (by have := Hl.out; simp; omega) (by have := HS1.out.size; simpa using this) ?_; intro v2 W2 hrow2 hk2 _; obtain ⟨a2, c2, hv2, _⟩ := hrow2.slice; (first | have hNN : ([] ++ ls ++ xs).length = N := (by have h1 := HN.out; have h2 := Hn.out; simp; omega) | trace "A1"); (first | rw [hNN] at hv2 | trace "A2"); (first | subst hv2 | trace "A3"); have HR2 := Lib.hid hrow2; (first | have HS2 := Lib.hid (((Keeps.of_sees (F := fun _ => False) HS1.out).trans' hk2 (fun b hb e => by have h1 := (El.Row.base_le HR1.out e).1; simp at hb; omega)).sees_end (fun _ _ h => h)) | trace "B"); (first | have hB0 := ((HrAt.new (W := w) (p := most) (g := first) (v := .slice a n c) rfl).alloc _).sees HS2.out | trace "C"); obtain ⟨q0, q1, q2⟩ := hB0.c; clear hrow2 hk2 hB0))
  have HZ : Hid (w.heap.size + 2 ≤ w.heap.size + 2) := Lib.hid (Nat.le_refl _)
  have hR : lnEl.Rd (fun b => (G b ∧ b < w.heap.size) ∨ w.heap.size + 2 ≤ b) W2 (.slice a2 N c2) (ls ++ xs) := by
    have := HR2.out.rd (F := fun b => (G b ∧ b < w.heap.size) ∨ w.heap.size + 2 ≤ b) (fun b _ h => h)
    simpa using this
  have hkN : k ≤ N := by have := Hk.out; have := HN.out; have := Hn.out; omega
  obtain ⟨a9, c9, h9, h9r⟩ := cut_from hR k hkN
  have H9 := Lib.hid h9
  have R2 := Lib.hid (h9r _ _ hR)
  have A0 := Lib.hid (((HrAt.new (W := w) (p := most) (g := first) (v := .slice a n c) rfl).alloc (.cells #[.int .i64 0, .int .i64 0, .slice none 0 0] 60)).sees HS2.out)
  have A2 := Lib.hid ((HrAt.new (W := w.alloc (.cells #[.int .i64 most, .int .i64 first, .slice a n c] 60)) (n := w.heap.size + 1) (p := 0) (g := 0) (v := .slice none 0 0) (by simp)).sees HS2.out)
  have S2 := Lib.hid ((((Sees.refl w).alloc _).alloc _).trans HS2.out)
  have hdx : w.heap.size ≠ w.heap.size + 1 := by omega
  clear hR h9 h9r HR2 HS2 HR1 HS1 q0 q1 q2 hwz hmax
  refine wpH_go (fun b => b = w.heap.size + 1) 11 (by kernel_rfl) (by kernel_rfl) (by rfl) (fun hB w4 hs4 => ?_)
  have S4 := Lib.hid (S2.out.trans hs4)
  have D0 := Lib.hid (A0.out.sees hs4)
  have D2 := Lib.hid (A2.out.sees hs4)
  have R8 := Lib.hid (R2.out.sees hs4)
  clear A0 A2 hs4 R2 S2
  have hS0 : Keeps (fun b => b = w.heap.size + 1) w4 w4 := Keeps.refl _ w4
  refine wpH_take (i := 0) (v := .pointer (some ⟨w.heap.size, 0, none⟩)) hB (by rfl) (by kernel_rfl) (fun _ _ _ _ _ h => h) (by rfl) hS0 (fun W hI => by clear hI; go_simp) ?_; (try simp only [Act.put, List.setIfInBounds_toArray, List.set_cons_zero, List.set_cons_succ])
  refine wpH_take (i := 1) (v := .int .i64 most) hB (by rfl) (by kernel_rfl) (fun _ _ _ _ _ h => h) (by rfl) hS0 (fun W hI => by have q := (D0.out.keeps hI hdx).c; obtain ⟨q0, q1, q2⟩ := q; go_simp) ?_; (try simp only [Act.put, List.setIfInBounds_toArray, List.set_cons_zero, List.set_cons_succ])
  refine wpH_take (i := 2) (v := .pointer (some ⟨w.heap.size, 1, none⟩)) hB (by rfl) (by kernel_rfl) (fun _ _ _ _ _ h => h) (by rfl) hS0 (fun W hI => by clear hI; go_simp) ?_; (try simp only [Act.put, List.setIfInBounds_toArray, List.set_cons_zero, List.set_cons_succ])
  refine wpH_take (i := 3) (v := .int .i64 first) hB (by rfl) (by kernel_rfl) (fun _ _ _ _ _ h => h) (by rfl) hS0 (fun W hI => by have q := (D0.out.keeps hI hdx).c; obtain ⟨q0, q1, q2⟩ := q; go_simp) ?_; (try simp only [Act.put, List.setIfInBounds_toArray, List.set_cons_zero, List.set_cons_succ])
  refine wpH_take (i := 4) (v := .int .i64 (k : Int)) hB (by rfl) (by kernel_rfl) (fun _ _ _ _ _ h => h) (by rfl) hS0 (fun W hI => by (have hmax := Hmax.out); clear hI; go_simp) ?_; (try simp only [Act.put, List.setIfInBounds_toArray, List.set_cons_zero, List.set_cons_succ])
  refine wpH_take (i := 5) (v := .int .i64 (first + (k : Int))) hB (by rfl) (by kernel_rfl) (fun _ _ _ _ _ h => h) (by rfl) hS0 (fun W hI => by clear hI; go_simp) ?_; (try simp only [Act.put, List.setIfInBounds_toArray, List.set_cons_zero, List.set_cons_succ])
  refine wpH_take (i := 6) (v := .slice a2 N c2) hB (by rfl) (by kernel_rfl) (fun _ _ _ _ _ h => h) (by rfl) hS0 (fun W hI => by clear hI; go_simp) ?_; (try simp only [Act.put, List.setIfInBounds_toArray, List.set_cons_zero, List.set_cons_succ])
  refine wpH_take (i := 7) (v := .int .i64 (k : Int)) hB (by rfl) (by kernel_rfl) (fun _ _ _ _ _ h => h) (by rfl) hS0 (fun W hI => by (have hmax := Hmax.out); clear hI; go_simp) ?_; (try simp only [Act.put, List.setIfInBounds_toArray, List.set_cons_zero, List.set_cons_succ])
  refine wpH_take (i := 8) (v := .slice a9 (N - k) c9) hB (by rfl) (by kernel_rfl) (fun _ _ _ _ _ h => h) (by rfl) hS0 (fun W hI => exec_fromL (a := .slice a2 N c2) (b := .int .i64 k) rfl (by go_simp) (by go_simp) (H9.out W)) ?_; (try simp only [Act.put, List.setIfInBounds_toArray, List.set_cons_zero, List.set_cons_succ])
  refine wpH_one (i := 9) (by kernel_rfl) (wpOp_val (v := .agg #[.int .i64 most, .int .i64 (first + (k : Int)), .slice a9 (N - k) c9]) (w' := w4) (by rfl) (wanted_none (by rfl) _) (exec_build3 (a := .int .i64 most) (b := .int .i64 (first + (k : Int))) (c := .slice a9 (N - k) c9) rfl (by go_simp) (by go_simp) (by go_simp) (by go_simp)) ⟨hS0, ?_⟩)
  (try simp only [Act.put, List.setIfInBounds_toArray, List.set_cons_zero, List.set_cons_succ])
  obtain ⟨y0, y1, y2⟩ := D2.out.c
  have fy := D2.out.fr
  obtain ⟨w9, hw9⟩ : ∃ w9, w9 = w4.setRow (w.heap.size + 1) #[.int .i64 most, .int .i64 (first + (k : Int)), .slice a9 (N - k) c9] := ⟨_, rfl⟩
  have hst9 : (Instr.storeAt 60 (.pointer (some ⟨w.heap.size + 1, 0, none⟩)) (.agg #[.int .i64 most, .int .i64 (first + (k : Int)), .slice a9 (N - k) c9])).run Tryd.prog w4 = .ok () w9 := by
    rw [hw9]
    exact run_storeAt_row (P := Tryd.prog) (W := w4) 60 (w.heap.size + 1) _ 60 [.int .i64 most, .int .i64 (first + (k : Int)), .slice a9 (N - k) c9] (fun _ => by kernel_rfl) D2.out rfl (by intro v hv; simp only [List.mem_cons, List.not_mem_nil, or_false] at hv; rcases hv with rfl | rfl | rfl <;> rfl)
  have hk9 : Keeps (fun b => b = w.heap.size + 1) w4 w9 := by rw [hw9]; exact ⟨rfl, rfl, rfl, by simp [World.setRow], fun b hb hne => setRow_other w4 _ b _ hne⟩
  have D9 : HrAt w9 (w.heap.size + 1) most (first + (k : Int)) (.slice a9 (N - k) c9) := by rw [hw9]; exact setRow_heap _ _ _ _ _ (0, 0) D2.out
  have Hst9 := Lib.hid hst9
  have Hk9 := Lib.hid hk9
  have HD9 := Lib.hid D9
  clear hw9 hst9 hk9 D9 y0 y1 y2 fy
  refine wpH_one (i := 10) (by kernel_rfl) (wpOp_skip (w' := w9) (by rfl) (wanted_none (by rfl) _) (exec_store (a := .pointer (some ⟨w.heap.size + 1, 0, none⟩)) (v := .agg #[.int .i64 most, .int .i64 (first + (k : Int)), .slice a9 (N - k) c9]) rfl (by go_simp) (by go_simp) Hst9.out) ⟨Hk9.out, ?_⟩)
  (try simp only [Act.put, List.setIfInBounds_toArray, List.set_cons_zero, List.set_cons_succ])
  refine wpH_end (by kernel_rfl) ?_
  go_wp2
  obtain ⟨y0, y1, y2⟩ := HD9.out.c
  have hS9 : Sees w w9 := ((Keeps.of_sees (F := fun _ => False) S4.out).trans' Hk9.out (fun b hb e => by have e : b = w.heap.size + 1 := e; omega)).sees_end (fun _ _ h => h)
  refine bodyPost_ret_by (v := .agg #[.int .i64 most, .int .i64 (first + (k : Int)), .slice a9 (N - k) c9]) (by simp [results, Tryd.results38, go_sem, y0, y1, y2]) rfl ⟨⟨_, rfl, ?_⟩, hS9⟩
  exact (R8.out.keeps Hk9.out (fun b hb e => by
    have e : b = w.heap.size + 1 := e
    have := HZ.out
    rcases hb with h | h
    · have := h.2; omega
    · omega)).mono (fun b _ h => by
    have := HZ.out
    rcases h with h | h
    · exact .inl h
    · exact .inr (by omega))
end Go.Proofs.YtpicffaghoggdaaDoor

namespace Go.Proofs.YtpicffaghoggdaaDoor
set_option linter.unusedVariables false
set_option linter.unusedSimpArgs false
open Go.RowKit

theorem refClear31 (most first : Int) (a : Option Addr) (n c : Nat) (w : World) (h0 : 0 ≤ first) (h1 : first + n ≤ 1000000000) :
    Calls Tryd.prog 77 #[.agg #[.int .i64 most, .int .i64 first, .slice a n c]] w fun e w' => e = .returned (.agg #[.int .i64 most, .int .i64 (first + n), .slice none 0 0]) ∧ Sees w w' := by
  have hw := Sees.refl w
  have g0 : IntKind.i64.wrap (first + (n : Int)) = first + (n : Int) := IntWalk.i64_in _ (by omega)
  clear h0 h1
  go_enter Tryd.func77, Tryd.ntmps77
  go_wp2
  refine bodyPost_ret_by (v := .agg #[.int .i64 most, .int .i64 (first + n), .slice none 0 0]) (by simp [results, Tryd.results77, go_sem]) rfl ⟨rfl, (hw.alloc _).alloc _⟩
theorem HrAt.set3 {W : World} {b : Nat} {p g : Int} {v : Value} (h : HrAt W b p g v) (p' g' : Int) (v' : Value) : HrAt (((W.setCell ⟨b, 0, none⟩ (.int .i64 p')).setCell ⟨b, 1, none⟩ (.int .i64 g')).setCell ⟨b, 2, none⟩ v') b p' g' v' :=
  heap_setCell_same _ _ _ _ _ _ (heap_setCell_same _ _ _ _ _ _ (heap_setCell_same _ _ _ _ _ _ h))
set_option maxRecDepth 100000 in
set_option maxHeartbeats 2000000 in
theorem refReplace31 (G : Nat → Prop) (most first : Int) (v u : Value) (a : Option Addr) (n c : Nat) (hv : v = .slice a n c) (xs : List Ln) (k : Nat) (w : World) (h0 : 0 ≤ most) (h1 : most ≤ 1048576) (hf : 0 ≤ first) (hf2 : first + xs.length ≤ 1000000000) (hx : xs.length ≤ 10000000) (hu : lnEl.Rd G w u xs) (hk : k = xs.length - most.toNat) :
    Calls Tryd.prog 76 #[.agg #[.int .i64 most, .int .i64 first, v], u] w fun e w' => (∃ v', e = .returned (.agg #[.int .i64 most, .int .i64 (first + k), v']) ∧ lnEl.Rd (fun b => (G b ∧ b < w.heap.size) ∨ w.heap.size ≤ b) w' v' (xs.drop k)) ∧ Sees w w' := by
  subst hv
  obtain ⟨ua, uc, rfl, _⟩ := hu.slice'
  have HU := Lib.hid (hu.mono (G := fun b => G b ∧ b < w.heap.size) (fun b hb h => ⟨h, hb⟩))
  have HB := Lib.hid (And.intro h0 (And.intro h1 (And.intro hf (And.intro hf2 (And.intro hx hk)))))
  clear hu h0 h1 hf hf2 hx hk
  go_enter Tryd.func76, Tryd.ntmps76
  go_wp2_with fail
  refine calls_world (fun X hX => ?_)
  have hsX : Sees w X := by subst hX; exact ((Sees.refl w).alloc _).alloc _
  have A2 : HrAt X (w.heap.size + 1) 0 0 (.slice none 0 0) := by subst hX; exact HrAt.new (by simp)
  have hzX : X.heap.size = w.heap.size + 2 := by subst hX; simp
  clear hX
  refine (refPush31 (fun b => G b ∧ b < w.heap.size) most first (.slice none 0 0) _ [] xs k X HB.out.1 HB.out.2.1 HB.out.2.2.1 (by have := HB.out.2.2.2.1; simp; omega) (by simp) HB.out.2.2.2.2.1 (El.Rd.nil _ _) (HU.out.sees hsX) (by have := HB.out.2.2.2.2.2; simp; omega)).mono ?_
  rintro e w3 ⟨⟨v', rfl, hv'⟩, hs3⟩
  obtain ⟨a', c', rfl, _⟩ := hv'.slice'
  have A3 := A2.sees hs3
  have HR := Lib.hid hv'
  have HS := Lib.hid (hsX.trans hs3)
  have HZ := Lib.hid hzX
  clear hv' A2 hsX hs3 hzX
  obtain ⟨y0, y1, y2⟩ := A3.c
  have fy := A3.fr
  go_wp2_with fail
  have hlk : (List.drop k ([] ++ xs)).length = xs.length - k := by simp
  rw [hlk] at HR
  have hE := A3.set3 most (first + (k : Int)) (.slice a' (xs.length - k) c')
  have hk9 : Keeps (fun b => b = w.heap.size + 1) w3 (((w3.setCell ⟨w.heap.size + 1, 0, none⟩ (.int .i64 most)).setCell ⟨w.heap.size + 1, 1, none⟩ (.int .i64 (first + (k : Int)))).setCell ⟨w.heap.size + 1, 2, none⟩ (.slice a' (xs.length - k) c')) :=
    (((Keeps.refl (fun b => b = w.heap.size + 1) w3).setCell (p := ⟨w.heap.size + 1, 0, none⟩) (fun _ => rfl) _).setCell (p := ⟨w.heap.size + 1, 1, none⟩) (fun _ => rfl) _).setCell (p := ⟨w.heap.size + 1, 2, none⟩) (fun _ => rfl) _
  obtain ⟨z0, z1, z2⟩ := hE.c
  have hS9 := ((Keeps.of_sees (F := fun _ => False) HS.out).trans' hk9 (fun b hb e => by have e : b = w.heap.size + 1 := e; omega)).sees_end (fun _ _ h => h)
  refine bodyPost_ret_by (v := .agg #[.int .i64 most, .int .i64 (first + (k : Int)), .slice a' (xs.length - k) c']) (by simp [results, Tryd.results76, go_sem, z0, z1, z2]) rfl ⟨⟨_, rfl, ?_⟩, hS9⟩
  exact (HR.out.keeps hk9 (fun b hb e => by
    have e : b = w.heap.size + 1 := e
    have := HZ.out
    rcases hb with h | h
    · have := h.1.2; omega
    · omega)).mono (fun b _ h => by
    have := HZ.out
    rcases h with h | h
    · exact .inl h.1
    · exact .inr (by omega))
end Go.Proofs.YtpicffaghoggdaaDoor

namespace Go.Proofs.YtpicffaghoggdaaDoor
set_option linter.unusedVariables false
set_option linter.unusedSimpArgs false
open Go.RowKit

set_option maxRecDepth 100000 in
set_option maxHeartbeats 4000000 in
theorem ref28Copy_any (F : Nat → Prop) (v : Value) (xs : List Ln) (w : World) (ha : lnEl.Rd F w v xs) (hn : xs.length ≤ 100000) (hnc : ∀ l ∈ xs, l.cells.length ≤ 1000000) :
    Calls Tryd.prog 75 #[v] w fun e w' => ∃ v', e = .returned v' ∧ lnEl.Own (fun b => w.heap.size ≤ b) w' v' xs ∧ Sees w w' := by
  have hw := Sees.refl w
  have Hnc := Lib.hid hnc
  obtain ⟨ao, ca, rfl, _⟩ := ha.slice'
  have Ha := Lib.hid ha
  obtain ⟨n, hna⟩ : ∃ n, n = xs.length := ⟨_, rfl⟩
  rw [← hna] at hn Ha
  rw [← hna]
  have Hna := Lib.hid hna
  clear hna ha hnc
  have hval : ∀ x v, (Spec.is x).val v = x := fun _ _ => rfl
  have hval2 : ∀ V v, (Spec.so V).val v = v := fun _ _ => rfl
  go_enter Tryd.func75, Tryd.ntmps75
  go_wp2
  go_loopw [3, 4] (fun v i W => ∃ k : Nat, k ≤ n ∧ i = .int .i64 k ∧ lnEl.Own (fun b => w.heap.size ≤ b) W v (xs.take k) ∧ Sees w W) (fun _ i _ => n - (intOf i).toNat)
  case atStart => exact ⟨0, by omega, rfl, El.Own.nil _ _, hw⟩
  case round =>
    obtain ⟨k, hk, rfl, ho, hS⟩ := hrel
    obtain ⟨a3, c3, hv3, _⟩ := ho.slice
    subst hv3
    have Ho := Lib.hid ho
    have HS := Lib.hid hS
    clear ho hS
    by_cases hlt : k < n
    · obtain ⟨b1, o1, x, a1, m1, rfl, _, hx, _, x1, x2, x3⟩ := Ha.out.line hlt
      have Hx := Lib.hid hx
      have X1 := Lib.hid x1
      have X2 := Lib.hid x2
      have X3 := Lib.hid x3
      have Hxl := Lib.hid (Hnc.out x (List.mem_iff_getElem?.2 ⟨_, hx⟩))
      clear hx x1 x2 x3
      generalize hl1 : x.cells.length = n1 at *
      have Hn1 := Lib.hid hl1
      clear hl1
      generalize hM : (xs.take k).length = M at *
      have HM : Hid (M ≤ 100000) := by unfold Hid; rw [← hM, List.length_take]; omega
      have HMl := Lib.hid hM
      clear hM
      go_wp2
      refine wpFrom_go (by kernel_rfl) (by kernel_rfl) (fun hB w5 hw5 => ?_)
      have Ho5 := Lib.hid (Ho.out.sees hw5).cut
      have HS5 := Lib.hid (HS.out.trans hw5)
      clear hw5 HS Ho
      have hst : segStay (Sees w5) [.is (.slice a3 M c3), .is (.slice (some ⟨b1, o1, none⟩) n ca), .is (.int .i64 k), .is (.pointer (some ⟨b1, o1 + k * 2, none⟩)), .is (.pointer (some ⟨b1, o1 + k * 2, none⟩)), .is (.slice a1 n1 m1),
          .so (fun v W => OwnCells W w5.heap.size v x.cells), .is (.slice (some ⟨b1, o1, none⟩) n ca), .is (.int .i64 k), .is (.pointer (some ⟨b1, o1 + k * 2, none⟩)), .is (.pointer (some ⟨b1, o1 + k * 2 + 1, none⟩)), .is (.bool x.soft),
          .so (fun x' W => ∃ v', x' = .agg #[v', .bool x.soft] ∧ OwnCells W w5.heap.size v' x.cells),
          .so (fun x' W => ∃ b v', x' = .slice (some ⟨b, 0, none⟩) 1 1 ∧ W.heap[b]? = some (.cells #[v', .bool x.soft] 40 (0, 0)) ∧ OwnCells W w5.heap.size v' x.cells)] :=
        ⟨fun u W W' _ h hs => h.sees hs, fun u W W' _ ⟨v', h1, h2⟩ hs => ⟨v', h1, h2.sees hs⟩, fun u W W' _ ⟨b, v', h1, h2, h3⟩ hs => ⟨b, v', h1, by rw [hs.block _ (Array.getElem?_eq_some_iff.1 h2).1]; exact h2, h3.sees hs⟩, trivial⟩
      refine wpFrom_any 14 _ hB (by kernel_rfl) rfl hst (by simp only [List.cons_append, List.nil_append, List.drop_succ_cons, List.drop_zero, List.take_succ_cons, List.take_zero, Nat.reduceSub]; rfl) ?_
      refine ⟨fun vs W hI hV => .inl ⟨by clear hI hV hst; go_simp, .inl (by clear hI hV hst; (try simp only [Act.put, hval, hval2, List.setIfInBounds_toArray, List.set_cons_zero, List.set_cons_succ]); go_simp)⟩, ?_⟩
      refine ⟨fun vs W hI hV => .inl ⟨by clear hI hV hst; go_simp, .inl (by clear hI hV hst; (try simp only [Act.put, hval, hval2, List.setIfInBounds_toArray, List.set_cons_zero, List.set_cons_succ]); go_simp)⟩, ?_⟩
      refine ⟨fun vs W hI hV => .inl ⟨by clear hI hV hst; go_simp, .inl (by clear hI hV hst; (try simp only [Act.put, hval, hval2, List.setIfInBounds_toArray, List.set_cons_zero, List.set_cons_succ]); go_simp)⟩, ?_⟩
      refine ⟨fun vs W hI hV => .inl ⟨by clear hI hV hst; go_simp, .inl (by clear hI hV hst; (try simp only [Act.put, hval, hval2, List.setIfInBounds_toArray, List.set_cons_zero, List.set_cons_succ]); go_simp)⟩, ?_⟩
      refine ⟨fun vs W hI hV => .inl ⟨by clear hI hV hst; go_simp, .inl (by clear hI hV hst; (try simp only [Act.put, hval, hval2, List.setIfInBounds_toArray, List.set_cons_zero, List.set_cons_succ]); go_simp)⟩, ?_⟩
      refine ⟨fun vs W hI hV => .inl ⟨by clear hI hV hst; go_simp, .inl (by have q1 := (HS5.out.trans hI).cell X1.out; clear hI hV hst; (try simp only [Act.put, hval, hval2, List.setIfInBounds_toArray, List.set_cons_zero, List.set_cons_succ]); go_simp)⟩, ?_⟩
      refine ⟨fun vs W hI hV => ?_, ?_⟩
      · obtain ⟨v', W', h1, h2, h3⟩ := run_append_new 38 w5.heap.size (.slice a1 n1 m1) x.cells ((X3.out.sees (HS5.out.trans hI)).rdCells) (by rw [Hn1.out]; have := Hxl.out; omega) hI.size
        exact .inl ⟨by clear hI hV hst h1 h2 h3; go_simp, .inl ⟨v', W', exec_append rfl (by clear hI hV hst h1 h2 h3; (try simp only [Act.put, hval, hval2, List.setIfInBounds_toArray, List.set_cons_zero, List.set_cons_succ]); go_simp) (by clear hI hV hst h1 h2 h3; (try simp only [Act.put, hval, hval2, List.setIfInBounds_toArray, List.set_cons_zero, List.set_cons_succ]); go_simp) h1, rgGood_mk hst hI h2 h3⟩⟩
      refine ⟨fun vs W hI hV => .inl ⟨by clear hI hV hst; go_simp, .inl (by clear hI hV hst; (try simp only [Act.put, hval, hval2, List.setIfInBounds_toArray, List.set_cons_zero, List.set_cons_succ]); go_simp)⟩, ?_⟩
      refine ⟨fun vs W hI hV => .inl ⟨by clear hI hV hst; go_simp, .inl (by clear hI hV hst; (try simp only [Act.put, hval, hval2, List.setIfInBounds_toArray, List.set_cons_zero, List.set_cons_succ]); go_simp)⟩, ?_⟩
      refine ⟨fun vs W hI hV => .inl ⟨by clear hI hV hst; go_simp, .inl (by clear hI hV hst; (try simp only [Act.put, hval, hval2, List.setIfInBounds_toArray, List.set_cons_zero, List.set_cons_succ]); go_simp)⟩, ?_⟩
      refine ⟨fun vs W hI hV => .inl ⟨by clear hI hV hst; go_simp, .inl (by clear hI hV hst; (try simp only [Act.put, hval, hval2, List.setIfInBounds_toArray, List.set_cons_zero, List.set_cons_succ]); go_simp)⟩, ?_⟩
      refine ⟨fun vs W hI hV => .inl ⟨by clear hI hV hst; go_simp, .inl (by have q1 := (HS5.out.trans hI).cell X2.out; clear hI hV hst; (try simp only [Act.put, hval, hval2, List.setIfInBounds_toArray, List.set_cons_zero, List.set_cons_succ]); go_simp)⟩, ?_⟩
      refine ⟨fun vs W hI hV => ?_, ?_⟩
      · have h2 : OwnCells W w5.heap.size (vs 6) x.cells := hV 6 _ (by kernel_rfl) rfl
        obtain ⟨a', c', e⟩ := h2.slice
        exact .inl ⟨by clear hI hV hst h2; go_simp, .inl ⟨.agg #[.slice a' x.cells.length c', .bool x.soft], W, by clear hI hV hst h2; (try simp only [Act.put, hval, hval2, List.setIfInBounds_toArray, List.set_cons_zero, List.set_cons_succ]); go_simp, rgGood_mk hst hI ⟨_, rfl, e ▸ h2⟩ (Sees.refl W)⟩⟩
      refine ⟨fun vs W hI hV => ?_, ?_⟩
      · obtain ⟨v', e, h2⟩ : ∃ v', vs 12 = .agg #[v', .bool x.soft] ∧ OwnCells W w5.heap.size v' x.cells := hV 12 _ (by kernel_rfl) rfl
        obtain ⟨a', c', rfl⟩ := h2.slice
        have hs : Sees W (W.alloc (.cells #[.slice a' x.cells.length c', .bool x.soft] 40)) := (Sees.refl W).alloc _
        exact .inl ⟨by clear hI hV hst h2 hs; go_simp, .inl ⟨.slice (some ⟨W.heap.size, 0, none⟩) 1 1, W.alloc (.cells #[.slice a' x.cells.length c', .bool x.soft] 40), by clear hI hV hst h2 hs; (try simp only [Act.put, hval, hval2, List.setIfInBounds_toArray, List.set_cons_zero, List.set_cons_succ]); go_simp, rgGood_mk hst hI ⟨_, _, rfl, heap_alloc_new _ _, h2.sees hs⟩ hs⟩⟩
      intro vs w6 hI hV
      obtain ⟨b6, v6, hv6, hr6, ho6⟩ : ∃ b v', vs 13 = .slice (some ⟨b, 0, none⟩) 1 1 ∧ w6.heap[b]? = some (.cells #[v', .bool x.soft] 40 (0, 0)) ∧ OwnCells w6 w5.heap.size v' x.cells := hV 13 _ rfl
      have Hr6 := Lib.hid hr6
      have Hown6 := Lib.hid ho6.el
      have Ho6b := Lib.hid (fun g' (hg' : v6.ownBlock = some g') => El.rowLt ho6 hg')
      have Ho6 := Lib.hid (Ho5.out.sees hI)
      have HS6 := Lib.hid (HS5.out.trans hI)
      have Hz6 := Lib.hid hI.size
      have Hz5 := Lib.hid HS5.out.size
      clear hI hV hst hr6 ho6 Ho5 HS5
      have HcF : Hid (∀ b, (w.heap.size ≤ b ∧ b < w5.heap.size) → b < w6.heap.size) := fun b hb => by have := Hz6.out; omega
      have HcN : Hid (∀ b, (v6.ownBlock = some b ∧ w5.heap.size ≤ b) → b < w6.heap.size ∧ ¬ (w.heap.size ≤ b ∧ b < w5.heap.size)) := fun b hb => ⟨(Ho6b.out b hb.1).2, fun h => by have := h.2; omega⟩
      have HcL : Hid ((xs.take k).length + [x].length ≤ 100000000) := by unfold Hid; rw [HMl.out, List.length_cons, List.length_nil]; have := HM.out; omega
      (try simp only [Act.put, hval, hval2, List.setIfInBounds_toArray, List.set_cons_zero, List.set_cons_succ])
      go_simp
      clear hv6
      refine wpFrom_to 16 hB (fun _ _ _ _ _ h => h) (by kernel_rfl) (by simp only [List.cons_append, List.nil_append, List.drop_succ_cons, List.drop_zero, List.take_succ_cons, List.take_zero, Nat.reduceSub]; rfl) ?_
      go_wp2_with (at_builtin; refine El.wpList_append_own (v := .slice a3 M c3) typedLn rfl (.tmp 11) (.tmp 24) rfl (by go_simp) Ho6.out ⟨b6, 0, none⟩ 1 1 (by go_simp) [v6, .bool x.soft] [x] _ (El.ownIn_one (E := lnEl) ⟨_, rfl, Hown6.out⟩) rfl (fun j u hu => El.row_cells Hr6.out j u hu) HcF.out HcN.out HcL.out ?_; intro v7 w7 ho7 hk7)
      refine wpFrom_end rfl ?_; go_wp2
      have HS7 : Sees w w7 := El.keep_new HS6.out hk7 (fun g' hg' => (Ho6.out.base hg').1.1)
      refine ⟨⟨k + 1, by omega, by go_num, ?_, HS7⟩, by simp [intOf] <;> omega⟩
      rw [List.take_add_one, Hx.out]
      exact ho7.mono (fun b _ h => by
        have := HS6.out.size
        have := Hz5.out
        rcases h with h | h | h
        · exact h.1
        · omega
        · omega)
    · obtain rfl : k = n := by omega
      have e : Hid (xs.take k = xs) := List.take_of_length_le (by rw [← Hna.out]; exact Nat.le_refl _)
      go_wp2
      go_ret
      exact ⟨.slice a3 (xs.take k).length c3, rfl, by have h := Ho.out; rw [e.out] at h ⊢; exact h, HS.out⟩
end Go.Proofs.YtpicffaghoggdaaDoor
