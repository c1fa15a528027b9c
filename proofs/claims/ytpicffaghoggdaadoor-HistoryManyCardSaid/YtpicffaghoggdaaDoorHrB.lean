/- The reference of layer 31: Pull and Push. No condition. -/
import Derived.Test.YtpicffaghoggdaaDoorHrA
namespace Go.Proofs.YtpicffaghoggdaaDoor
set_option linter.unusedVariables false
set_option linter.unusedSimpArgs false
open Go.RowKit

set_option maxRecDepth 100000 in
set_option maxHeartbeats 4000000 in
theorem refPull31 (G : Nat → Prop) (most first : Int) (v : Value) (ls : List Ln) (q : Nat) (w : World) (hq : q ≤ ls.length) (hl : ls.length ≤ 1000000) (hv : lnEl.Rd G w v ls) :
    Calls Tryd.prog 40 #[.agg #[.int .i64 most, .int .i64 first, v], .int .i64 q] w fun e w' => (∃ v', e = .returned (.agg #[.int .i64 most, .int .i64 first, v']) ∧ lnEl.Rd (fun b => (G b ∧ b < w.heap.size) ∨ w.heap.size ≤ b) w' v' (ls.take (ls.length - q))) ∧ Sees w w' := by
  have Hv := Lib.hid (hv.mono (G := fun b => G b ∧ b < w.heap.size) (fun b hb h => ⟨h, hb⟩))
  obtain ⟨a, c, rfl, hvx⟩ := hv.slice'
  obtain ⟨h9, h9r⟩ := cut_to hv (ls.length - q) (Nat.sub_le _ _)
  obtain ⟨n, hnl⟩ : ∃ n, n = ls.length := ⟨_, rfl⟩
  rw [← hnl] at Hv hq hl h9 h9r ⊢
  have Hnl := Lib.hid hnl
  have H9 := Lib.hid h9
  have H9r := Lib.hid h9r
  have hgk : IntKind.i64.wrap ((n : Int) - (q : Int)) = ((n - q : Nat) : Int) := by rw [IntWalk.i64_in _ (by omega)]; omega
  clear h9 h9r hnl hvx hv
  go_enter Tryd.func40, Tryd.ntmps40
  go_wp2_with fail
  refine wp_world (fun w1 hw1 => ?_)
  have A0 : HrAt w1 w.heap.size most first (.slice a n c) := by subst hw1; exact (HrAt.new rfl).alloc _
  have A2 : HrAt w1 (w.heap.size + 1) 0 0 (.slice none 0 0) := by subst hw1; exact HrAt.new (by simp)
  have hs1 : Sees w w1 := by subst hw1; exact ((Sees.refl w).alloc _).alloc _
  have hdx : w.heap.size ≠ w.heap.size + 1 := by omega
  have HZ : Hid (w.heap.size + 2 ≤ w1.heap.size) := Lib.hid (by subst hw1; simp)
  clear hw1
  refine wpH_go (fun b => b = w.heap.size + 1) 14 (by kernel_rfl) (by kernel_rfl) (by rfl) (fun hB w4 hs4 => ?_)
  have S4 := Lib.hid (hs1.trans hs4)
  have D0 := Lib.hid (A0.sees hs4)
  have D2 := Lib.hid (A2.sees hs4)
  have R8 : Hid (lnEl.Rd (fun b => (G b ∧ b < w.heap.size) ∨ w1.heap.size ≤ b) w4 (.slice a (n - q) c) (ls.take (n - q))) := Lib.hid ((H9r.out _ _ (Hv.out.sees S4.out)).mono (fun b _ h => .inl h))
  clear A0 A2 hs4 hs1
  have hS0 : Keeps (fun b => b = w.heap.size + 1) w4 w4 := Keeps.refl _ w4
  refine wpH_take (i := 0) (v := .pointer (some ⟨w.heap.size, 0, none⟩)) hB (by rfl) (by kernel_rfl) (fun _ _ _ _ _ h => h) (by rfl) hS0 (fun W hI => by clear hI; go_simp) ?_; (try simp only [Act.put, List.setIfInBounds_toArray, List.set_cons_zero, List.set_cons_succ])
  refine wpH_take (i := 1) (v := .int .i64 most) hB (by rfl) (by kernel_rfl) (fun _ _ _ _ _ h => h) (by rfl) hS0 (fun W hI => by have q := (D0.out.keeps hI hdx).c; obtain ⟨q0, q1, q2⟩ := q; go_simp) ?_; (try simp only [Act.put, List.setIfInBounds_toArray, List.set_cons_zero, List.set_cons_succ])
  refine wpH_take (i := 2) (v := .pointer (some ⟨w.heap.size, 1, none⟩)) hB (by rfl) (by kernel_rfl) (fun _ _ _ _ _ h => h) (by rfl) hS0 (fun W hI => by clear hI; go_simp) ?_; (try simp only [Act.put, List.setIfInBounds_toArray, List.set_cons_zero, List.set_cons_succ])
  refine wpH_take (i := 3) (v := .int .i64 first) hB (by rfl) (by kernel_rfl) (fun _ _ _ _ _ h => h) (by rfl) hS0 (fun W hI => by have q := (D0.out.keeps hI hdx).c; obtain ⟨q0, q1, q2⟩ := q; go_simp) ?_; (try simp only [Act.put, List.setIfInBounds_toArray, List.set_cons_zero, List.set_cons_succ])
  refine wpH_take (i := 4) (v := .pointer (some ⟨w.heap.size, 2, none⟩)) hB (by rfl) (by kernel_rfl) (fun _ _ _ _ _ h => h) (by rfl) hS0 (fun W hI => by clear hI; go_simp) ?_; (try simp only [Act.put, List.setIfInBounds_toArray, List.set_cons_zero, List.set_cons_succ])
  refine wpH_take (i := 5) (v := .slice a n c) hB (by rfl) (by kernel_rfl) (fun _ _ _ _ _ h => h) (by rfl) hS0 (fun W hI => by have q := (D0.out.keeps hI hdx).c; obtain ⟨q0, q1, q2⟩ := q; go_simp) ?_; (try simp only [Act.put, List.setIfInBounds_toArray, List.set_cons_zero, List.set_cons_succ])
  refine wpH_take (i := 6) (v := .pointer (some ⟨w.heap.size, 2, none⟩)) hB (by rfl) (by kernel_rfl) (fun _ _ _ _ _ h => h) (by rfl) hS0 (fun W hI => by clear hI; go_simp) ?_; (try simp only [Act.put, List.setIfInBounds_toArray, List.set_cons_zero, List.set_cons_succ])
  refine wpH_take (i := 7) (v := .slice a n c) hB (by rfl) (by kernel_rfl) (fun _ _ _ _ _ h => h) (by rfl) hS0 (fun W hI => by have q := (D0.out.keeps hI hdx).c; obtain ⟨q0, q1, q2⟩ := q; go_simp) ?_; (try simp only [Act.put, List.setIfInBounds_toArray, List.set_cons_zero, List.set_cons_succ])
  refine wpH_take (i := 8) (v := .int .i64 (n : Int)) hB (by rfl) (by kernel_rfl) (fun _ _ _ _ _ h => h) (by rfl) hS0 (fun W hI => by clear hI; go_simp) ?_; (try simp only [Act.put, List.setIfInBounds_toArray, List.set_cons_zero, List.set_cons_succ])
  refine wpH_take (i := 9) (v := .int .i64 (q : Int)) hB (by rfl) (by kernel_rfl) (fun _ _ _ _ _ h => h) (by rfl) hS0 (fun W hI => by clear hI; go_simp) ?_; (try simp only [Act.put, List.setIfInBounds_toArray, List.set_cons_zero, List.set_cons_succ])
  refine wpH_take (i := 10) (v := .int .i64 ((n - q : Nat) : Int)) hB (by rfl) (by kernel_rfl) (fun _ _ _ _ _ h => h) (by rfl) hS0 (fun W hI => by clear hI; go_simp) ?_; (try simp only [Act.put, List.setIfInBounds_toArray, List.set_cons_zero, List.set_cons_succ])
  refine wpH_take (i := 11) (v := .slice a (n - q) c) hB (by rfl) (by kernel_rfl) (fun _ _ _ _ _ h => h) (by rfl) hS0 (fun W hI => exec_toL rfl (by go_simp) (by go_simp) (H9.out W)) ?_; (try simp only [Act.put, List.setIfInBounds_toArray, List.set_cons_zero, List.set_cons_succ])
  refine wpH_one (i := 12) (by kernel_rfl) (wpOp_val (v := .agg #[.int .i64 most, .int .i64 first, .slice a (n - q) c]) (w' := w4) (by rfl) (wanted_none (by rfl) _) (exec_build3 (a := .int .i64 most) (b := .int .i64 first) (c := .slice a (n - q) c) rfl (by go_simp) (by go_simp) (by go_simp) (by go_simp)) ⟨hS0, ?_⟩)
  (try simp only [Act.put, List.setIfInBounds_toArray, List.set_cons_zero, List.set_cons_succ])
  obtain ⟨y0, y1, y2⟩ := D2.out.c
  have fy := D2.out.fr
  obtain ⟨w9, hw9⟩ : ∃ w9, w9 = w4.setRow (w.heap.size + 1) #[.int .i64 most, .int .i64 first, .slice a (n - q) c] := ⟨_, rfl⟩
  have hst9 : (Instr.storeAt 60 (.pointer (some ⟨w.heap.size + 1, 0, none⟩)) (.agg #[.int .i64 most, .int .i64 first, .slice a (n - q) c])).run Tryd.prog w4 = .ok () w9 := by
    rw [hw9]
    exact run_storeAt_row (P := Tryd.prog) (W := w4) 60 (w.heap.size + 1) _ 60 [.int .i64 most, .int .i64 first, .slice a (n - q) c] (fun _ => by kernel_rfl) D2.out rfl (by intro v hv; simp only [List.mem_cons, List.not_mem_nil, or_false] at hv; rcases hv with rfl | rfl | rfl <;> rfl)
  have hk9 : Keeps (fun b => b = w.heap.size + 1) w4 w9 := by rw [hw9]; exact ⟨rfl, rfl, rfl, by simp [World.setRow], fun b hb hne => setRow_other w4 _ b _ hne⟩
  have D9 : HrAt w9 (w.heap.size + 1) most first (.slice a (n - q) c) := by rw [hw9]; exact setRow_heap _ _ _ _ _ (0, 0) D2.out
  have Hst9 := Lib.hid hst9
  have Hk9 := Lib.hid hk9
  have HD9 := Lib.hid D9
  clear hw9 hst9 hk9 D9 y0 y1 y2 fy
  refine wpH_one (i := 13) (by kernel_rfl) (wpOp_skip (w' := w9) (by rfl) (wanted_none (by rfl) _) (exec_store (a := .pointer (some ⟨w.heap.size + 1, 0, none⟩)) (v := .agg #[.int .i64 most, .int .i64 first, .slice a (n - q) c]) rfl (by go_simp) (by go_simp) Hst9.out) ⟨Hk9.out, ?_⟩)
  (try simp only [Act.put, List.setIfInBounds_toArray, List.set_cons_zero, List.set_cons_succ])
  refine wpH_end (by kernel_rfl) ?_
  go_wp2
  obtain ⟨y0, y1, y2⟩ := HD9.out.c
  have hS9 : Sees w w9 := ((Keeps.of_sees (F := fun _ => False) S4.out).trans' Hk9.out (fun b hb e => by have e : b = w.heap.size + 1 := e; omega)).sees_end (fun _ _ h => h)
  refine bodyPost_ret_by (v := .agg #[.int .i64 most, .int .i64 first, .slice a (n - q) c]) (by simp [results, Tryd.results40, go_sem, y0, y1, y2]) rfl ⟨⟨_, rfl, ?_⟩, hS9⟩
  exact (R8.out.keeps Hk9.out (fun b hb e => by
    have e : b = w.heap.size + 1 := e
    have := HZ.out
    rcases hb with h | h
    · have := h.2; omega
    · omega)).mono (fun b _ h => by
    have := HZ.out
    rcases h with h | h
    · exact .inl h
    · exact .inr (by omega))

set_option maxRecDepth 100000 in
set_option maxHeartbeats 4000000 in
theorem refPush31 (G : Nat → Prop) (most first : Int) (v u : Value) (ls xs : List Ln) (k : Nat) (w : World) (h0 : 0 ≤ most) (h1 : most ≤ 1048576) (hf : 0 ≤ first) (hf2 : first + ls.length + xs.length ≤ 1000000000) (hl : ls.length ≤ 10000000) (hx : xs.length ≤ 10000000) (hv : lnEl.Rd G w v ls) (hu : lnEl.Rd G w u xs) (hk : k = ls.length + xs.length - most.toNat) :
    Calls Tryd.prog 38 #[.agg #[.int .i64 most, .int .i64 first, v], u] w fun e w' => (∃ v', e = .returned (.agg #[.int .i64 most, .int .i64 (first + k), v']) ∧ lnEl.Rd (fun b => (G b ∧ b < w.heap.size) ∨ w.heap.size ≤ b) w' v' ((ls ++ xs).drop k)) ∧ Sees w w' := by
  have Hv := Lib.hid (hv.mono (G := fun b => G b ∧ b < w.heap.size) (fun b hb h => ⟨h, hb⟩))
  have Hu := Lib.hid (hu.mono (G := fun b => G b ∧ b < w.heap.size) (fun b hb h => ⟨h, hb⟩))
  obtain ⟨a, c, rfl, hvx⟩ := hv.slice'
  obtain ⟨ua, uc, rfl, hux⟩ := hu.slice'
  have Hl := Lib.hid (And.intro hl hx)
  have Hk := Lib.hid hk
  have Hf := Lib.hid (And.intro hf hf2)
  have Hm := Lib.hid (And.intro h0 h1)
  obtain ⟨n, hnl⟩ : ∃ n, n = ls.length := ⟨_, rfl⟩
  obtain ⟨m, hml⟩ : ∃ m, m = xs.length := ⟨_, rfl⟩
  rw [← hnl] at Hv ⊢
  rw [← hml] at Hu ⊢
  have Hn := Lib.hid (And.intro hnl hml)
  obtain ⟨N, hN⟩ : ∃ N, N = n + m := ⟨_, rfl⟩
  have HN := Lib.hid hN
  obtain ⟨z, hz⟩ : ∃ z, z = (N : Int) - most := ⟨_, rfl⟩
  have hwz : IntKind.i64.wrap ((N : Int) - most) = z := by rw [hz]; exact IntWalk.i64_in _ (by omega)
  have hmax : (if (0 : Int) < z then z else 0) = (k : Int) := by split <;> omega
  have Hmax := Lib.hid hmax
  have g0 : IntKind.i64.wrap (first + (k : Int)) = first + (k : Int) := IntWalk.i64_in _ (by omega)
  clear hv hu hvx hux hl hx hk hf hf2 h0 h1 hnl hml hN hz
  go_enter Tryd.func38, Tryd.ntmps38
  go_wp2_with (at_builtin; first
    | (refine El.wpList_append_row (G := fun b => G b ∧ b < w.heap.size) (base := w.heap.size + 2) typedLn rfl (.const (.slice none 0 0)) (.tmp 8) rfl rfl (El.Row.nil _ _ _) (.slice a n c) rfl ls (Hv.out.sees (((Sees.refl w).alloc _).alloc _)) (fun _ _ e => by cases e) (by have := Hl.out; simp; omega) (by simp) ?_; intro v1 W1 hrow1 hk1 _; obtain ⟨a1, c1, hv1, _⟩ := hrow1.slice; subst hv1; have HR1 := Lib.hid hrow1; have HS1 := Lib.hid (hk1.sees_end (fun b hb e => by cases e)); clear hrow1 hk1)
    | (refine El.wpList_append_row (G := fun b => G b ∧ b < w.heap.size) (base := w.heap.size + 2) typedLn rfl (.tmp 9) (.tmp 10) rfl rfl HR1.out (.slice ua m uc) rfl xs (Hu.out.sees ((((Sees.refl w).alloc _).alloc _).trans HS1.out)) (fun b hb e => by have := (El.Row.base_le HR1.out e).1; have := hb.2; omega) (by have := Hl.out; simp; omega) (by have := HS1.out.size; simpa using this) ?_; intro v2 W2 hrow2 hk2 _; obtain ⟨a2, c2, hv2, _⟩ := hrow2.slice; (first | have hNN : ([] ++ ls ++ xs).length = N := (by have h1 := HN.out; have h2 := Hn.out; simp; omega) | trace "A1"); (first | rw [hNN] at hv2 | trace "A2"); (first | subst hv2 | trace "A3"); have HR2 := Lib.hid hrow2; (first | have HS2 := Lib.hid (((Keeps.of_sees (F := fun _ => False) HS1.out).trans' hk2 (fun b hb e => by have h1 := (El.Row.base_le HR1.out e).1; simp at hb; omega)).sees_end (fun _ _ h => h)) | trace "B"); (first | have hB0 := ((HrAt.new (W := w) (p := most) (g := first) (v := .slice a n c) rfl).alloc _).sees HS2.out | trace "C"); obtain ⟨q0, q1, q2⟩ := hB0.c; clear hrow2 hk2 hB0))
  have HZ : Hid (w.heap.size + 2 ≤ w.heap.size + 2) := Lib.hid (Nat.le_refl _)
  have hR : lnEl.Rd (fun b => (G b ∧ b < w.heap.size) ∨ w.heap.size + 2 ≤ b) W2 (.slice a2 N c2) (ls ++ xs) := by
    have := HR2.out.rd (F := fun b => (G b ∧ b < w.heap.size) ∨ w.heap.size + 2 ≤ b) (fun b _ h => h)
    simpa using this
  have hkN : k ≤ N := by have := Hk.out; have := HN.out; have := Hn.out; omega
  obtain ⟨a9, c9, h9, h9r⟩ := cut_from hR k hkN
  have H9 := Lib.hid h9
  have R2 := Lib.hid (h9r _ _ hR)
  have A0 := Lib.hid (((HrAt.new (W := w) (p := most) (g := first) (v := .slice a n c) rfl).alloc (.cells #[.int .i64 0, .int .i64 0, .slice none 0 0] 60)).sees HS2.out)
  have A2 := Lib.hid ((HrAt.new (W := w.alloc (.cells #[.int .i64 most, .int .i64 first, .slice a n c] 60)) (n := w.heap.size + 1) (p := 0) (g := 0) (v := .slice none 0 0) (by simp)).sees HS2.out)
  have S2 := Lib.hid ((((Sees.refl w).alloc _).alloc _).trans HS2.out)
  have hdx : w.heap.size ≠ w.heap.size + 1 := by omega
  clear hR h9 h9r HR2 HS2 HR1 HS1 q0 q1 q2 hwz hmax
  refine wpH_go (fun b => b = w.heap.size + 1) 11 (by kernel_rfl) (by kernel_rfl) (by rfl) (fun hB w4 hs4 => ?_)
  have S4 := Lib.hid (S2.out.trans hs4)
  have D0 := Lib.hid (A0.out.sees hs4)
  have D2 := Lib.hid (A2.out.sees hs4)
  have R8 := Lib.hid (R2.out.sees hs4)
  clear A0 A2 hs4 R2 S2
  have hS0 : Keeps (fun b => b = w.heap.size + 1) w4 w4 := Keeps.refl _ w4
  refine wpH_take (i := 0) (v := .pointer (some ⟨w.heap.size, 0, none⟩)) hB (by rfl) (by kernel_rfl) (fun _ _ _ _ _ h => h) (by rfl) hS0 (fun W hI => by clear hI; go_simp) ?_; (try simp only [Act.put, List.setIfInBounds_toArray, List.set_cons_zero, List.set_cons_succ])
  refine wpH_take (i := 1) (v := .int .i64 most) hB (by rfl) (by kernel_rfl) (fun _ _ _ _ _ h => h) (by rfl) hS0 (fun W hI => by have q := (D0.out.keeps hI hdx).c; obtain ⟨q0, q1, q2⟩ := q; go_simp) ?_; (try simp only [Act.put, List.setIfInBounds_toArray, List.set_cons_zero, List.set_cons_succ])
  refine wpH_take (i := 2) (v := .pointer (some ⟨w.heap.size, 1, none⟩)) hB (by rfl) (by kernel_rfl) (fun _ _ _ _ _ h => h) (by rfl) hS0 (fun W hI => by clear hI; go_simp) ?_; (try simp only [Act.put, List.setIfInBounds_toArray, List.set_cons_zero, List.set_cons_succ])
  refine wpH_take (i := 3) (v := .int .i64 first) hB (by rfl) (by kernel_rfl) (fun _ _ _ _ _ h => h) (by rfl) hS0 (fun W hI => by have q := (D0.out.keeps hI hdx).c; obtain ⟨q0, q1, q2⟩ := q; go_simp) ?_; (try simp only [Act.put, List.setIfInBounds_toArray, List.set_cons_zero, List.set_cons_succ])
  refine wpH_take (i := 4) (v := .int .i64 (k : Int)) hB (by rfl) (by kernel_rfl) (fun _ _ _ _ _ h => h) (by rfl) hS0 (fun W hI => by (have hmax := Hmax.out); clear hI; go_simp) ?_; (try simp only [Act.put, List.setIfInBounds_toArray, List.set_cons_zero, List.set_cons_succ])
  refine wpH_take (i := 5) (v := .int .i64 (first + (k : Int))) hB (by rfl) (by kernel_rfl) (fun _ _ _ _ _ h => h) (by rfl) hS0 (fun W hI => by clear hI; go_simp) ?_; (try simp only [Act.put, List.setIfInBounds_toArray, List.set_cons_zero, List.set_cons_succ])
  refine wpH_take (i := 6) (v := .slice a2 N c2) hB (by rfl) (by kernel_rfl) (fun _ _ _ _ _ h => h) (by rfl) hS0 (fun W hI => by clear hI; go_simp) ?_; (try simp only [Act.put, List.setIfInBounds_toArray, List.set_cons_zero, List.set_cons_succ])
  refine wpH_take (i := 7) (v := .int .i64 (k : Int)) hB (by rfl) (by kernel_rfl) (fun _ _ _ _ _ h => h) (by rfl) hS0 (fun W hI => by (have hmax := Hmax.out); clear hI; go_simp) ?_; (try simp only [Act.put, List.setIfInBounds_toArray, List.set_cons_zero, List.set_cons_succ])
  refine wpH_take (i := 8) (v := .slice a9 (N - k) c9) hB (by rfl) (by kernel_rfl) (fun _ _ _ _ _ h => h) (by rfl) hS0 (fun W hI => exec_fromL (a := .slice a2 N c2) (b := .int .i64 k) rfl (by go_simp) (by go_simp) (H9.out W)) ?_; (try simp only [Act.put, List.setIfInBounds_toArray, List.set_cons_zero, List.set_cons_succ])
  refine wpH_one (i := 9) (by kernel_rfl) (wpOp_val (v := .agg #[.int .i64 most, .int .i64 (first + (k : Int)), .slice a9 (N - k) c9]) (w' := w4) (by rfl) (wanted_none (by rfl) _) (exec_build3 (a := .int .i64 most) (b := .int .i64 (first + (k : Int))) (c := .slice a9 (N - k) c9) rfl (by go_simp) (by go_simp) (by go_simp) (by go_simp)) ⟨hS0, ?_⟩)
  (try simp only [Act.put, List.setIfInBounds_toArray, List.set_cons_zero, List.set_cons_succ])
  obtain ⟨y0, y1, y2⟩ := D2.out.c
  have fy := D2.out.fr
  obtain ⟨w9, hw9⟩ : ∃ w9, w9 = w4.setRow (w.heap.size + 1) #[.int .i64 most, .int .i64 (first + (k : Int)), .slice a9 (N - k) c9] := ⟨_, rfl⟩
  have hst9 : (Instr.storeAt 60 (.pointer (some ⟨w.heap.size + 1, 0, none⟩)) (.agg #[.int .i64 most, .int .i64 (first + (k : Int)), .slice a9 (N - k) c9])).run Tryd.prog w4 = .ok () w9 := by
    rw [hw9]
    exact run_storeAt_row (P := Tryd.prog) (W := w4) 60 (w.heap.size + 1) _ 60 [.int .i64 most, .int .i64 (first + (k : Int)), .slice a9 (N - k) c9] (fun _ => by kernel_rfl) D2.out rfl (by intro v hv; simp only [List.mem_cons, List.not_mem_nil, or_false] at hv; rcases hv with rfl | rfl | rfl <;> rfl)
  have hk9 : Keeps (fun b => b = w.heap.size + 1) w4 w9 := by rw [hw9]; exact ⟨rfl, rfl, rfl, by simp [World.setRow], fun b hb hne => setRow_other w4 _ b _ hne⟩
  have D9 : HrAt w9 (w.heap.size + 1) most (first + (k : Int)) (.slice a9 (N - k) c9) := by rw [hw9]; exact setRow_heap _ _ _ _ _ (0, 0) D2.out
  have Hst9 := Lib.hid hst9
  have Hk9 := Lib.hid hk9
  have HD9 := Lib.hid D9
  clear hw9 hst9 hk9 D9 y0 y1 y2 fy
  refine wpH_one (i := 10) (by kernel_rfl) (wpOp_skip (w' := w9) (by rfl) (wanted_none (by rfl) _) (exec_store (a := .pointer (some ⟨w.heap.size + 1, 0, none⟩)) (v := .agg #[.int .i64 most, .int .i64 (first + (k : Int)), .slice a9 (N - k) c9]) rfl (by go_simp) (by go_simp) Hst9.out) ⟨Hk9.out, ?_⟩)
  (try simp only [Act.put, List.setIfInBounds_toArray, List.set_cons_zero, List.set_cons_succ])
  refine wpH_end (by kernel_rfl) ?_
  go_wp2
  obtain ⟨y0, y1, y2⟩ := HD9.out.c
  have hS9 : Sees w w9 := ((Keeps.of_sees (F := fun _ => False) S4.out).trans' Hk9.out (fun b hb e => by have e : b = w.heap.size + 1 := e; omega)).sees_end (fun _ _ h => h)
  refine bodyPost_ret_by (v := .agg #[.int .i64 most, .int .i64 (first + (k : Int)), .slice a9 (N - k) c9]) (by simp [results, Tryd.results38, go_sem, y0, y1, y2]) rfl ⟨⟨_, rfl, ?_⟩, hS9⟩
  exact (R8.out.keeps Hk9.out (fun b hb e => by
    have e : b = w.heap.size + 1 := e
    have := HZ.out
    rcases hb with h | h
    · have := h.2; omega
    · omega)).mono (fun b _ h => by
    have := HZ.out
    rcases h with h | h
    · exact .inl h
    · exact .inr (by omega))
end Go.Proofs.YtpicffaghoggdaaDoor
