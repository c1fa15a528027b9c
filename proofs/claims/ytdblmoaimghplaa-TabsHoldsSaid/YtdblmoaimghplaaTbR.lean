/- The reference of tab stops (20): Resize, New, List, Next, Prev. No condition. -/
import Derived.Test.YtdblmoaimghplaaTbV
import Derived.Laws.OwnMore
import Derived.Maps.AppendAt
namespace Go.Proofs.Ytdblmoaimghplaa
set_option linter.unusedVariables false
set_option linter.unusedSimpArgs false
open Go.RowKit Go.Maps

theorem app_one {e t : TypeId} {z : Value} (bytes : Nat) (ht : Try.prog.underlying t = some (.slice e)) (hinf : (Try.prog.info? e).map (fun i => (i.zero, i.size, i.bytes)) = some (some z, 1, bytes)) (hby : bytes ≤ 8) (hzs : z.cells.size = 1) {w0 W : World} {v : Value} {k : Nat} {xs : List Value}
    (ho : W.ownsRow w0.heap.size e 1 v k xs) (hs : Sees w0 W) (hk : k ≤ 100000) (x : Value) (hx : x.oneCell' = true) :
    ∃ v' W', (Builtin.append_ #[t, t] t #[v, .slice (some ⟨W.heap.size, 0, none⟩) 1 1]).run Try.prog (W.alloc (.cells #[x] e)) = .ok v' W' ∧ W'.ownsRow w0.heap.size e 1 v' (k + 1) (xs ++ [x]) ∧ Sees w0 W' := by
  have hs2 := hs.alloc (.cells #[x] e)
  obtain ⟨i, hi, he⟩ := Option.map_eq_some_iff.1 hinf
  simp only [Prod.mk.injEq] at he
  obtain ⟨hz, h1, rfl⟩ := he
  obtain ⟨v', W', h2, h3, h4, _⟩ := run_append_own_at (P := Try.prog) (w := W.alloc (.cells #[x] e)) w0.heap.size t t e i z 1 i.bytes ht hi hz h1 rfl hzs (by decide) v k xs (ho.alloc _) ⟨W.heap.size, 0, none⟩ 1 1 [x] rfl (cell_one_new W x e) (fun u hu => by rw [List.mem_singleton.1 hu]; exact hx)
    (by unfold maxLen; omega) (Nat.le_trans (Nat.mul_le_mul (show k + 1 ≤ 100001 by omega) hby) (by decide)) hs2.size
  exact ⟨v', W', h2, h3, Below.grown hs2 h4 hs2.size (fun g hg => ((ho.alloc (.cells #[x] e)).lt g hg).1)⟩
theorem wp_app {ops : Array Oper} {rest : List Oper} {o : Oper} {a : Act} {Q : Exit → Act → World → Prop} {v u v' : Value} {W W' : World} (t : TypeId) (hgd : o.guard = none) (s x : Operand) (ho : o.op = .call { callee := .builtin .append, args := #[s, x], argTypes := #[t, t] }) (hty : o.type = t)
    (hs : a.eval s = v) (hx : a.eval x = u) (hr : (Builtin.append_ #[t, t] t #[v, u]).run Try.prog W = .ok v' W') (h : wpList Try.prog ops Q rest (a.put o.dst v') W') : wpList Try.prog ops Q (o :: rest) a W := by
  refine wpList_plain hgd fun K hK => ?_
  unfold Oper.wp execOp
  simp only [ho, hty, resolve, invoke, builtin, Sem.run_bind, Sem.run_pure, Result.andThen_ok, List.map_toArray, List.map_cons, List.map_nil, hs, hx, hr]
  exact hK _ _ h
theorem app_bool {w0 W : World} {v : Value} {k : Nat} {xs : List Value} (ho : W.ownsRow w0.heap.size 4 1 v k xs) (hs : Sees w0 W) (hk : k ≤ 100000) (x : Bool) :
    ∃ v' W', (Builtin.append_ #[47, 47] 47 #[v, .slice (some ⟨W.heap.size, 0, none⟩) 1 1]).run Try.prog (W.alloc (.cells #[.bool x] 4)) = .ok v' W' ∧ W'.ownsRow w0.heap.size 4 1 v' (k + 1) (xs ++ [.bool x]) ∧ Sees w0 W' :=
  app_one (z := .bool false) 1 Try.underlying47 (by kernel_rfl) (by decide) rfl ho hs hk _ rfl
theorem app_int {w0 W : World} {v : Value} {k : Nat} {xs : List Value} (ho : W.ownsRow w0.heap.size 3 1 v k xs) (hs : Sees w0 W) (hk : k ≤ 100000) (x : Int) :
    ∃ v' W', (Builtin.append_ #[33, 33] 33 #[v, .slice (some ⟨W.heap.size, 0, none⟩) 1 1]).run Try.prog (W.alloc (.cells #[.int .i64 x] 3)) = .ok v' W' ∧ W'.ownsRow w0.heap.size 3 1 v' (k + 1) (xs ++ [.int .i64 x]) ∧ Sees w0 W' :=
  app_one (z := .int .i64 0) 8 Try.underlying33 (by kernel_rfl) (by decide) rfl ho hs hk _ rfl
theorem row_keeps {W W' : World} {F : Nat → Prop} {base : Nat} {e : TypeId} {size n : Nat} {v : Value} {xs : List Value} (h : W.ownsRow base e size v n xs) (hk : Keeps F W W') (hF : ∀ g, v.ownBlock = some g → ¬ F g) : W'.ownsRow base e size v n xs := by
  obtain ⟨h1, h2⟩ := h
  refine ⟨h1, ?_⟩
  rcases h2 with h2 | ⟨g, cap, cur, rfl, h3, h4, h5⟩
  · exact .inl h2
  · exact .inr ⟨g, cap, cur, rfl, h3, hk.row (hF g rfl) h4, h5⟩
theorem row_nil (W : World) (base : Nat) (e : TypeId) : W.ownsRow base e 1 (.slice none 0 0) 0 [] := ⟨rfl, .inl ⟨rfl, rfl⟩⟩

/-- The reference's struct, and its row. -/
structure RfAt (W : World) (q b : Nat) (L : List Bool) : Prop where
  all : ∃ cap, W.heap[q]? = some (.cells #[.slice (some ⟨b, 0, none⟩) L.length cap] 49 (0, 0)) ∧ W.ownsRow 0 4 1 (.slice (some ⟨b, 0, none⟩) L.length cap) L.length (L.map Value.bool)
  ne : q ≠ b
  len : 1 ≤ L.length ∧ L.length ≤ 1000
namespace RfAt
variable {W W' : World} {q b : Nat} {L : List Bool} {F : Nat → Prop}
theorem keeps (h : RfAt W q b L) (hk : Keeps F W W') (h1 : ¬ F q) (h2 : ¬ F b) : RfAt W' q b L := by
  obtain ⟨cap, e1, e2⟩ := h.all
  exact ⟨⟨cap, hk.row h1 e1, row_keeps e2 hk (fun g hg => by cases hg; exact h2)⟩, h.ne, h.len⟩
theorem sees (h : RfAt W q b L) (hs : Sees W W') : RfAt W' q b L := h.keeps (Keeps.of_sees (F := fun _ => False) hs) (fun h => h) (fun h => h)
theorem lt (h : RfAt W q b L) : q < W.heap.size := by obtain ⟨cap, e1, _⟩ := h.all; exact (Array.getElem?_eq_some_iff.1 e1).1
theorem blt (h : RfAt W q b L) : b < W.heap.size := by obtain ⟨cap, _, e2⟩ := h.all; exact (e2.lt b rfl).2
theorem cs (h : RfAt W q b L) : ∃ cap, W.cell? ⟨q, 0, none⟩ = some (.slice (some ⟨b, 0, none⟩) L.length cap) ∧ L.length ≤ cap := by
  obtain ⟨cap, e1, e2⟩ := h.all
  refine ⟨cap, by rw [Go.cell_of_row W q 0 _ _ _ e1]; rfl, ?_⟩
  rcases e2.2 with ⟨h1, _⟩ | ⟨g, c, cur, h1, _, _, h2, _⟩
  · cases h1
  · cases h1; exact h2
theorem fr (h : RfAt W q b L) : W.frozen? ⟨q, 0, none⟩ = false := by obtain ⟨cap, e1, _⟩ := h.all; exact frozen_of_row W q 0 _ _ e1
theorem bfr (h : RfAt W q b L) (i : Nat) : W.frozen? ⟨b, i, none⟩ = false := by obtain ⟨cap, _, e2⟩ := h.all; exact e2.frozenAt i
theorem rd (h : RfAt W q b L) {i : Nat} (hi : i < L.length) : W.cell? ⟨b, i, none⟩ = some (.bool (L.getD i false)) := by
  obtain ⟨cap, _, e2⟩ := h.all
  rw [e2.cellAt i (by omega), List.getElem?_map, List.getD_eq_getElem?_getD, List.getElem?_eq_getElem hi]
  rfl
end RfAt
section
variable {w : World} {q b : Nat} {L : List Bool}
theorem range_snoc (f : Nat → Bool) (k : Nat) : ((List.range k).map f).map Value.bool ++ [.bool (f k)] = ((List.range (k + 1)).map f).map Value.bool := by
  rw [List.range_succ, List.map_append, List.map_append]
  rfl
set_option maxHeartbeats 4000000 in
/-- Another number of columns, from whatever there was. -/
theorem rresize_from (L0 : List Bool) (ao : Option Addr) (cap0 : Nat) (hl0 : L0.length ≤ 1000) (hq : w.heap[q]? = some (.cells #[.slice ao L0.length cap0] 49 (0, 0))) (hao : ∀ i, i < L0.length → ∃ b, ao = some ⟨b, 0, none⟩ ∧ L0.length ≤ cap0 ∧ w.cell? ⟨b, i, none⟩ = some (.bool (L0.getD i false)))
    (c : Nat) (hc : 1 ≤ c ∧ c ≤ 1000) :
    Calls Try.prog 27 #[ptr q, i64 c] w fun e w' => e = .returned (.tuple #[]) ∧ (∃ b, w.heap.size ≤ b ∧ RfAt w' q b (resL L0 c)) ∧ Keeps (fun b => b = q) w w' := by
  have hql : q < w.heap.size := (Array.getElem?_eq_some_iff.1 hq).1
  have Hq := Lib.hid hq
  have Hao := Lib.hid hao
  clear hao hq
  obtain ⟨n0, hn0⟩ : ∃ n, n = L0.length := ⟨_, rfl⟩
  rw [← hn0] at Hq Hao hl0
  replace hn0 := Lib.hid hn0
  obtain ⟨f, hf⟩ : ∃ f : Nat → Bool, f = fun i => if i < L0.length then L0.getD i false else dfl i := ⟨_, rfl⟩
  replace hf := Lib.hid hf
  go_enter Try.func27, Try.ntmps27
  go_wp2
  go_loopw [4, 5] (fun v x W => ∃ k : Nat, x = .int .i64 k ∧ k ≤ c ∧ RowKit.Hid (W.ownsRow w.heap.size 4 1 v k (((List.range k).map f).map Value.bool)) ∧ RowKit.Hid (Sees w W)) (fun _ x _ => c - (vInt x).toNat)
  case atStart => exact ⟨0, rfl, by omega, Lib.hid (row_nil _ _ _), Lib.hid (Sees.refl w)⟩
  case round =>
    obtain ⟨k, rfl, hk, hO, hS⟩ := hrel
    have q0 : wr.cell? ⟨q, 0, none⟩ = some (.slice ao n0 cap0) := hS.out.cell (by rw [Go.cell_of_row w q 0 _ _ _ Hq.out]; rfl)
    by_cases hlt : k < c
    · by_cases hk0 : k < n0
      · obtain ⟨b0, rfl, hcap, hc0⟩ := Hao.out k hk0
        have hc1 := hS.out.cell hc0
        clear hc0
        have hfk : f k = L0.getD k false := by rw [hf.out]; exact if_pos (by rw [← hn0.out]; exact hk0)
        obtain ⟨x, hx⟩ : ∃ x, x = f k := ⟨_, rfl⟩
        rw [← hfk, ← hx] at hc1
        obtain ⟨v', W', hrun, hO', hS'⟩ := app_bool hO.out hS.out (by omega) x
        rw [hx, range_snoc] at hO'
        replace hO' := Lib.hid hO'
        replace hS' := Lib.hid hS'
        clear hfk hx
        go_wp2_with (at_builtin; refine wp_app 47 rfl (.tmp 18) (.tmp 26) rfl rfl rfl rfl hrun ?_)
        go_roundw
        case rel => exact ⟨k + 1, by go_num, by omega, hO', hS'⟩
        case measure => simp [vInt]; omega
      · have hfk : f k = dfl k := by rw [hf.out]; exact if_neg (by rw [← hn0.out]; exact hk0)
        obtain ⟨v', W', hrun, hO', hS'⟩ := app_bool hO.out hS.out (by omega) (dfl k)
        rw [← hfk, range_snoc] at hO'
        replace hO' := Lib.hid hO'
        replace hS' := Lib.hid hS'
        clear hfk
        by_cases h0 : 0 < k
        · have d1 : decide ((k : Int) > 0) = true := decide_eq_true (by omega)
          have d1' : decide (0 < (k : Int)) = true := decide_eq_true (by omega)
          have hrem : Int.tmod (k : Int) 8 = ((k % 8 : Nat) : Int) := by rw [Int.tmod_eq_emod_of_nonneg (by omega)]; omega
          have hdk : dfl k = (((k % 8 : Nat) : Int) == 0) := by
            unfold dfl
            rw [decide_eq_true h0, Bool.true_and]
            by_cases h8 : k % 8 = 0
            · rw [h8]; rfl
            · rw [decide_eq_false h8]
              exact (beq_eq_false_iff_ne.2 (by omega)).symm
          rw [hdk] at hrun
          clear hdk
          go_wp2_with (at_builtin; refine wp_app 47 rfl (.tmp 28) (.tmp 36) rfl rfl rfl rfl hrun ?_)
          go_roundw
          case rel => exact ⟨k + 1, by go_num, by omega, hO', hS'⟩
          case measure => simp [vInt]; omega
        · obtain rfl : k = 0 := by omega
          have d1 : decide (((0 : Nat) : Int) > 0) = false := rfl
          go_wp2_with (at_builtin; refine wp_app 47 rfl (.tmp 28) (.tmp 36) rfl rfl rfl rfl hrun ?_)
          go_roundw
          case rel => exact ⟨1, by go_num, by omega, hO', hS'⟩
          case measure => simp [vInt]; omega
    · obtain rfl : k = c := by omega
      obtain ⟨hlen, hrow⟩ := hO.out
      rcases hrow with ⟨_, h0⟩ | ⟨g, cap, cur, rfl, hg, hrow⟩
      · omega
      have hf0 : wr.frozen? ⟨q, 0, none⟩ = false := frozen_of_row wr q 0 _ _ (by rw [hS.out.block q hql]; exact Hq.out)
      have hO2 := hO.out
      have hS2 := hS.out
      have hHq := Hq.out
      clear hrow hO Hao
      go_wp2
      go_end0
      have hKq : Keeps (fun b => b = q) wr (wr.setCell ⟨q, 0, none⟩ (.slice (some ⟨g, 0, none⟩) k cap)) := (Keeps.refl (fun b => b = q) wr).setCell (p := ⟨q, 0, none⟩) (fun _ => rfl) _
      have er : resL L0 k = (List.range k).map f := by unfold resL; rw [hf.out]
      refine ⟨rfl, ⟨g, hg, ⟨⟨cap, ?_, ?_⟩, by omega, by rw [resL_length]; omega⟩⟩, (Keeps.of_sees (F := fun b => b = q) hS2).setCell (p := ⟨q, 0, none⟩) (fun _ => rfl) _⟩
      · rw [resL_length]
        exact heap_setCell_same _ _ _ _ _ _ (by rw [hS2.block q hql]; exact hHq)
      · rw [resL_length, er]
        exact row_keeps (ownsRow_base_a hO2 (Nat.zero_le _)) hKq (fun x hx => by cases hx; show ¬ g = q; omega)
theorem rresize_at (h : RfAt w q b L) (c : Nat) (hc : 1 ≤ c ∧ c ≤ 1000) :
    Calls Try.prog 27 #[ptr q, i64 c] w fun e w' => e = .returned (.tuple #[]) ∧ (∃ b, w.heap.size ≤ b ∧ RfAt w' q b (resL L c)) ∧ Keeps (fun b => b = q) w w' := by
  obtain ⟨cap, e1, e2⟩ := h.all
  have hcap : L.length ≤ cap := by
    rcases e2.2 with ⟨h1, _⟩ | ⟨g, c, cur, h1, _, _, h2, _⟩
    · cases h1
    · cases h1; exact h2
  exact rresize_from L (some ⟨b, 0, none⟩) cap h.len.2 e1 (fun i hi => ⟨b, rfl, hcap, h.rd hi⟩) c hc
set_option maxHeartbeats 1000000 in
theorem rnew_at (w : World) (c : Nat) (hc : 1 ≤ c ∧ c ≤ 1000) : Calls Try.prog 10 #[i64 c] w fun e w' => ∃ q b, e = .returned (ptr q) ∧ w.heap.size ≤ q ∧ w.heap.size ≤ b ∧ RfAt w' q b (defL c) ∧ Sees w w' := by
  have hs0 : Sees w (w.alloc (.cells #[.slice none 0 0] 49)) := (Sees.refl w).alloc _
  have hsz : (w.alloc (.cells #[.slice none 0 0] 49)).heap.size = w.heap.size + 1 := by simp
  have hr := rresize_from (w := w.alloc (.cells #[.slice none 0 0] 49)) (q := w.heap.size) [] none 0 (by simp) (heap_alloc_new w _) (fun i hi => by simp at hi) c hc
  go_enter Try.func10, Try.ntmps10
  go_wp2_with fail
  refine hr.mono ?_
  rintro e W1 ⟨rfl, ⟨b, hb, hR⟩, hK⟩
  go_wp2
  go_ret
  have e : resL [] c = defL c := by
    unfold resL defL
    exact List.map_congr_left fun i _ => by simp
  rw [e] at hR
  exact ⟨_, b, rfl, Nat.le_refl _, by omega, hR, ((Keeps.of_sees (F := fun b => b = w.heap.size) hs0).trans hK).sees_end (fun b hb e => by omega)⟩
theorem stops_snoc (L : List Bool) (k : Nat) : (((List.range (k + 1)).filter fun i => L.getD i false).map fun (i : Nat) => (i : Int)) = (((List.range k).filter fun i => L.getD i false).map fun (i : Nat) => (i : Int)) ++ if L.getD k false then [(k : Int)] else [] := by
  rw [List.range_succ, List.filter_append, List.map_append]
  congr 1
  cases h : L.getD k false
  all_goals
    simp only [List.filter_cons, List.filter_nil, h]
    rfl
set_option maxHeartbeats 4000000 in
theorem rlist_at (h : RfAt w q b L) : Calls Try.prog 14 #[ptr q] w fun e w' => ∃ v, e = .returned v ∧ w'.ownsRow w.heap.size 3 1 v (stopsL L).length ((stopsL L).map i64) ∧ Sees w w' := by
  obtain ⟨cap, q0, hcap⟩ := h.cs
  have hl := h.len
  have H := Lib.hid h
  clear h
  obtain ⟨N, hN⟩ : ∃ N, N = L.length := ⟨_, rfl⟩
  rw [← hN] at q0 hcap hl
  replace hN := Lib.hid hN
  have HQ := Lib.hid q0
  clear q0
  go_enter Try.func14, Try.ntmps14
  go_wp2
  go_loopw [3, 4] (fun v x W => ∃ (k : Nat) (xs : List Int), x = .int .i64 k ∧ k ≤ N ∧ xs.length ≤ k ∧ RowKit.Hid (xs = (((List.range k).filter fun i => L.getD i false).map fun (i : Nat) => (i : Int))) ∧ RowKit.Hid (W.ownsRow w.heap.size 3 1 v xs.length (xs.map i64)) ∧ RowKit.Hid (Sees w W)) (fun _ x _ => N - (vInt x).toNat)
  case atStart => exact ⟨0, [], rfl, by omega, by simp, Lib.hid rfl, Lib.hid (row_nil _ _ _), Lib.hid (Sees.refl w)⟩
  case round =>
    obtain ⟨k, xs, rfl, hk, hxk, hX, hO, hS⟩ := hrel
    have q0 := hS.out.cell HQ.out
    by_cases hlt : k < N
    · have hc1 := hS.out.cell (H.out.rd (i := k) (by have := hN.out; omega))
      obtain ⟨x, hx⟩ : ∃ x, x = L.getD k false := ⟨_, rfl⟩
      rw [← hx] at hc1
      have hsn := stops_snoc L k
      rw [← hX.out, ← hx] at hsn
      replace hsn := Lib.hid hsn
      clear hx
      cases x
      · go_wp2
        go_roundw
        case rel => exact ⟨k + 1, xs, by go_num, by omega, by omega, Lib.hid (by rw [hsn.out]; simp), hO, hS⟩
        case measure => simp [vInt]; omega
      · obtain ⟨v', W', hrun, hO', hS'⟩ := app_int hO.out hS.out (by omega) (k : Int)
        replace hO' := Lib.hid hO'
        replace hS' := Lib.hid hS'
        go_wp2_with (at_builtin; refine wp_app 33 rfl (.tmp 21) (.tmp 23) rfl rfl rfl rfl hrun ?_)
        go_roundw
        case rel => exact ⟨k + 1, xs ++ [(k : Int)], by go_num, by omega, by rw [List.length_append]; simp; omega, Lib.hid (by rw [hsn.out]; rfl), Lib.hid (by rw [List.length_append, List.map_append]; exact hO'.out), hS'⟩
        case measure => simp [vInt]; omega
    · obtain rfl : k = N := by omega
      go_wp2
      go_ret
      have e : xs = stopsL L := by rw [hX.out]; unfold stopsL; rw [hN.out]
      rw [← e]
      exact ⟨_, rfl, hO.out, hS.out⟩
set_option maxHeartbeats 4000000 in
theorem rnext_at (h : RfAt w q b L) (n col : Nat) (hc : col < L.length) (hn : n ≤ 9223372036854775807) : Calls Try.prog 28 #[ptr q, i64 col, i64 n] w fun e w' => e = .returned (i64 (up L n col)) ∧ w' = w := by
  obtain ⟨cap, q0, hcap⟩ := h.cs
  have hl := h.len
  have H := Lib.hid h
  clear h
  obtain ⟨V, hV⟩ : ∃ V, V = up L n col := ⟨_, rfl⟩
  rw [← hV]
  replace hV := Lib.hid hV
  obtain ⟨N, hN⟩ : ∃ N, N = L.length := ⟨_, rfl⟩
  rw [← hN] at q0 hcap hl hc
  replace hN := Lib.hid hN
  have hw1 := IntWalk.i64_in ((N : Int) - 1) (by omega)
  go_enter Try.func28, Try.ntmps28
  go_wp2
  go_loop [1, 7] (fun x y => ∃ k j : Nat, x = .int .i64 k ∧ y = .int .i64 j ∧ k < N ∧ j ≤ n ∧ RowKit.Hid (up L (n - j) k = V)) (fun x _ => N - (vInt x).toNat)
  case atStart => exact ⟨col, 0, rfl, rfl, hc, by omega, Lib.hid hV.out.symm⟩
  case round =>
    obtain ⟨k, j, rfl, rfl, hk, hj, hm⟩ := hrel
    by_cases hjn : j = n
    · subst hjn
      have d1 : decide ((j : Int) < (j : Int)) = false := decide_eq_false (by omega)
      have e := hm.out
      rw [Nat.sub_self, up_zero] at e
      subst e
      go_wp2
      go_ret
      exact ⟨rfl, rfl⟩
    · have d1 : decide ((j : Int) < (n : Int)) = true := decide_eq_true (by omega)
      by_cases hke : k + 1 = N
      · have d2 : decide ((k : Int) < (N : Int) - 1) = false := decide_eq_false (by omega)
        have e := hm.out
        rw [up_end L _ (by have := hN.out; omega)] at e
        subst e
        go_wp2
        go_ret
        exact ⟨rfl, rfl⟩
      · have d2 : decide ((k : Int) < (N : Int) - 1) = true := decide_eq_true (by omega)
        have e := hm.out
        rw [up_step L (by have := hN.out; omega) (by omega)] at e
        replace e := Lib.hid e
        go_wp2
        go_loop [1] (fun x => ∃ i : Nat, x = .int .i64 i ∧ k < i ∧ i < N ∧ RowKit.Hid (up L (if L.getD i false then n - j - 1 else n - j) i = V)) (fun x => N - (vInt x).toNat)
        case atStart => exact ⟨k + 1, by go_num, by omega, by omega, e⟩
        case round =>
          obtain ⟨i, rfl, hki, hi, hmi⟩ := hrel
          have hcell := H.out.rd (i := i) (by have := hN.out; omega)
          obtain ⟨x, hx⟩ : ∃ x, x = L.getD i false := ⟨_, rfl⟩
          rw [← hx] at hcell
          have e2 := hmi.out
          rw [← hx] at e2
          clear hx hmi
          by_cases hie : i + 1 = N
          · have d3 : decide ((i : Int) < (N : Int) - 1) = false := decide_eq_false (by omega)
            rw [up_end L _ (by have := hN.out; omega)] at e2
            replace e2 := Lib.hid e2
            go_wp2
            go_round
            case rel => exact ⟨i, j + 1, rfl, by go_num, by omega, by omega, Lib.hid (by rw [up_end L _ (by have := hN.out; omega)]; exact e2.out)⟩
            case measure => simp [vInt]; omega
          · have d3 : decide ((i : Int) < (N : Int) - 1) = true := decide_eq_true (by omega)
            cases x
            · rw [if_neg (by decide), up_step L (by have := hN.out; omega) (by omega)] at e2
              replace e2 := Lib.hid e2
              go_wp2
              go_round
              case rel => exact ⟨i + 1, by go_num, by omega, by omega, e2⟩
              case measure => simp [vInt]; omega
            · rw [if_pos rfl] at e2
              replace e2 := Lib.hid e2
              go_wp2
              go_round
              case rel => exact ⟨i, j + 1, rfl, by go_num, by omega, by omega, Lib.hid (by rw [show n - (j + 1) = n - j - 1 by omega]; exact e2.out)⟩
              case measure => simp [vInt]; omega
set_option maxHeartbeats 4000000 in
theorem rprev_at (h : RfAt w q b L) (n col : Nat) (hc : col < L.length) (hn : n ≤ 9223372036854775807) : Calls Try.prog 29 #[ptr q, i64 col, i64 n] w fun e w' => e = .returned (i64 (dn L n col)) ∧ w' = w := by
  obtain ⟨cap, q0, hcap⟩ := h.cs
  have hl := h.len
  have H := Lib.hid h
  clear h
  obtain ⟨V, hV⟩ : ∃ V, V = dn L n col := ⟨_, rfl⟩
  rw [← hV]
  replace hV := Lib.hid hV
  obtain ⟨N, hN⟩ : ∃ N, N = L.length := ⟨_, rfl⟩
  rw [← hN] at q0 hcap hl hc
  replace hN := Lib.hid hN
  go_enter Try.func29, Try.ntmps29
  go_wp2
  go_loop [1, 7] (fun x y => ∃ k j : Nat, x = .int .i64 k ∧ y = .int .i64 j ∧ k < N ∧ j ≤ n ∧ RowKit.Hid (dn L (n - j) k = V)) (fun x y => (vInt x).toNat + (if (vInt x).toNat = 0 then 0 else 1))
  case atStart => exact ⟨col, 0, rfl, rfl, hc, by omega, Lib.hid hV.out.symm⟩
  case round =>
    obtain ⟨k, j, rfl, rfl, hk, hj, hm⟩ := hrel
    by_cases hjn : j = n
    · subst hjn
      have d1 : decide ((j : Int) < (j : Int)) = false := decide_eq_false (by omega)
      have e := hm.out
      rw [Nat.sub_self, dn_zero] at e
      subst e
      go_wp2
      go_ret
      exact ⟨rfl, rfl⟩
    · have d1 : decide ((j : Int) < (n : Int)) = true := decide_eq_true (by omega)
      cases k with
      | zero =>
        have e : 0 = V := hm.out
        subst e
        go_wp2
        go_ret
        exact ⟨rfl, rfl⟩
      | succ k =>
        have d2 : decide (((k + 1 : Nat) : Int) > 0) = true := decide_eq_true (by omega)
        have d2' : decide (0 < ((k + 1 : Nat) : Int)) = true := decide_eq_true (by omega)
        have e := hm.out
        rw [dn_step L (by omega)] at e
        replace e := Lib.hid e
        go_wp2
        go_loop [1] (fun x => ∃ i : Nat, x = .int .i64 i ∧ i < k + 1 ∧ RowKit.Hid (dn L (if L.getD i false then n - j - 1 else n - j) i = V)) (fun x => (vInt x).toNat)
        case atStart => exact ⟨k, by go_num, by omega, e⟩
        case round =>
          obtain ⟨i, rfl, hi, hmi⟩ := hrel
          cases i with
          | zero =>
            have e2 : 0 = V := hmi.out
            go_wp2
            go_round
            case rel => exact ⟨0, j + 1, rfl, by go_num, by omega, by omega, Lib.hid (by rw [← e2]; rfl)⟩
            case measure => simp [vInt]
          | succ i =>
            have d3 : decide (((i + 1 : Nat) : Int) > 0) = true := decide_eq_true (by omega)
            have d3' : decide (0 < ((i + 1 : Nat) : Int)) = true := decide_eq_true (by omega)
            have hcell := H.out.rd (i := i + 1) (by have := hN.out; omega)
            obtain ⟨x, hx⟩ : ∃ x, x = L.getD (i + 1) false := ⟨_, rfl⟩
            rw [← hx] at hcell
            have e2 := hmi.out
            rw [← hx] at e2
            clear hx hmi
            cases x
            · rw [if_neg (by decide), dn_step L (by omega)] at e2
              replace e2 := Lib.hid e2
              go_wp2
              go_round
              case rel => exact ⟨i, by go_num, by omega, e2⟩
              case measure => simp [vInt]; try omega
            · rw [if_pos rfl] at e2
              replace e2 := Lib.hid e2
              go_wp2
              go_round
              case rel => exact ⟨i + 1, j + 1, rfl, by go_num, by omega, by omega, Lib.hid (by rw [show n - (j + 1) = n - j - 1 by omega]; exact e2.out)⟩
              case measure => simp [vInt]; try omega
end
end Go.Proofs.Ytdblmoaimghplaa
