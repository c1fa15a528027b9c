/- Copies of all lines. No condition. -/
import Derived.Test.YthjcnhgfagefjaaDoorDropAll
namespace Go.Proofs.YthjcnhgfagefjaaDoor
set_option linter.unusedVariables false
set_option linter.unusedSimpArgs false
open Go.RowKit

theorem lines_no (s : Value) (w : World) (h : NoPg w s) : Calls Tryd.prog 64 #[s] w fun e w' => e = .returned (.slice none 0 0) ∧ Sees w w' := by
  have H := Lib.hid h; clear h
  go_enter Tryd.func64, Tryd.ntmps64
  go_wp2_with fail
  refine (zero_no _ _ H.out).mono ?_
  rintro e w1 ⟨rfl, hs⟩
  go_wp2
  go_ret
  exact ⟨rfl, hs⟩
theorem wpList_append_line {ops : Array Oper} {rest : List Oper} {o : Oper} {a : Act} {Q : Exit → Act → World → Prop} {W : World} {F : Nat → Prop} (N : Nat) (hgd : o.guard = none) (s x : Operand)
    (ho : o.op = .call { callee := .builtin .append, args := #[s, x], argTypes := #[30, 30] }) (v : Value) (ls : List Ln) (hs : a.eval s = v) (h : OwnL (fun b => F b ∧ b < N) W v ls) (b c : Nat) (hx : a.eval x = .slice (some ⟨b, 0, none⟩) 1 c)
    (av : Value) (l : Ln) (x1 : W.cell? ⟨b, 0, none⟩ = some av) (x2 : W.cell? ⟨b, 1, none⟩ = some (.bool l.soft)) (hown : OwnCells W N av l.cells) (hN : ∀ b, N ≤ b → F b) (hz : N ≤ W.heap.size) (hn : ls.length ≤ 1000000)
    (hQ : ∀ v' W', OwnL F W' v' (ls ++ [l]) → Keeps (fun b => v.ownBlock = some b) W W' → wpList Tryd.prog ops Q rest (a.put o.dst v') W') : wpList Tryd.prog ops Q (o :: rest) a W := by
  obtain ⟨v', W', h1, h2, h3⟩ := run_append_line o.type N v ls h b c av l x1 x2 hown hN hz hn
  exact wpList_val hgd (exec_append ho hs hx h1) fun K hK => hK _ _ (hQ v' W' h2 h3)
set_option maxRecDepth 100000 in
set_option maxHeartbeats 1000000 in
theorem lines_ok (F : Nat → Prop) (p : Nat) (most gone : Int) (ls : List Ln) (w : World) (h : Page F w p most gone ls) (hm : 0 < most) (hn : ls.length ≤ 1024) (hc : ∀ l ∈ ls, l.cells.length ≤ 1000000) :
    Calls Tryd.prog 64 #[.pointer (some ⟨p, 0, none⟩)] w fun e w' => ∃ v', e = .returned v' ∧ OwnL (fun b => w.heap.size ≤ b) w' v' ls ∧ Sees w w' := by
  obtain ⟨Fp, sv, hp, hown⟩ := h
  obtain ⟨a, c, rfl⟩ := hown.slice
  obtain ⟨ao, cap, e0, hl⟩ := hown.rdl
  simp only [Value.slice.injEq] at e0
  obtain ⟨rfl, _, rfl⟩ := e0
  have H := Lib.hid hp
  have Hl := Lib.hid hl
  have Hc := Lib.hid hc
  have Hm := Lib.hid hm
  clear hp hown Fp hm hl hc
  obtain ⟨n, hnc⟩ : ∃ n, n = ls.length := ⟨_, rfl⟩
  rw [← hnc] at H hn
  have Hnc := Lib.hid hnc
  clear hnc
  go_enter Tryd.func64, Tryd.ntmps64
  go_wp2_with fail
  refine (zero_at _ p _ _ _ H.out Hm.out).mono ?_
  rintro e w1 ⟨rfl, hs⟩
  have q := (H.out.sees hs).c2
  have Hs := Lib.hid hs; clear hs
  go_wp2
  clear q
  go_loopw [3, 13] (fun v i wr => ∃ k : Nat, k ≤ n ∧ i = .int .i64 k ∧ OwnL (fun b => w.heap.size ≤ b) wr v (ls.take k) ∧ Sees w wr) (fun v i _ => n - (intOf i).toNat)
  case atStart => exact ⟨0, by omega, rfl, OwnL.nil _ _, Hs.out⟩
  case round =>
    obtain ⟨k, hk, rfl, ho, hS⟩ := hrel
    obtain ⟨a3, c3, rfl⟩ := ho.slice
    generalize (ls.take k).length = m at *
    have Ho := Lib.hid (ho.mono (G := fun b => w.heap.size ≤ b ∧ b < wr.heap.size) (fun b hb h => ⟨h, hb⟩))
    have Ho1 := Lib.hid ho
    have HS := Lib.hid hS
    have hz := Lib.hid hS.size
    clear ho
    by_cases hlt : k < n
    · obtain ⟨b, o, l, sx, rfl, _, hl, x1, x2, x3⟩ := RdL.line_at Hl.out Hnc.out hlt
      obtain ⟨ax, cx, e1, _⟩ := id x3
      subst e1
      have X3 := Lib.hid (x3.rd.sees hS)
      have Hcl := Lib.hid (Hc.out l (List.mem_iff_getElem?.2 ⟨_, hl⟩))
      have Hk := Lib.hid hl
      have y1 := hS.cell x1
      have y2 := hS.cell x2
      clear x1 x2 x3 hl hS
      obtain ⟨nl, hnl⟩ : ∃ nl, nl = l.cells.length := ⟨_, rfl⟩
      rw [← hnl] at X3 y1
      have Hnl := Lib.hid hnl
      clear hnl
      go_wp2_with fail
      refine (copy_any _ _ _ _ (X3.out.sees ((Sees.refl wr).alloc _)) Hcl.out).mono ?_
      rintro e w2 ⟨v', rfl, hown, hs2⟩
      obtain ⟨a', c', rfl⟩ := hown.slice
      have Hown := Lib.hid (hown.mono (base' := wr.heap.size) (by simp; omega))
      have HSw := Lib.hid (((Sees.refl wr).alloc _).trans hs2)
      have hz2 := Lib.hid HSw.out.size
      have hbF : Hid (∀ g, (Value.slice a3 m c3).ownBlock = some g → w.heap.size ≤ g) := by obtain ⟨_, _, h, _⟩ := Ho1.out; exact h
      clear hown hs2 y1 y2
      go_wp2_with (at_builtin; refine wpList_append_line (F := fun b => w.heap.size ≤ b) wr.heap.size rfl (.tmp 17) (.tmp 20) rfl _ (ls.take k) rfl (Ho.out.sees (HSw.out.alloc _)) w2.heap.size 1 rfl (.slice a' l.cells.length c') l (by simp) (by simp) (Hown.out.sees ((Sees.refl w2).alloc _)) (fun b hb => Nat.le_trans hz.out hb) (by have := hz2.out; simp; omega) (by simp; omega) ?_; intro v2 w3 ho3 hk3)
      have hw3 : Sees w w3 := ((Keeps.of_sees (F := fun _ => False) (HS.out.trans (HSw.out.alloc _))).trans' hk3 (fun b hb e => absurd (hbF.out b e) (by omega))).sees_end (fun _ _ h => h)
      refine ⟨⟨k + 1, by omega, by simp, ?_, hw3⟩, by simp [intOf]; omega⟩
      rw [List.take_add_one, Hk.out]
      exact ho3
    · obtain rfl : k = n := by omega
      go_wp2
      go_ret
      exact ⟨_, rfl, by have := Ho1.out; rwa [List.take_of_length_le (by rw [← Hnc.out]; exact Nat.le_refl _)] at this, HS.out⟩
end Go.Proofs.YthjcnhgfagefjaaDoor
