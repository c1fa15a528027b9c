/- Adding a line to a page. No condition. -/
import Derived.Test.YtfeoejpbmpdkaaaDoorPage
namespace Go.Proofs.YtfeoejpbmpdkaaaDoor
set_option linter.unusedVariables false
set_option linter.unusedSimpArgs false
open Go.RowKit

theorem infoLine : (Tryd.prog.info? 31).map (fun i => (i.zero, i.size, i.bytes)) = some (some (.agg #[.slice none 0 0, .bool false]), 2, 32) := by kernel_rfl
/-- A line of its own is appended to lines of their own. -/
theorem run_append_line {F : Nat → Prop} {W : World} (ty : TypeId) (N : Nat) (v : Value) (ls : List Ln) (h : OwnL (fun b => F b ∧ b < N) W v ls) (b : Nat) (c : Nat) (a : Value) (l : Ln) (x1 : W.cell? ⟨b, 0, none⟩ = some a) (x2 : W.cell? ⟨b, 1, none⟩ = some (.bool l.soft))
    (hown : OwnCells W N a l.cells) (hN : ∀ b, N ≤ b → F b) (hz : N ≤ W.heap.size) (hn : ls.length ≤ 1000000) :
    ∃ v' W', (Builtin.append_ #[39, 39] ty #[v, .slice (some ⟨b, 0, none⟩) 1 c]).run Tryd.prog W = .ok v' W' ∧ OwnL F W' v' (ls ++ [l]) ∧ Keeps (fun b => v.ownBlock = some b) W W' := by
  obtain ⟨i0, hi, hz0, hz1, hz2⟩ := info_parts infoLine
  obtain ⟨xs, hr, hvF, hin⟩ := h
  have hlen := hin.length
  obtain ⟨v', W', h1, h2, h3, h4, h5⟩ := run_append_own_at (P := Tryd.prog) (w := W) 0 39 ty 31 i0 _ 2 32 Tryd.underlying39 hi hz0 hz1 hz2 rfl (by decide) v ls.length xs hr ⟨b, 0, none⟩ 1 c [a, .bool l.soft] rfl
    (by
      intro j u hu
      rcases j with _ | _ | j
      · cases hu; exact x1
      · cases hu; exact x2
      · cases hu) (by
      intro u hu
      simp at hu
      rcases hu with rfl | rfl
      · obtain ⟨_, _, rfl⟩ := hown.slice; rfl
      · rfl) (by unfold maxLen; omega) (by omega) (Nat.zero_le _)
  have hk : Keeps (fun b => v.ownBlock = some b) W W' := ⟨h3.os, h3.tape, h3.output, h3.size, fun b hb hne => h3.block b hb (fun e => hne e.symm)⟩
  refine ⟨v', W', h1, ⟨xs ++ [a, .bool l.soft], by rw [List.length_append]; exact h2, ?_, ?_⟩, hk⟩
  · intro g hg
    rcases h5 with h5 | h5
    · exact (hvF g (by rw [← h5]; exact hg)).1
    · rw [h5] at hg; cases hg; exact hN _ hz
  · have hb := hin.blocks
    have hin' : linesIn (fun b => F b ∧ v'.ownBlock ≠ some b) W' xs ls := by
      have hm : linesIn (fun b => (F b ∧ v'.ownBlock ≠ some b) ∧ v.ownBlock ≠ some b) W xs ls := by
        refine hin.mono fun b hb h => ⟨⟨h.1.1, fun e => ?_⟩, h.2⟩
        rcases h5 with h5 | h5
        · exact h.2 (h5 ▸ e)
        · rw [h5] at e; cases e; omega
      exact (hm.keeps hk (fun b hb h => hb.2 h)).mono (fun b _ h => h.1)
    refine linesIn.append ((hown.keeps hk ?_).mono (Nat.zero_le _)) ?_ hin' ?_
    · intro g hg he
      have := (hvF g he).2; have := (hown.base hg).1; omega
    · intro g hg
      have hb1 := hown.base hg
      refine ⟨hN g hb1.1, fun e => ?_⟩
      rcases h5 with h5 | h5
      · have := (hvF g (by rw [← h5]; exact e)).2; omega
      · rw [h5] at e; cases e; omega
    · intro g hg x hx he
      have := (hb x hx g he).1.1.2; have := (hown.base hg).1; omega

theorem push_no (s v : Value) (cs : List Cell) (soft : Bool) (w : World) (h : NoPg w s) (ha : RdCells w v cs) :
    Calls Tryd.prog 13 #[s, .agg #[v, .bool soft]] w fun e w' => e = .returned (.int .i64 1) ∧ Sees w w' := by
  obtain ⟨ao, ca, rfl, hh⟩ := ha
  clear hh
  have H := Lib.hid h; clear h
  go_enter Tryd.func13, Tryd.ntmps13
  go_wp2_with fail
  refine (zero_no _ _ (H.out.sees ((Sees.refl w).alloc _))).mono ?_
  rintro e w1 ⟨rfl, hs⟩
  go_wp2
  go_ret
  exact ⟨rfl, ((Sees.refl w).alloc _).trans hs⟩


set_option maxHeartbeats 1000000 in
theorem push_bad (p : Nat) (most gone : Int) (sv v : Value) (cs : List Cell) (soft : Bool) (w : World) (ht : Tabs w) (h : PgAt w p most gone sv) (hm : 0 < most) (ha : RdCells w v cs) (hn : cs.length ≤ 1000000) (hl : lnOk cs = false) :
    Calls Tryd.prog 13 #[.pointer (some ⟨p, 0, none⟩), .agg #[v, .bool soft]] w fun e w' => e = .returned (.int .i64 2) ∧ Sees w w' := by
  have Ha := Lib.hid ha
  obtain ⟨ao, ca, rfl, hh⟩ := ha
  have H := Lib.hid h
  have Hm := Lib.hid hm
  have Hn := Lib.hid hn
  have Ht := Lib.hid ht
  clear h hm hn hh ht
  obtain ⟨n, hnc⟩ : ∃ n, n = cs.length := ⟨_, rfl⟩
  rw [← hnc] at Ha Hn ⊢
  have Hnc := Lib.hid hnc
  clear hnc
  go_enter Tryd.func13, Tryd.ntmps13
  go_wp2_with fail
  refine (zero_at _ p _ _ _ (H.out.sees ((Sees.refl w).alloc _)) Hm.out).mono ?_
  rintro e w1 ⟨rfl, hs⟩
  have c0 : w1.cell? ⟨w.heap.size, 0, none⟩ = some (.slice ao n ca) := by rw [hs.cells _ _ (by simp)]; simp
  have c1 : w1.cell? ⟨w.heap.size, 1, none⟩ = some (.bool soft) := by rw [hs.cells _ _ (by simp)]; simp
  have Hs := Lib.hid (((Sees.refl w).alloc _).trans hs); clear hs
  go_wp2_with fail
  refine (lineValid_any _ cs soft _ (Ht.out.sees Hs.out) (Ha.out.sees Hs.out) (by rw [← Hnc.out]; exact Hn.out)).mono ?_
  rintro e w2 ⟨rfl, hs2⟩
  go_wp2
  go_ret
  exact ⟨rfl, Hs.out.trans hs2⟩

set_option maxHeartbeats 1000000 in
theorem push_full (p : Nat) (most gone : Int) (a : Option Addr) (k c : Nat) (v : Value) (cs : List Cell) (soft : Bool) (w : World) (ht : Tabs w) (h : PgAt w p most gone (.slice a k c)) (hm : 0 < most ∧ most ≤ 1024 ∧ 0 ≤ gone ∧ most = gone + k) (ha : RdCells w v cs) (hn : cs.length ≤ 1000000) (hl : lnOk cs = true) :
    Calls Tryd.prog 13 #[.pointer (some ⟨p, 0, none⟩), .agg #[v, .bool soft]] w fun e w' => e = .returned (.int .i64 7) ∧ Sees w w' := by
  have Ha := Lib.hid ha
  obtain ⟨ao, ca, rfl, hh⟩ := ha
  have H := Lib.hid h
  have Hm := Lib.hid hm
  have Hn := Lib.hid hn
  have Ht := Lib.hid ht
  clear h hm hn hh ht
  obtain ⟨n, hnc⟩ : ∃ n, n = cs.length := ⟨_, rfl⟩
  rw [← hnc] at Ha Hn ⊢
  have Hnc := Lib.hid hnc
  clear hnc
  go_enter Tryd.func13, Tryd.ntmps13
  go_wp2_with fail
  refine (zero_at _ p _ _ _ (H.out.sees ((Sees.refl w).alloc _)) Hm.out.1).mono ?_
  rintro e w1 ⟨rfl, hs⟩
  have c0 : w1.cell? ⟨w.heap.size, 0, none⟩ = some (.slice ao n ca) := by rw [hs.cells _ _ (by simp)]; simp
  have c1 : w1.cell? ⟨w.heap.size, 1, none⟩ = some (.bool soft) := by rw [hs.cells _ _ (by simp)]; simp
  have Hs := Lib.hid (((Sees.refl w).alloc _).trans hs); clear hs
  go_wp2_with fail
  refine (lineValid_any _ cs soft _ (Ht.out.sees Hs.out) (Ha.out.sees Hs.out) (by rw [← Hnc.out]; exact Hn.out)).mono ?_
  rintro e w2 ⟨rfl, hs2⟩
  have Hs2 := Lib.hid (Hs.out.trans hs2); clear hs2
  go_wp2_with fail
  refine (room_at _ p most gone a k c (H.out.sees Hs2.out) Hm.out.1 Hm.out.2.1 Hm.out.2.2.1 (by have := Hm.out; omega) (by have := Hm.out; omega)).mono ?_
  rintro e w3 ⟨rfl, hs3⟩
  have hd : (most - gone - (k : Int) == 0) = true := by rw [beq_iff_eq]; have := Hm.out; omega
  go_wp2
  go_ret
  exact ⟨rfl, Hs2.out.trans hs3⟩
end Go.Proofs.YtfeoejpbmpdkaaaDoor
