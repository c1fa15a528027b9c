/- line.Text (40). No condition. -/
import Derived.Test.YthcndmchlpohpaaDoorTtA
import Derived.Test.YthcndmchlpohpaaDoorTxC
import Derived.BigQuiet
import Derived.Lib.QuietBelow
import Derived.Deep.CutRange
namespace Go.Proofs.YthcndmchlpohpaaDoor
set_option linter.unusedVariables false
set_option linter.unusedSimpArgs false
open Go.RowKit

/-- A text so far, in a builder; the builder's block is B. -/
structure BuSt (w : World) (bs : List UInt8) (W : World) : Prop where
  b : Lib.IsBuilderF 53 5 w.heap.size w.heap.size (Lib.byteCells bs) W
  s : Sees w W
namespace BuSt
variable {w W W' : World} {bs : List UInt8}
theorem start (w : World) : BuSt w [] (w.alloc (.cells #[.pointer none, .slice none 0 0] 53)) := ⟨Lib.IsBuilderF.of (Lib.fresh_isBuilder 53 5 w), (Sees.refl w).alloc _⟩
theorem sees (h : BuSt w bs W) (hs : Sees W W') : BuSt w bs W' := ⟨builder_sees h.b hs, h.s.trans hs⟩
theorem write (h : BuSt w bs W) (t : List UInt8) (hl : bs.length + t.length ≤ 1000000000) :
    Calls Tryd.prog 14 #[.pointer (some ⟨w.heap.size, 0, none⟩), .string ⟨t.toArray⟩] W fun e W' => ∃ x y, e = .returned (.tuple #[x, y]) ∧ BuSt w (bs ++ t) W' := by
  refine (write_bytes w.heap.size w.heap.size bs t W h.b hl h.s.size).mono ?_
  rintro e W' ⟨x, y, rfl, h1, h2, h3⟩
  exact ⟨x, y, rfl, h1, h.s.below.trans h2⟩
theorem string (h : BuSt w bs W) : Calls Tryd.prog 18 #[.pointer (some ⟨w.heap.size, 0, none⟩)] W fun e W' => e = .returned (.string ⟨bs.toArray⟩) ∧ Sees w W' := by
  refine (bstr w.heap.size w.heap.size bs W h.b h.s.size).mono ?_
  rintro e W' ⟨rfl, h2, h3⟩
  exact ⟨rfl, h.s.below.trans h2⟩
end BuSt
set_option maxHeartbeats 4000000 in
set_option maxRecDepth 100000 in
theorem lineText_any (v : Value) (x : Ln) (F : Nat → Prop) (w : World) (h : cellEl.Rd F w v x.cells) (hn : x.cells.length ≤ 1000000) :
    Calls Tryd.prog 8 #[.agg #[v, .bool x.soft]] w fun e w' => e = .returned (.string (strL (txts (x.part true)))) ∧ Sees w w' := by
  obtain ⟨a, cp, rfl, hcp⟩ := h.slice'
  obtain ⟨n, hnn⟩ : ∃ n, n = x.cells.length := ⟨_, rfl⟩
  rw [← hnn] at h hn hcp ⊢
  have H := Lib.hid h
  have HN := Lib.hid hnn
  have S0 : Sees w (w.alloc (.cells #[.slice a n cp, .bool x.soft] 24)) := (Sees.refl w).alloc _
  have L0 : LnAt (w.alloc (.cells #[.slice a n cp, .bool x.soft] 24)) w.heap.size (.slice a n cp) x.soft := LnAt.new rfl
  obtain ⟨w1, hw1⟩ : ∃ w1, w1 = w.alloc (.cells #[.slice a n cp, .bool x.soft] 24) := ⟨_, rfl⟩
  rw [← hw1] at S0 L0
  have HW1 := Lib.hid hw1
  have G0 := Lib.hid (BuSt.start w1)
  have HS0 := Lib.hid S0
  have HL0 := Lib.hid L0
  have hsz1 : w1.heap.size = w.heap.size + 1 := by rw [hw1, World.size_alloc]
  have HSZ := Lib.hid hsz1
  obtain ⟨U, hU⟩ : ∃ U, U = usedN x.cells := ⟨_, rfl⟩
  have hUn : U ≤ n := by rw [hU, hnn]; exact usedN_le _
  have HPR : Hid (cellEl.Rd F w (.slice a U cp) (x.part true)) := by
    have e : x.part true = x.cells.take U := by rw [hU]; rfl
    unfold Hid
    rw [e]
    exact h.take U (by rw [← hnn]; exact hUn) cp (by omega)
  have KU : Hid (∀ W, Sees w W → Calls Tryd.prog 9 #[.agg #[.slice a n cp, .bool x.soft]] W fun e w' => e = .returned (.int .i64 U) ∧ Sees W w') := fun W hs => by
    rw [hU]
    exact used_any _ x F W (h.sees hs) (by rw [← hnn]; exact hn)
  have HPL : Hid ((x.part true).length = U) := HPR.out.len.symm
  have hUcp : U ≤ cp := by omega
  clear h hnn hw1 S0 L0 hsz1 hU
  go_enter Tryd.func8, Tryd.ntmps8
  go_upto_region 2 with fail
  rw [← HW1.out, ← HSZ.out]
  refine wp_world fun W2 hW2 => ?_
  have G2 : Hid (BuSt w1 [] W2) := by subst hW2; exact G0.out
  have hs2 : Sees w1 W2 := by subst hW2; exact (Sees.refl _).alloc _
  obtain ⟨l0, l1⟩ := (HL0.out.sees hs2).c
  have HS2 := Lib.hid (HS0.out.trans hs2)
  have g0 := fun d os => (sees_grow W2 d os).cell l0
  have g1 := fun d os => (sees_grow W2 d os).cell l1
  clear hW2 hs2 l0 l1 G0 HL0
  obtain ⟨B, hB⟩ : ∃ B, B = w1.heap.size := ⟨_, rfl⟩
  rw [← hB]
  have HB := Lib.hid hB
  clear hB
  refine wp_region_quiet_below (by kernel_rfl) (by kernel_rfl) ?_
  repeat (first | go_big_quiet_skip | (go_big_quiet_want; go_big_quiet_op; go_big_quiet_on))
  (go_big_quiet_want; go_big_quiet_op; apply Exists.intro; refine ⟨fun p => Calls.regrown_of (KU.out _ (HS2.out.trans (sees_grow W2 _ _))), ?_⟩; go_big_quiet_on)
  repeat (first | go_big_quiet_skip | (go_big_quiet_want; go_big_quiet_op; go_big_quiet_on))
  refine wpQuiet_nil ?_; intro w2 hw2'; have hw2 := regrown_sees hw2'; clear hw2'
  have G3 := Lib.hid (G2.out.sees hw2)
  clear hw2 g0 g1 G2 HS2 KU
  go_wp2
  go_loopw [12] (fun i W => ∃ k : Nat, k ≤ U ∧ i = .int .i64 k ∧ BuSt w1 (txts ((x.part true).take k)) W) (fun i _ => U - (intOf i).toNat)
  case atStart => exact ⟨0, Nat.zero_le _, rfl, G3.out⟩
  case round =>
    obtain ⟨k, hk, rfl, hS⟩ := hrel
    have HS := Lib.hid hS
    clear hS
    by_cases hlt : k < U
    · obtain ⟨b, o, c, rfl, _, hc, hat0⟩ := HPR.out.cell hlt
      have hat := hat0.sees (HS0.out.trans HS.out.s)
      have HST := Lib.hid (txts_step hc)
      have hl1 := txts_len ((x.part true).take k)
      rw [List.length_take] at hl1
      have KT : Hid (∀ W, Calls Tryd.prog 17 #[c.val] W fun e w' => e = .returned (.string ⟨c.txt.toArray⟩) ∧ Sees W w') := fun W => ctext_any c W
      have KW := Lib.hid (fun W (hW : BuSt w1 (txts ((x.part true).take k)) W) => by have q := hW.write c.txt (by have := c.txt_len; omega); rw [← HB.out, ← HST.out] at q; exact q)
      clear hc hat0 hl1
      go_upto_region 5 with (first
        | (guard_target = wpList _ _ _ ({ dst := _, op := Op.load 46 _, type := _, pos := _, after := _, guard := _ } :: _) _ _; refine wpList_val rfl (exec_load (v := c.val) rfl rfl (run_loadCell hat)) (fun K hK => ?_); go_simp; refine hK _ _ ?_; clear hK K)
        | (guard_target = wpList _ _ _ ({ dst := _, op := Op.store 46 _ _, type := _, pos := _, after := _, guard := _ } :: _) _ _; refine wpList_skip rfl (exec_store (v := c.val) rfl rfl rfl (run_storeNew c _ rfl _ rfl)) (fun K hK => ?_); go_simp; refine hK _ _ ?_; clear hK K))
      refine wp_world fun W2 hW2 => ?_
      have C2 : CellAt W2 wr.heap.size 0 c := by subst hW2; exact cellAt_new _ c _
      have HS2 : Hid (BuSt w1 (txts ((x.part true).take k)) W2) := by subst hW2; exact HS.out.sees ((Sees.refl _).alloc _)
      clear hW2 hat HS
      go_wp2_with (guard_target = wpList _ _ _ ({ dst := _, op := Op.load 46 _, type := _, pos := _, after := _, guard := _ } :: _) _ _; refine wpList_val rfl (exec_load (v := c.val) rfl rfl (run_loadCell C2)) (fun K hK => ?_); go_simp; refine hK _ _ ?_; clear hK K)
      refine (KT.out _).mono ?_
      rintro e W3 ⟨rfl, s⟩
      have HS3 := Lib.hid (HS2.out.sees s)
      clear s C2 HS2
      go_wp2_with fail
      refine (KW.out _ HS3.out).mono ?_
      rintro e W4 ⟨r1, r2, rfl, hS4⟩
      have HS4 := Lib.hid hS4
      clear hS4
      go_wp2
      exact ⟨⟨k + 1, by omega, by go_num, HS4.out⟩, by simp [intOf]; omega⟩
    · obtain rfl : U = k := by omega
      have KS := HS.out.string
      rw [← HPL.out, List.take_length, ← HB.out] at KS
      have KS2 := Lib.hid KS
      clear KS
      go_wp2_with fail
      refine KS2.out.mono ?_
      rintro e W4 ⟨rfl, s⟩
      have HS4 := Lib.hid (HS0.out.trans s)
      clear s
      go_wp2
      go_ret
      exact ⟨rfl, HS4.out⟩
end Go.Proofs.YthcndmchlpohpaaDoor
