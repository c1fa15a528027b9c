/- choose.Text (41). The tables hold what the program's text lays. said: what the statements take for the text of spans (41). The tables hold what the program's text lays. spanned: what the statements take for the spans of a choice (41). The tables hold what the program's text lays. What choose answers, as the statements ask (41). The tables hold what the program's text lays. No condition. -/
import Derived.Test.YtooiiefipdjbjaaDoorChU
import Derived.Test.YtooiiefipdjbjaaDoorChN
namespace Go.Proofs.YtooiiefipdjbjaaDoor
set_option linter.unusedVariables false
set_option linter.unusedSimpArgs false
open Go.RowKit Go.Shelf
attribute [local go_sem] Oper.semAt_some

/-- The text of a row of a choice, and whether the next row goes on with it. -/
def spPc (ls : List Ln) (kd : Int) (A B c0 c1 r : Nat) : List UInt8 := match ls[r]? with
  | some x => pcL x (spF ls kd A r c0 c1) (spT ls kd B r c0 c1)
  | none => []
def spP (ls : List Ln) (kd : Int) (x y : Nat) (k : Nat) : List UInt8 := spPc ls kd (chA ls kd (min x y)) (chB ls kd (max x y)) (x % cols ls) (y % cols ls) (chA ls kd (min x y) / cols ls + k)
def spO (ls : List Ln) (kd : Int) (x y : Nat) (k : Nat) : Bool := softAt ls (chA ls kd (min x y) / cols ls + k) && (kd != 4)
/-- The text of a choice. -/
def textL (ls : List Ln) (kd : Int) (x y : Nat) : List UInt8 := txtOf (spP ls kd x y) (spO ls kd x y) (chB ls kd (max x y) / cols ls - chA ls kd (min x y) / cols ls)
theorem spPc_len {ls : List Ln} (hc : ∀ x ∈ ls, x.cells.length ≤ 1000) (kd : Int) (A B c0 c1 r : Nat) : (spPc ls kd A B c0 c1 r).length ≤ 16000 := by
  unfold spPc
  split
  · rename_i x hx
    exact pcL_len x _ _ (hc x (List.mem_iff_getElem?.2 ⟨_, hx⟩))
  · simp
set_option maxHeartbeats 1000000 in
theorem cText_err (F : Nat → Prop) (a : Option Addr) (n cp : Nat) (ls : List Ln) (w : World) (ht : Tabs w) (ha : lnEl.Rd F w (.slice a n cp) ls) (hn : ls.length ≤ 1000000) (hnc : ∀ l ∈ ls, l.cells.length ≤ 1000000) (first kd l0 c0 l1 c1 : Int) (hl : (-9223372036854775808 ≤ l0 ∧ l0 ≤ 9223372036854775807) ∧ (-9223372036854775808 ≤ l1 ∧ l1 ≤ 9223372036854775807)) (E : Int) (hE : chE ls first kd l0 c0 l1 c1 = E) (hE0 : E ≠ 0) :
    Calls Tryd.prog 27 #[.slice a n cp, .int .i64 first, chV kd l0 c0 l1 c1] w fun e w' => e = .returned (.tuple #[.string ⟨#[]⟩, .int .i64 E]) ∧ Sees w w' := by
  have KC := Lib.hid (fun W (hs : Sees w W) => by
    have q := chosen_any F a n cp ls W (ht.sees hs) (ha.sees hs) hn hnc first kd l0 c0 l1 c1 hl
    rw [hE] at q
    exact q)
  have hEb : (E == 0) = false := by rw [beq_eq_false_iff_ne]; exact hE0
  have hEn := bne_of hEb
  clear hE hl ht ha hn hnc
  go_enter Tryd.func27, Tryd.ntmps27
  go_upto_region 1 with fail
  refine wp_world fun W1 hW1 => ?_
  have p1 : ChAt W1 w.heap.size kd l0 c0 l1 c1 := by subst hW1; exact heap_alloc_new w _
  have s1 : Sees w W1 := by subst hW1; exact (Sees.refl w).alloc _
  have S1 := Lib.hid s1
  obtain ⟨d0, d1, d2, d3, d4⟩ := p1.c
  clear hW1 p1 s1
  go_wp2_with fail
  refine (KC.out W1 S1.out).mono ?_
  rintro ee W2 ⟨a', n', cp', f', rfl, hh, s2⟩
  have S2 := Lib.hid (S1.out.trans s2)
  clear s2 hh d0 d1 d2 d3 d4 KC
  go_wp2
  go_ret2
  exact ⟨rfl, S2.out.alloc _⟩
def opB (O : Nat → Bool) : Nat → Bool
  | 0 => false
  | k + 1 => O k
theorem set_last {α : Type} (l : List α) (a b : α) : (l ++ [a]).set l.length b = l ++ [b] := by simp
/-- The pieces, of which the first ones are trimmed. -/
def trQ (Q : List (List UInt8)) (k : Nat) : List ByteArray := (Q.take k).map (fun l => strL (trB l)) ++ (Q.drop k).map strL
theorem trQ_len (Q : List (List UInt8)) (k : Nat) : (trQ Q k).length = Q.length := by unfold trQ; rw [List.length_append, List.length_map, List.length_map, List.length_take, List.length_drop]; omega
theorem trQ_at {Q : List (List UInt8)} {k : Nat} {q : List UInt8} (h : Q[k]? = some q) : (trQ Q k)[k]? = some (strL q) ∧ (trQ Q k).set k (strL (trB q)) = trQ Q (k + 1) := by
  have hk := (List.getElem?_eq_some_iff.1 h).1
  have hd : Q.drop k = q :: Q.drop (k + 1) := by
    rw [List.drop_eq_getElem_cons hk]
    congr 1
    exact (List.getElem?_eq_some_iff.1 h).2
  have hl : ((Q.take k).map (fun l => strL (trB l))).length = k := by rw [List.length_map, List.length_take]; omega
  unfold trQ
  constructor
  · rw [List.getElem?_append_right (by omega), hl, Nat.sub_self, hd]
    rfl
  · rw [List.set_append_right _ _ (by omega), hl, Nat.sub_self, hd, List.take_add_one, h]
    simp
theorem trQ_end (Q : List (List UInt8)) : (trQ Q Q.length).map (·.data.toList) = Q.map trB := by
  unfold trQ
  rw [List.take_of_length_le (Nat.le_refl _), List.drop_of_length_le (Nat.le_refl _)]
  simp [strL_list]
theorem trB_len (l : List UInt8) : (trB l).length ≤ l.length := trimB_len l 32
set_option maxHeartbeats 1000000 in
set_option maxRecDepth 100000 in
theorem cText_ok (F : Nat → Prop) (a : Option Addr) (n cp : Nat) (ls : List Ln) (w : World) (ht : Tabs w) (first : Int) (h : ShF F w (.slice a n cp) ls first) (kd : Int) (hk1 : 1 ≤ kd) (hk4 : kd ≤ 4) (x y : Nat) (hx : x < ls.length * cols ls) (hy : y < ls.length * cols ls) :
    Calls Tryd.prog 27 #[.slice a n cp, .int .i64 first, chV kd (plI ls first x).1 (plI ls first x).2 (plI ls first y).1 (plI ls first y).2] w fun e w' => e = .returned (.tuple #[.string (strL (textL ls kd x y)), .int .i64 0]) ∧ Sees w w' := by
  obtain ⟨hall, h0, h1⟩ := rowsOk_ok h.ok
  have hof := ofE_ok h.ok h.len
  have hcl : ∀ l ∈ ls, l.cells.length ≤ 1000 := fun l hl => by
    have := (hall l hl).2.1
    unfold lnOk at this
    rw [Bool.and_eq_true, decide_eq_true_eq] at this
    exact this.1
  have hE := chE_pl hof hk1 hk4 hx hy
  have KC := Lib.hid (fun W (hs : Sees w W) => by
    have q := chosen_any F a n cp ls W (ht.sees hs) (h.rd.sees hs) (by have := h.len; omega) (fun l hl => by have := hcl l hl; omega) first kd (plI ls first x).1 (plI ls first x).2 (plI ls first y).1 (plI ls first y).2 ⟨plI_in h0 h1 h.len hx, plI_in h0 h1 h.len hy⟩
    rw [hE] at q
    exact q)
  have KS := Lib.hid (fun W (hs : Sees w W) => spans_any F a n cp ls W first (h.sees hs) kd hk1 hk4 x y hx hy)
  obtain ⟨hM, hA1, hB1, hB2, hAB, hBn⟩ := ch_rows (kd := kd) hx hy
  have hlen := h.len
  have hN : n = ls.length := h.rd.len
  obtain ⟨P, hP⟩ : ∃ P, P = spP ls kd x y := ⟨_, rfl⟩
  obtain ⟨O, hO⟩ : ∃ O, O = spO ls kd x y := ⟨_, rfl⟩
  obtain ⟨Z, hZ⟩ : ∃ Z, Z = spansL ls first kd x y := ⟨_, rfl⟩
  have hPl : ∀ k, (P k).length ≤ 16000 := fun k => by rw [hP]; exact spPc_len hcl kd _ _ _ _ _
  -- what is read at each span
  have HRW : Hid (∀ k, k < chB ls kd (max x y) / cols ls + 1 - chA ls kd (min x y) / cols ls → ∃ b1 o1 a1 m1 r T f t z, a = some ⟨b1, o1, none⟩ ∧ r < n ∧ T = first + (r : Int) ∧ Z[k]? = some ⟨T, (f : Nat), (t : Nat)⟩ ∧ w.cell? ⟨b1, o1 + r * 2, none⟩ = some (.slice a1 z.cells.length m1) ∧ w.cell? ⟨b1, o1 + r * 2 + 1, none⟩ = some (.bool z.soft) ∧ cellEl.Rd F w (.slice a1 z.cells.length m1) z.cells ∧ z.cells.length ≤ 1000 ∧ f ≤ 1000 ∧ t ≤ 1000 ∧ f ≤ t ∧ P k = pcL z f t ∧ O k = (z.soft && (kd != 4))) := fun k hk => by
    obtain ⟨r, hr⟩ : ∃ r, r = chA ls kd (min x y) / cols ls + k := ⟨_, rfl⟩
    have hrn : r < ls.length := by omega
    obtain ⟨b1, o1, z, a1, m1, rfl, _, hz, _, y0, y1, yc⟩ := h.rd.line (show r < n by omega)
    have hzc := hcl z (List.mem_iff_getElem?.2 ⟨_, hz⟩)
    have hzl := (hall z (List.mem_iff_getElem?.2 ⟨_, hz⟩)).1
    have hcx := Nat.mod_lt x hM
    have hcy := Nat.mod_lt y hM
    obtain ⟨q1, q2, q3⟩ := raw_lt (ls := ls) (kd := kd) (a := chA ls kd (min x y)) (b := chB ls kd (max x y)) (i := r) hM hcx hcy
    obtain ⟨q4, q5, q6⟩ := fix_lt hall hrn q1 q2 q3
    have hft : spF ls kd (chA ls kd (min x y)) r (x % cols ls) (y % cols ls) ≤ spT ls kd (chB ls kd (max x y)) r (x % cols ls) (y % cols ls) := by
      by_cases hk : kd = 4
      · unfold spF spT
        have e1 : rawF ls kd (chA ls kd (min x y)) r (x % cols ls) (y % cols ls) = min (x % cols ls) (y % cols ls) := by unfold rawF; rw [if_pos hk]
        have e2 : rawT ls kd (chB ls kd (max x y)) r (x % cols ls) (y % cols ls) = max (x % cols ls) (y % cols ls) + 1 := by unfold rawT; rw [if_pos hk]
        omega
      · have q7 := raw_some (kd := kd) (r := r) (c0 := x % cols ls) (c1 := y % cols ls) hM hk (show chA ls kd (min x y) ≤ chB ls kd (max x y) by omega)
        unfold spF spT
        omega
    refine ⟨b1, o1, a1, m1, r, _, spF ls kd (chA ls kd (min x y)) r (x % cols ls) (y % cols ls), spT ls kd (chB ls kd (max x y)) r (x % cols ls) (y % cols ls), z, rfl, by omega, rfl, ?_, y0, y1, yc, hzc, by unfold spF; omega, by unfold spT; omega, hft, ?_, ?_⟩
    · rw [hZ]
      have q := spansL_at (ls := ls) (first := first) (kd := kd) (x := x) (y := y) (r := r) (by omega) (by omega)
      rw [show r - chA ls kd (min x y) / cols ls = k by omega] at q
      exact q
    · rw [hP]
      unfold spP spPc
      rw [← hr, hz]
    · rw [hO]
      unfold spO
      rw [← hr, softAt_of hz]
  have hZl : Z.length = chB ls kd (max x y) / cols ls + 1 - chA ls kd (min x y) / cols ls := by rw [hZ, spansL_len]
  obtain ⟨m, hm⟩ : ∃ m, m = chB ls kd (max x y) / cols ls - chA ls kd (min x y) / cols ls := ⟨_, rfl⟩
  have hm1 : chB ls kd (max x y) / cols ls + 1 - chA ls kd (min x y) / cols ls = m + 1 := by omega
  have hmb : m ≤ 1000 := by
    generalize chA ls kd (min x y) / cols ls = q3 at *
    omega
  rw [hm1] at HRW hZl
  have hR : textL ls kd x y = txtOf P O m := by rw [hP, hO, hm]; rfl
  rw [hR]
  rw [← hZ] at KS
  obtain ⟨R, hRR⟩ : ∃ R, R = strL (txtOf P O m) := ⟨_, rfl⟩
  rw [← hRR]
  have HR := Lib.hid hRR
  have HPL := Lib.hid hPl
  have H := Lib.hid h
  clear hRR hR hPl h hP hO hZ hm hm1 hE hof hcl hall hN hlen hM hA1 hB1 hB2 hAB hBn hx hy hk1 hk4
  generalize (plI ls first x).1 = l0 at *
  generalize (plI ls first x).2 = c0 at *
  generalize (plI ls first y).1 = l1 at *
  generalize (plI ls first y).2 = c1 at *
  have hQl := pcF_len P O
  have hQs := pcF_size P O 16000 HPL.out
  have HQL := Lib.hid hQl
  have HQS := Lib.hid hQs
  clear hQl hQs
  go_enter Tryd.func27, Tryd.ntmps27
  go_upto_region 1 with fail
  refine wp_world fun W1 hW1 => ?_
  have p1 : ChAt W1 w.heap.size kd l0 c0 l1 c1 := by subst hW1; exact heap_alloc_new w _
  have s1 : Sees w W1 := by subst hW1; exact (Sees.refl w).alloc _
  have P1 := Lib.hid p1
  have S1 := Lib.hid s1
  clear hW1 p1 s1
  obtain ⟨d0, d1, d2, d3, d4⟩ := P1.out.c
  go_wp2_with fail
  refine (KC.out W1 S1.out).mono ?_
  rintro ee W2 ⟨a', n', cp', f', rfl, hh, s2⟩
  obtain ⟨rfl, rfl, rfl, rfl⟩ := hh (by first | exact .inl rfl | exact .inl trivial | trivial | simp)
  have S2 := Lib.hid (S1.out.trans s2)
  have P2 := Lib.hid (P1.out.sees s2)
  clear s2 hh d0 d1 d2 d3 d4 KC
  go_upto_region 4 with fail
  refine wp_world fun W3 hW3 => ?_
  have p3 : ShAt W3 W2.heap.size a' n' cp' f' := by subst hW3; exact heap_alloc_new W2 _
  have s3 : Sees W2 W3 := by subst hW3; exact (Sees.refl W2).alloc _
  obtain ⟨b8, hb8⟩ : ∃ b8, b8 = W2.heap.size := ⟨_, rfl⟩
  rw [← hb8] at p3 ⊢
  obtain ⟨g0, g1⟩ := p3.c
  obtain ⟨d0, d1, d2, d3, d4⟩ := (P2.out.sees s3).c
  have S3 := Lib.hid (S2.out.trans s3)
  have P3 := Lib.hid (P2.out.sees s3)
  have PS3 := Lib.hid p3
  clear hW3 p3 s3 hb8
  go_wp2_with fail
  refine (KS.out W3 S3.out).mono ?_
  rintro ee W5 ⟨v, rfl, ho, s5⟩
  have HO := Lib.hid ho.rd
  have S5 := Lib.hid (S3.out.trans s5)
  have P5 := Lib.hid (P3.out.sees s5)
  have PS5 := Lib.hid (PS3.out.sees s5)
  obtain ⟨av, cv, rfl, _⟩ := ho.rd.slice'
  rw [hZl] at HO ⊢
  obtain ⟨m', hm'⟩ : ∃ m', m' = m + 1 := ⟨_, rfl⟩
  rw [← hm'] at HO HRW ⊢
  have HM := Lib.hid hm'
  have hmb' : m' ≤ 1001 := by omega
  clear ho s5 g0 g1 d0 d1 d2 d3 d4 KS hZl hm'
  go_wp2
  go_loopw [10, 11, 32] (fun u o i W => ∃ k : Nat, k ≤ m' ∧ i = .int .i64 (k : Int) ∧ o = .bool (opB O k) ∧ sEl.Own (fun b => W5.heap.size ≤ b) W u ((pcA P O k).map strL) ∧ Sees W5 W) (fun _ _ i _ => m' - (intOf i).toNat)
  case atStart => exact ⟨0, Nat.zero_le _, rfl, rfl, El.Own.nil _ _, Sees.refl _⟩
  case round =>
    obtain ⟨k, hk, rfl, rfl, hU, hS⟩ := hrel
    have HS := Lib.hid hS
    have HU := Lib.hid hU
    clear hS hU
    by_cases hlt : k < m'
    · obtain ⟨b1, o1, a1, m1, r, T, f, tt, z, rfl, hrn, hT, hzk, y0, y1, yc, hzc, hf, htt, hft, hPk, hOk⟩ := HRW.out k hlt
      obtain ⟨bs, os, s, rfl, hs, q0, q1, q2⟩ := sn_cell (HO.out.sees HS.out) hlt
      rw [hzk] at hs
      obtain rfl := Option.some.inj hs
      have hlen := H.out.len
      have hnl := H.out.rd.len
      have KR := Lib.hid (fun W (hs : Sees w W) => sh_row b1 o1 n' cp' r a1 z.cells.length m1 z.soft f' T W hrn (by omega) h0 h1 hT (hs.cell y0) (hs.cell y1))
      have KU := Lib.hid (fun W (hs : Sees w W) => used_any _ z F W (yc.sees hs) (by omega))
      have hUl := usedN_le z.cells
      have hPk' : P k = txts ((z.cells.drop (min f (usedN z.cells))).take (min tt (usedN z.cells) - min f (usedN z.cells))) := hPk
      obtain ⟨a3, c3, hsc, hrc⟩ := mid_cells yc (min f (usedN z.cells)) (min tt (usedN z.cells)) (by omega) (by omega)
      have hyl := (hrc _ _ yc).len
      have KT := Lib.hid (fun W (hs : Sees w W) => texts_any _ _ F W ((hrc _ _ yc).sees hs) (by rw [← hyl]; omega))
      rw [← hPk'] at KT
      have HPK := Lib.hid (HPL.out k)
      obtain ⟨Y, hY⟩ : ∃ Y, Y = strL (P k) := ⟨_, rfl⟩
      rw [← hY] at KT
      have hYs : Y.size ≤ 16000 := by rw [hY, strL_size]; exact HPK.out
      have HY := Lib.hid hY
      obtain ⟨U, hU⟩ : ∃ U, U = usedN z.cells := ⟨_, rfl⟩
      rw [← hU] at KU KT hsc hUl
      obtain ⟨A, hA⟩ : ∃ A, A = min f U := ⟨_, rfl⟩
      obtain ⟨B, hB⟩ : ∃ B, B = min tt U := ⟨_, rfl⟩
      rw [← hA, ← hB] at KT hsc
      have hmin1 : min (f : Int) (U : Int) = (A : Int) := by omega
      have hmin2 : min (tt : Int) (U : Int) = (B : Int) := by omega
      obtain ⟨D, hD⟩ : ∃ D, D = B - A := ⟨_, rfl⟩
      rw [← hD] at KT hsc
      have HOK := Lib.hid hOk
      generalize z.soft = so at *
      generalize z.cells.length = nz at *
      clear hzk hs hPk hPk' hrc hyl hY hU hA hB hD yc y0 y1 hOk hzc hf htt hft hlen hnl hT
      go_upto_region 9 with fail
      refine wp_world fun W6 hW6 => ?_
      have t6 : SnAt W6 wr.heap.size ⟨T, (f : Int), (tt : Int)⟩ := by subst hW6; exact heap_alloc_new wr _
      have s6 : Sees wr W6 := by subst hW6; exact (Sees.refl wr).alloc _
      obtain ⟨b13, hb13⟩ : ∃ b13, b13 = wr.heap.size := ⟨_, rfl⟩
      rw [← hb13] at t6 ⊢
      have T6 := Lib.hid t6
      have S6 := Lib.hid (HS.out.trans s6)
      have HU6 := Lib.hid (HU.out.cut.sees s6)
      have HB13 : Hid (wr.heap.size ≤ b13) := by unfold RowKit.Hid; omega
      obtain ⟨g0, g1⟩ := (PS5.out.sees S6.out).c
      obtain ⟨x0, x1, x2⟩ := t6.c
      clear hW6 t6 s6 hb13 q0 q1 q2 HU
      go_wp2_with fail
      refine (KR.out W6 (S5.out.trans S6.out)).mono ?_
      rintro ee W7 ⟨rfl, s7⟩
      have S7 := Lib.hid (S6.out.trans s7)
      have s6z : Hid (wr.heap.size ≤ W7.heap.size) := by have := s7.size; have := T6.out.lt; have := HB13.out; unfold RowKit.Hid; omega
      have T7 := Lib.hid (T6.out.sees s7)
      have HU7 := Lib.hid (HU6.out.sees s7)
      clear s7 g0 g1 x0 x1 x2 KR
      go_upto_region 10 with fail
      refine wp_world fun W8 hW8 => ?_
      have l8 : LnAt W8 W7.heap.size (.slice a1 nz m1) so := by subst hW8; exact LnAt.new rfl
      have s8 : Sees W7 W8 := by subst hW8; exact (Sees.refl W7).alloc _
      obtain ⟨b14, hb14⟩ : ∃ b14, b14 = W7.heap.size := ⟨_, rfl⟩
      have HB14 : Hid (wr.heap.size ≤ b14) := by have := S7.out.size; have := s6z.out; unfold RowKit.Hid; omega
      rw [← hb14] at l8 ⊢
      have L8 := Lib.hid l8
      have S8 := Lib.hid (S7.out.trans s8)
      have T8 := Lib.hid (T7.out.sees s8)
      have HU8 := Lib.hid (HU7.out.sees s8)
      obtain ⟨g0, g1⟩ := l8.c
      clear hW8 l8 s8 hb14
      go_wp2_with fail
      refine (KU.out W8 (S5.out.trans S8.out)).mono ?_
      rintro ee W9 ⟨rfl, s9⟩
      have S9 := Lib.hid (S8.out.trans s9)
      have T9 := Lib.hid (T8.out.sees s9)
      have L9 := Lib.hid (L8.out.sees s9)
      have HU9 := Lib.hid (HU8.out.sees s9)
      clear s9 g0 g1 KU
      go_upto_region 11 with fail
      obtain ⟨g0, g1⟩ := L9.out.c
      obtain ⟨x0, x1, x2⟩ := T9.out.c
      go_wp2_with (guard_target = wpList _ _ _ ({ dst := _, op := Op.slice _ _ _ _ _, type := _, pos := _, after := _, guard := _ } :: _) _ _; refine wpList_val rfl (exec_mid (a := .slice a1 nz m1) (b := .int .i64 (A : Int)) (d := .int .i64 (B : Int)) rfl rfl rfl rfl (hsc _)) (fun K hK => ?_); go_simp; refine hK _ _ ?_; clear hK K)
      refine (KT.out W9 (S5.out.trans S9.out)).mono ?_
      rintro ee W10 ⟨rfl, s10⟩
      have Sx := Lib.hid (S9.out.trans s10)
      have Lx := Lib.hid (L9.out.sees s10)
      have Px := Lib.hid (P5.out.sees Sx.out)
      have HUx := Lib.hid (HU9.out.sees s10)
      obtain ⟨au, cu, hu, _⟩ := HUx.out.slice
      rw [List.length_map] at hu
      subst hu
      obtain ⟨N, hN⟩ : ∃ N, N = (pcA P O k).length := ⟨_, rfl⟩
      have hNk : N ≤ k := by
        rw [hN]
        cases k with
        | zero => exact Nat.le_refl _
        | succ k0 =>
          have := HQL.out k0
          show ((pcF P O k0).1 ++ [(pcF P O k0).2]).length ≤ k0 + 1
          rw [List.length_append, List.length_singleton]
          omega
      rw [← hN] at HUx ⊢
      have HN := Lib.hid hN
      clear s10 g0 g1 x0 x1 x2 KT hsc hN HU8 HU7 HU6 HU9
      obtain ⟨ob, hob⟩ : ∃ ob, ob = opB O k := ⟨_, rfl⟩
      rw [← hob]
      have HOB := Lib.hid hob
      clear hob
      cases ob
      · have hAP : (pcA P O (k + 1)).map strL = (pcA P O k).map strL ++ [Y] := by
          rw [pcA_shut P O k (by
            cases k with
            | zero => exact .inl rfl
            | succ k0 => exact .inr HOB.out.symm), List.map_append, HY.out]
          rfl
        have HAP := Lib.hid hAP
        have hrow := heap_alloc_new W10 (.cells #[.string Y] 9)
        have sA : Sees W10 (W10.alloc (.cells #[.string Y] 9)) := (Sees.refl W10).alloc _
        have HUA := Lib.hid (HUx.out.sees sA)
        have HRO := Lib.hid hrow
        have HFX := Lib.hid (show ∀ b, (W5.heap.size ≤ b ∧ b < wr.heap.size) → b < (W10.alloc (.cells #[.string Y] 9)).heap.size from fun b hb => by have := Lx.out.lt; have := HB14.out; rw [World.size_alloc]; omega)
        have HXL := Lib.hid (show ((pcA P O k).map strL).length + [Y].length ≤ 100000000 by rw [List.length_map, ← HN.out, List.length_singleton]; omega)
        have SA := Lib.hid sA
        clear hAP hrow sA
        go_upto_region 15 with (at_builtin; refine El.wpList_append_own (v := .slice au N cu) typedS rfl (.tmp 64) (.tmp 66) rfl (by go_simp) HUA.out ⟨W10.heap.size, 0, none⟩ 1 1 (by go_simp) [.string Y] [Y] (fun _ => False) (El.ownIn_one (E := sEl) rfl) rfl (fun j u hu => El.row_cells HRO.out j u hu) HFX.out (fun b hb => hb.elim) HXL.out ?_; intro v7 w7 ho7 hk7; have HO7 := Lib.hid ho7; have HK7 := Lib.hid hk7; clear ho7 hk7)
        have hL7 : LnAt w7 b14 (.slice a1 nz m1) so := (Lx.out.sees SA.out).keeps HK7.out (fun e => by have := (HUA.out.base e).1; have := HB14.out; omega)
        have hP7 : ChAt w7 w.heap.size kd l0 c0 l1 c1 := (Px.out.sees SA.out).keeps HK7.out (fun e => by have := (HUA.out.base e).1; have := P5.out.lt; omega)
        have hS7 : Sees W5 w7 := El.keep_new (Sx.out.trans SA.out) HK7.out (fun g' hg' => ((HUA.out.base hg').1).1)
        have hO7 : sEl.Own (fun b => W5.heap.size ≤ b) w7 v7 ((pcA P O (k + 1)).map strL) := by
          rw [HAP.out]
          refine HO7.out.mono fun b _ hb => ?_
          rcases hb with hb | hb | hb
          · exact hb.1
          · exact hb.elim
          · have := Sx.out.size; rw [World.size_alloc] at hb; omega
        have HL7 := Lib.hid hL7
        have HS7 := Lib.hid hS7
        have HO8 := Lib.hid hO7
        obtain ⟨g0, g1⟩ := hL7.c
        obtain ⟨d0, d1, d2, d3, d4⟩ := hP7.c
        clear hL7 hP7 hS7 hO7
        cases so
        · go_wp2
          exact ⟨⟨k + 1, by omega, by go_num, by rw [show opB O (k + 1) = O k from rfl, HOK.out]; rfl, HO8.out, HS7.out⟩, by (try (have h9 := HKK.out)); simp [intOf] <;> omega⟩
        · rcases Bool.eq_false_or_eq_true (kd == 4) with g | g
          · have g2 := bne_of g
            go_wp2
            exact ⟨⟨k + 1, by omega, by go_num, by rw [show opB O (k + 1) = O k from rfl, HOK.out, g2]; rfl, HO8.out, HS7.out⟩, by (try (have h9 := HKK.out)); simp [intOf] <;> omega⟩
          · have g2 := bne_of g
            go_wp2
            exact ⟨⟨k + 1, by omega, by go_num, by rw [show opB O (k + 1) = O k from rfl, HOK.out, g2]; rfl, HO8.out, HS7.out⟩, by (try (have h9 := HKK.out)); simp [intOf] <;> omega⟩
      · cases k with
        | zero => exact absurd HOB.out (by simp [opB])
        | succ k0 =>
          have hob : O k0 = true := HOB.out.symm
          have hNN : N = (pcF P O k0).1.length + 1 := by
            rw [HN.out]
            show ((pcF P O k0).1 ++ [(pcF P O k0).2]).length = _
            rw [List.length_append, List.length_singleton]
          obtain ⟨g, X, hag, hFg, hgl, hgc, hXk, hXc, hXf, hback⟩ := own_str HUx.out (k := (pcF P O k0).1.length) (by omega) (strL ((pcF P O k0).2 ++ P (k0 + 1)))
          subst hag
          have hX : X = strL (pcF P O k0).2 := by
            have e : (pcA P O (k0 + 1)).map strL = (pcF P O k0).1.map strL ++ [strL (pcF P O k0).2] := by
              show ((pcF P O k0).1 ++ [(pcF P O k0).2]).map strL = _
              rw [List.map_append]; rfl
            rw [e, List.getElem?_append_right (by rw [List.length_map]; exact Nat.le_refl _), List.length_map, Nat.sub_self] at hXk
            exact (Option.some.inj hXk).symm
          have hset : ((pcA P O (k0 + 1)).map strL).set (pcF P O k0).1.length (strL ((pcF P O k0).2 ++ P (k0 + 1))) = (pcA P O (k0 + 1 + 1)).map strL := by
            rw [pcA_open P O k0 hob]
            have e : (pcA P O (k0 + 1)).map strL = (pcF P O k0).1.map strL ++ [strL (pcF P O k0).2] := by
              show ((pcF P O k0).1 ++ [(pcF P O k0).2]).map strL = _
              rw [List.map_append]; rfl
            rw [e, List.map_append]
            have e2 := set_last ((pcF P O k0).1.map strL) (strL (pcF P O k0).2) (strL ((pcF P O k0).2 ++ P (k0 + 1)))
            rw [List.length_map] at e2
            exact e2
          rw [hset] at hback
          have hXY : strL ((pcF P O k0).2 ++ P (k0 + 1)) = X ++ Y := by rw [hX, HY.out, strL_app]
          rw [hXY] at hback
          have hXs : X.size ≤ 16016000 := by
            rw [hX, strL_size]
            have q := (HQS.out k0).2
            have : (k0 + 1) * 16000 ≤ 1001 * 16000 := Nat.mul_le_mul_right _ (by omega)
            omega
          obtain ⟨N1, hN1⟩ : ∃ N1, N1 = (pcF P O k0).1.length := ⟨_, rfl⟩
          rw [← hN1] at hXc hXf hback hNN
          obtain ⟨k, hkk⟩ : ∃ k, k = k0 + 1 := ⟨_, rfl⟩
          rw [← hkk] at hk hlt HY HOK HPK hback ⊢
          have hsz : X.size + Y.size ≤ 9223372036854775807 := by omega
          have hNw : IntKind.i64.wrap ((N : Int) - 1) = (N1 : Int) := by rw [IntWalk.i64_in _ (by omega)]; omega
          have hN10 : (0 : Int) ≤ (N1 : Int) := by omega
          have hN1N : (N1 : Int) < (N : Int) := by omega
          have hN1c : N1 < N := by omega
          have hL7 : LnAt (W10.setCell ⟨g, N1, none⟩ (.string (X ++ Y))) b14 (.slice a1 nz m1) so := Lx.out.keeps (cell_keeps1 W10 g N1 _) (fun e => by have := HB14.out; omega)
          have hP7 : ChAt (W10.setCell ⟨g, N1, none⟩ (.string (X ++ Y))) w.heap.size kd l0 c0 l1 c1 := Px.out.keeps (cell_keeps1 W10 g N1 _) (fun e => by have := P5.out.lt; omega)
          have HS7 : Hid (Sees W5 (W10.setCell ⟨g, N1, none⟩ (.string (X ++ Y)))) := Sx.out.setCell (p := ⟨g, N1, none⟩) hFg.1 _
          have HO8 : Hid (sEl.Own (fun b => W5.heap.size ≤ b) (W10.setCell ⟨g, N1, none⟩ (.string (X ++ Y))) (.slice (some ⟨g, 0, none⟩) N cu) ((pcA P O (k + 1)).map strL)) := hback.mono fun b _ hb => hb.1
          have HL7 := Lib.hid hL7
          have HP7 := Lib.hid hP7
          have HKK := Lib.hid hkk
          clear hback hXY hX hXk hset hNN hN1 hkk hob hgl hgc hXs hL7 hP7 HOB
          go_upto_region 15 with fail
          refine wp_world fun w7 hw7 => ?_
          rw [← hw7] at HS7 HO8 HL7 HP7
          obtain ⟨g0, g1⟩ := HL7.out.c
          obtain ⟨d0, d1, d2, d3, d4⟩ := HP7.out.c
          clear hw7 hXc hXf
          cases so
          · go_wp2
            exact ⟨⟨k + 1, by omega, by go_num, by rw [show opB O (k + 1) = O k from rfl, HOK.out]; rfl, HO8.out, HS7.out⟩, by (try (have h9 := HKK.out)); simp [intOf] <;> omega⟩
          · rcases Bool.eq_false_or_eq_true (kd == 4) with g | g
            · have g2 := bne_of g
              go_wp2
              exact ⟨⟨k + 1, by omega, by go_num, by rw [show opB O (k + 1) = O k from rfl, HOK.out, g2]; rfl, HO8.out, HS7.out⟩, by (try (have h9 := HKK.out)); simp [intOf] <;> omega⟩
            · have g2 := bne_of g
              go_wp2
              exact ⟨⟨k + 1, by omega, by go_num, by rw [show opB O (k + 1) = O k from rfl, HOK.out, g2]; rfl, HO8.out, HS7.out⟩, by (try (have h9 := HKK.out)); simp [intOf] <;> omega⟩
    · obtain rfl : k = m' := by omega
      have HQ : Hid ((pcA P O k).length ≤ 1001 ∧ ∀ q ∈ pcA P O k, q.length ≤ 16016000) := by
        unfold RowKit.Hid
        rw [HM.out]
        show ((pcF P O m).1 ++ [(pcF P O m).2]).length ≤ 1001 ∧ ∀ q ∈ (pcF P O m).1 ++ [(pcF P O m).2], q.length ≤ 16016000
        have q1 := HQL.out m
        obtain ⟨q2, q3⟩ := HQS.out m
        have q4 : (m + 1) * 16000 ≤ 1001 * 16000 := Nat.mul_le_mul_right _ (by omega)
        refine ⟨by rw [List.length_append, List.length_singleton]; omega, fun q hq => ?_⟩
        rcases List.mem_append.1 hq with h | h
        · have := q2 q h; omega
        · rw [List.mem_singleton] at h; subst h; omega
      have HRQ : Hid (R = strL (Lib.join ((pcA P O k).map trB) [10])) := by unfold RowKit.Hid; rw [HR.out, HM.out]; rfl
      obtain ⟨Q, hQ⟩ : ∃ Q, Q = pcA P O k := ⟨_, rfl⟩
      rw [← hQ] at HU HQ HRQ
      obtain ⟨au, cu, hu, _⟩ := HU.out.slice
      rw [List.length_map] at hu
      subst hu
      obtain ⟨N, hN⟩ : ∃ N, N = Q.length := ⟨_, rfl⟩
      rw [← hN] at HU HQ ⊢
      have HN := Lib.hid hN
      clear hQ hN
      go_wp2
      obtain ⟨wb, hwb⟩ : ∃ wb : World, wb = wr := ⟨_, rfl⟩
      rw [← hwb] at HU HS ⊢
      clear hwb
      go_loopw [78] (fun i W => ∃ j : Nat, j ≤ N ∧ i = .int .i64 (j : Int) ∧ sEl.Own (fun b => W5.heap.size ≤ b) W (.slice au N cu) (trQ Q j) ∧ Sees W5 W) (fun i _ => N - (intOf i).toNat)
      case atStart => exact ⟨0, Nat.zero_le _, rfl, by simpa [trQ] using HU.out, HS.out⟩
      case round =>
        obtain ⟨j, hj, rfl, hO, hS⟩ := hrel
        have HSj := Lib.hid hS
        have HOj := Lib.hid hO
        clear hO hS HU HS
        by_cases hlt : j < N
        · obtain ⟨q, hq⟩ : ∃ q, Q[j]? = some q := ⟨_, List.getElem?_eq_getElem (by rw [← HN.out]; exact hlt)⟩
          obtain ⟨t1, t2⟩ := trQ_at hq
          obtain ⟨g, X, hag, hFg, hgl, hgc, hXk, hXc, hXf, hback⟩ := own_str HOj.out hlt (strL (trB q))
          subst hag
          have hX : X = strL q := Option.some.inj (hXk.symm.trans t1)
          rw [t2] at hback
          obtain ⟨Y, hY⟩ : ∃ Y, Y = strL (trB q) := ⟨_, rfl⟩
          have hql := HQ.out.2 q (List.mem_iff_getElem?.2 ⟨_, hq⟩)
          have KT : Hid (∀ W, Calls Tryd.prog 48 #[.string X, .string ⟨#[32]⟩] W fun e w' => e = .returned (.string Y) ∧ w' = W) := fun W => by
            have z := trimR_any X (by rw [hX, strL_size]; omega) W
            rw [hY, hX] at *
            exact z
          rw [← hY] at hback
          have HB := Lib.hid hback
          have HFG := Lib.hid hFg
          have hj1 : (0 : Int) ≤ (j : Int) := by omega
          have hj2 : (j : Int) < (N : Int) := by omega
          have hNb : N ≤ 1001 := HQ.out.1
          clear hback hX hY hq hql t1 t2 hXk hFg hgl
          go_wp2_with fail
          refine (KT.out _).mono ?_
          rintro ee Wz ⟨rfl, rfl⟩
          go_wp2
          exact ⟨⟨j + 1, by omega, by go_num, HB.out, HSj.out.setCell (p := ⟨g, j, none⟩) HFG.out _⟩, by simp [intOf] <;> omega⟩
        · obtain rfl : j = N := by omega
          have hfin : sEl.Own (fun b => W5.heap.size ≤ b) wr (.slice au j cu) (trQ Q Q.length) := by rw [← HN.out]; exact HOj.out
          have hlenJ : (Lib.join (Q.map trB) [10]).length ≤ 140737488355328 := by
            have q1 := join_len (Q.map trB) 16016000 (fun z hz => by
              obtain ⟨q, hq, rfl⟩ := List.mem_map.1 hz
              have := HQ.out.2 q hq
              have := trB_len q
              omega)
            rw [List.length_map, ← HN.out] at q1
            have q2 : j * (16016000 + 1) ≤ 1001 * (16016000 + 1) := Nat.mul_le_mul_right _ HQ.out.1
            omega
          have KJ := Lib.hid (join_any (.slice au j cu) (fun b => W5.heap.size ≤ b ∧ b < wr.heap.size) (trQ Q Q.length) wr hfin.cut.rd (fun b hb => hb.2) (by rw [trQ_len, ← HN.out]; have := HQ.out.1; omega) (by rw [trQ_end]; exact hlenJ))
          rw [trQ_end, ← HRQ.out] at KJ
          clear hfin hlenJ
          go_wp2_with fail
          refine KJ.out.mono ?_
          rintro ee Wz ⟨rfl, sz⟩
          have SZ := Lib.hid ((S5.out.trans HSj.out).trans sz)
          clear sz
          go_wp2
          go_ret2
          exact ⟨rfl, SZ.out⟩
end Go.Proofs.YtooiiefipdjbjaaDoor

namespace Go.Proofs.YtooiiefipdjbjaaDoor
set_option linter.unusedVariables false
set_option linter.unusedSimpArgs false
open Go.RowKit Go.Shelf
attribute [local go_sem] Oper.semAt_some

/-- What stands in memory for each span of a choice. -/
theorem rows_at {F : Nat → Prop} {a : Option Addr} {n cp : Nat} {ls : List Ln} {w : World} {first : Int} (h : ShF F w (.slice a n cp) ls first) (kd : Int) {x y : Nat} (hx : x < ls.length * cols ls) (hy : y < ls.length * cols ls) {k : Nat} (hk : k < chB ls kd (max x y) / cols ls + 1 - chA ls kd (min x y) / cols ls) :
    ∃ b1 o1 a1 m1 r T f t z, a = some ⟨b1, o1, none⟩ ∧ r < n ∧ T = first + (r : Int) ∧ (spansL ls first kd x y)[k]? = some ⟨T, (f : Nat), (t : Nat)⟩ ∧ w.cell? ⟨b1, o1 + r * 2, none⟩ = some (.slice a1 z.cells.length m1) ∧ w.cell? ⟨b1, o1 + r * 2 + 1, none⟩ = some (.bool z.soft) ∧ cellEl.Rd F w (.slice a1 z.cells.length m1) z.cells ∧ z.cells.length ≤ 1000 ∧ f ≤ 1000 ∧ t ≤ 1000 ∧ f ≤ t ∧ t ≤ z.cells.length ∧ spP ls kd x y k = pcL z f t ∧ spO ls kd x y k = (z.soft && (kd != 4)) := by
  obtain ⟨hall, h0, h1⟩ := rowsOk_ok h.ok
  have hcl : ∀ l ∈ ls, l.cells.length ≤ 1000 := fun l hl => by
    have := (hall l hl).2.1
    unfold lnOk at this
    rw [Bool.and_eq_true, decide_eq_true_eq] at this
    exact this.1
  obtain ⟨hM, hA1, hB1, hB2, hAB, hBn⟩ := ch_rows (kd := kd) hx hy
  have hN : n = ls.length := h.rd.len
  obtain ⟨r, hr⟩ : ∃ r, r = chA ls kd (min x y) / cols ls + k := ⟨_, rfl⟩
  have hrn : r < ls.length := by omega
  obtain ⟨b1, o1, z, a1, m1, rfl, _, hz, _, y0, y1, yc⟩ := h.rd.line (show r < n by omega)
  have hzc := hcl z (List.mem_iff_getElem?.2 ⟨_, hz⟩)
  have hzl := (hall z (List.mem_iff_getElem?.2 ⟨_, hz⟩)).1
  have hcx := Nat.mod_lt x hM
  have hcy := Nat.mod_lt y hM
  obtain ⟨q1, q2, q3⟩ := raw_lt (ls := ls) (kd := kd) (a := chA ls kd (min x y)) (b := chB ls kd (max x y)) (i := r) hM hcx hcy
  obtain ⟨q4, q5, q6⟩ := fix_lt hall hrn q1 q2 q3
  have hft : spF ls kd (chA ls kd (min x y)) r (x % cols ls) (y % cols ls) ≤ spT ls kd (chB ls kd (max x y)) r (x % cols ls) (y % cols ls) := by
    by_cases hk : kd = 4
    · unfold spF spT
      have e1 : rawF ls kd (chA ls kd (min x y)) r (x % cols ls) (y % cols ls) = min (x % cols ls) (y % cols ls) := by unfold rawF; rw [if_pos hk]
      have e2 : rawT ls kd (chB ls kd (max x y)) r (x % cols ls) (y % cols ls) = max (x % cols ls) (y % cols ls) + 1 := by unfold rawT; rw [if_pos hk]
      omega
    · have q7 := raw_some (kd := kd) (r := r) (c0 := x % cols ls) (c1 := y % cols ls) hM hk (show chA ls kd (min x y) ≤ chB ls kd (max x y) by omega)
      unfold spF spT
      omega
  refine ⟨b1, o1, a1, m1, r, _, spF ls kd (chA ls kd (min x y)) r (x % cols ls) (y % cols ls), spT ls kd (chB ls kd (max x y)) r (x % cols ls) (y % cols ls), z, rfl, by omega, rfl, ?_, y0, y1, yc, hzc, by unfold spF; omega, by unfold spT; omega, hft, by unfold spT; omega, ?_, ?_⟩
  · have q := spansL_at (ls := ls) (first := first) (kd := kd) (x := x) (y := y) (r := r) (by omega) (by omega)
    rw [show r - chA ls kd (min x y) / cols ls = k by omega] at q
    exact q
  · unfold spP spPc
    rw [← hr, hz]
  · unfold spO
    rw [← hr, softAt_of hz]
def sdE (p : Nat → List UInt8) (o : Nat → Bool) (m k : Nat) : List UInt8 × List UInt8 := if k ≤ m then sdP p o k else ((sdP p o m).1, (sdP p o m).2 ++ p m)
theorem nlL_len : ∀ (P : List (List UInt8)) (B : Nat), (∀ q ∈ P, q.length ≤ B) → (nlL P).length ≤ P.length * (B + 1)
  | [], B, _ => by simp [nlL]
  | q :: P, B, h => by
    have h1 := nlL_len P B (fun z hz => h z (by simp [hz]))
    have h2 := h q (by simp)
    have h3 := trB_len q
    rw [show nlL (q :: P) = trB q ++ [10] ++ nlL P from by simp [nlL], List.length_append, List.length_append, List.length_singleton, List.length_cons, Nat.succ_mul]
    omega
theorem sd_size {p : Nat → List UInt8} (o : Nat → Bool) (hp : ∀ j, (p j).length ≤ 16000) (k : Nat) (hk : k ≤ 1001) : (sdP p o k).1.length ≤ 20000000000 ∧ (sdP p o k).2.length ≤ 16016000 := by
  cases k with
  | zero => exact ⟨Nat.zero_le _, Nat.zero_le _⟩
  | succ k =>
    obtain ⟨h1, h2⟩ := pcF_size p o 16000 hp k
    have h3 := pcF_len p o k
    have h4 : (k + 1) * 16000 ≤ 1001 * 16000 := Nat.mul_le_mul_right _ hk
    have h5 : ∀ q ∈ (pcF p o k).1 ++ [(pcF p o k).2], q.length ≤ 16016000 := fun q hq => by
      rcases List.mem_append.1 hq with h | h
      · have := h1 q h; omega
      · rw [List.mem_singleton] at h; subst h; omega
    have h6 := nlL_len _ 16016000 h5
    have h7 := nlL_len (pcF p o k).1 16016000 (fun q hq => by have := h1 q hq; omega)
    rw [List.length_append, List.length_singleton] at h6
    have h8 : ((pcF p o k).1.length + 1) * (16016000 + 1) ≤ 1001 * (16016000 + 1) := Nat.mul_le_mul_right _ (by omega)
    have h9 : (pcF p o k).1.length * (16016000 + 1) ≤ 1001 * (16016000 + 1) := Nat.mul_le_mul_right _ (by omega)
    rw [sdP]
    split
    · exact ⟨by show (nlL (pcF p o k).1).length ≤ _; omega, by show (pcF p o k).2.length ≤ _; omega⟩
    · exact ⟨by show (nlL ((pcF p o k).1 ++ [(pcF p o k).2])).length ≤ _; omega, Nat.zero_le _⟩
theorem pc_end {cs : List Cell} {f tt U i : Nat} (h1 : f ≤ i) (h2 : i ≤ tt) (h3 : i ≤ U ∨ i = f) (h4 : i = tt ∨ U ≤ i) : txts ((cs.drop f).take (i - f)) = txts ((cs.drop (min f U)).take (min tt U - min f U)) := by
  rcases Nat.le_total f U with h | h
  · rw [Nat.min_eq_left h, show min tt U - f = i - f by omega]
  · rw [show i - f = 0 by omega, show min tt U - min f U = 0 by omega, List.take_zero, List.take_zero]
set_option maxHeartbeats 1000000 in
set_option maxRecDepth 100000 in
theorem said41_any (F G : Nat → Prop) (a : Option Addr) (n cp : Nat) (ls : List Ln) (w : World) (first : Int) (h : ShF F w (.slice a n cp) ls first) (kd : Int) (bk : Bool) (hbk : bk = (kd == 4)) (x y : Nat) (hx : x < ls.length * cols ls) (hy : y < ls.length * cols ls) (u : Value) (hu : snEl.Rd G w u (spansL ls first kd x y)) :
    Calls Tryd.prog 17 #[.slice a n cp, .int .i64 first, u, .bool bk] w fun e w' => e = .returned (.string (strL (textL ls kd x y))) ∧ Sees w w' := by
  obtain ⟨hall, h0, h1⟩ := rowsOk_ok h.ok
  have hcl : ∀ l ∈ ls, l.cells.length ≤ 1000 := fun l hl => by
    have := (hall l hl).2.1
    unfold lnOk at this
    rw [Bool.and_eq_true, decide_eq_true_eq] at this
    exact this.1
  obtain ⟨hM, hA1, hB1, hB2, hAB, hBn⟩ := ch_rows (kd := kd) hx hy
  have hlen := h.len
  have hN : n = ls.length := h.rd.len
  have HRW := Lib.hid (fun k hk => rows_at h kd hx hy (k := k) hk)
  have hP : ∀ k, (spP ls kd x y k).length ≤ 16000 := fun k => spPc_len hcl kd _ _ _ _ _
  have hZl := spansL_len ls first kd x y
  obtain ⟨m, hm⟩ : ∃ m, m = chB ls kd (max x y) / cols ls - chA ls kd (min x y) / cols ls := ⟨_, rfl⟩
  have hR : textL ls kd x y = txtOf (spP ls kd x y) (spO ls kd x y) m := by rw [hm]; rfl
  rw [hR, txtOf_sd]
  have hm1 : chB ls kd (max x y) / cols ls + 1 - chA ls kd (min x y) / cols ls = m + 1 := by omega
  have hmb : m ≤ 1000 := by
    generalize chA ls kd (min x y) / cols ls = q3 at *
    omega
  rw [hm1] at HRW hZl
  obtain ⟨m', hm'⟩ : ∃ m', m' = m + 1 := ⟨_, rfl⟩
  rw [← hm'] at HRW hZl
  have HSZ := Lib.hid (fun k hk => sd_size (spO ls kd x y) hP k hk)
  obtain ⟨au, cu, hue, _⟩ := hu.slice'
  subst hue
  rw [hZl] at hu ⊢
  generalize spP ls kd x y = P at *
  generalize spO ls kd x y = O at *
  generalize spansL ls first kd x y = Z at *
  obtain ⟨R, hRR⟩ : ∃ R, R = strL ((sdP P O m).1 ++ trB ((sdP P O m).2 ++ P m)) := ⟨_, rfl⟩
  rw [← hRR]
  have HR := Lib.hid hRR
  have HM := Lib.hid hm'
  have HU := Lib.hid hu
  have HPL := Lib.hid hP
  have HBK := Lib.hid hbk
  have hmb' : m' ≤ 1001 := by omega
  have hnB : n ≤ 1000 := by omega
  clear hRR hR hm' hu hP hbk hm hm1 hZl hcl hall hN hlen hM hA1 hB1 hB2 hAB hBn hx hy h
  have HS0 := Lib.hid (Sees.refl w)
  go_enter Tryd.func17, Tryd.ntmps17
  go_wp2
  go_loopw [9, 10, 11] (fun u9 u10 i W => ∃ (k : Nat) (X Y : ByteArray), k ≤ m' ∧ i = .int .i64 (k : Int) ∧ u9 = .string X ∧ u10 = .string Y ∧ Hid (X = strL (sdE P O m k).1 ∧ Y = strL (sdE P O m k).2) ∧ Sees w W) (fun _ _ i _ => m' - (intOf i).toNat)
  case atStart => exact ⟨0, ⟨#[]⟩, ⟨#[]⟩, Nat.zero_le _, rfl, rfl, rfl, ⟨rfl, rfl⟩, HS0.out⟩
  case round =>
    obtain ⟨k, X, Y, hk, rfl, rfl, rfl, hXY, hS⟩ := hrel
    have HS := Lib.hid hS
    clear hS
    by_cases hlt : k < m'
    · obtain ⟨b1, o1, a1, m1, r, T, f, tt, z, rfl, hrn, hT, hzk, y0, y1, yc, hzc, hf, htt, hft, htz, hPk, hOk⟩ := HRW.out k hlt
      obtain ⟨bs, os, s, rfl, hs, q0, q1, q2⟩ := sn_cell (HU.out.sees HS.out) hlt
      rw [hzk] at hs
      obtain rfl := Option.some.inj hs
      have hkm : k ≤ m := by have := HM.out; omega
      obtain ⟨e1, e2⟩ := hXY.out
      unfold sdE at e1 e2
      rw [if_pos hkm] at e1 e2
      obtain ⟨z1, z2⟩ := HSZ.out k (by omega)
      have hXs : X.size ≤ 20000000000 := by rw [e1, strL_size]; exact z1
      have hYs : Y.size ≤ 16016000 := by rw [e2, strL_size]; exact z2
      have HX := Lib.hid e1
      have HY := Lib.hid e2
      have hTs : IntKind.i64.wrap (T - first) = (r : Int) := by rw [IntWalk.i64_in _ (by omega)]; omega
      have hrn2 : (r : Int) < (n : Int) := by omega
      have hr0 : (0 : Int) ≤ (r : Int) := by omega
      have x0 := HS.out.cell y0
      have x1 := HS.out.cell y1
      have KU := Lib.hid (fun W (hs : Sees w W) => used_any _ z F W (yc.sees hs) (by omega))
      have HYC := Lib.hid yc
      have HPK := Lib.hid hPk
      have HOK := Lib.hid hOk
      have HQ0 := Lib.hid (fun W (hs : Sees wr W) => And.intro (hs.cell q0) (And.intro (hs.cell q1) (hs.cell q2)))
      obtain ⟨U, hU⟩ : ∃ U, U = usedN z.cells := ⟨_, rfl⟩
      have hUl := usedN_le z.cells
      rw [← hU] at KU hUl
      have HUU := Lib.hid hU
      obtain ⟨nz, hnz⟩ : ∃ nz, nz = z.cells.length := ⟨_, rfl⟩
      rw [← hnz] at KU x0 HYC hUl hzc htz
      generalize z.soft = so at *
      have HNZ := Lib.hid hnz
      clear hzk hs hT e1 e2 z1 z2 hPk hOk yc y0 y1 hU hnz hXY
      go_upto_region 6 with fail
      refine wp_world fun W6 hW6 => ?_
      have l6 : LnAt W6 wr.heap.size (.slice a1 nz m1) so := by subst hW6; exact LnAt.new rfl
      have s6 : Sees wr W6 := by subst hW6; exact (Sees.refl wr).alloc _
      obtain ⟨b12, hb12⟩ : ∃ b12, b12 = wr.heap.size := ⟨_, rfl⟩
      rw [← hb12] at l6 ⊢
      have L6 := Lib.hid l6
      have S6 := Lib.hid s6
      obtain ⟨q0, q1, q2⟩ := HQ0.out W6 s6
      clear hW6 l6 s6 hb12 x0 x1
      go_wp2
      obtain ⟨wb, hwb⟩ : ∃ wb : World, wb = W6 := ⟨_, rfl⟩
      clear q0 q1 q2
      go_loopw [10, 13] (fun u10 j W => ∃ (i : Nat) (V : ByteArray), f ≤ i ∧ i ≤ tt ∧ j = .int .i64 (i : Int) ∧ u10 = .string V ∧ Hid ((i ≤ U ∨ i = f) ∧ V = Y ++ strL (txts ((z.cells.drop f).take (i - f)))) ∧ Sees W6 W) (fun _ j _ => tt - (intOf j).toNat)
      case atStart => exact ⟨f, Y, Nat.le_refl _, hft, rfl, rfl, ⟨.inr rfl, by rw [Nat.sub_self]; exact (bytes_ext (by rw [bytes_app, strL_list]; simp [txts]))⟩, Sees.refl _⟩
      case round =>
        obtain ⟨i, V, hfi, hit, rfl, rfl, hV, hS6⟩ := hrel
        have HS6 := Lib.hid hS6
        obtain ⟨q0, q1, q2⟩ := HQ0.out wr (S6.out.trans hS6)
        obtain ⟨g0, g1⟩ := (L6.out.sees hS6).c
        have hVs : V.size ≤ 16040000 := by
          rw [hV.out.2, ByteArray.size_append, strL_size]
          have := txts_len ((z.cells.drop f).take (i - f))
          rw [List.length_take, List.length_drop] at this
          have := HNZ.out
          omega
        clear hS6
        by_cases hlt2 : i < tt
        · have i1 : decide ((i : Int) < (tt : Int)) = true := decide_eq_true (by omega)
          go_wp2_with fail
          refine (KU.out wr (HS.out.trans (S6.out.trans HS6.out))).mono ?_
          rintro ee W7 ⟨rfl, s7⟩
          have HS7 := Lib.hid (HS6.out.trans s7)
          clear s7 q0 q1 q2 g0 g1
          by_cases hlt3 : i < U
          · obtain ⟨b5, o5, d, hae, _, hd, hat⟩ := HYC.out.cell (show i < nz by omega)
            subst hae
            obtain ⟨g0, g1⟩ := (L6.out.sees HS7.out).c
            have HAT := Lib.hid (hat.sees (HS.out.trans (S6.out.trans HS7.out)))
            have hdl := d.txt_len
            have htk : txts ((z.cells.drop f).take (i + 1 - f)) = txts ((z.cells.drop f).take (i - f)) ++ d.txt := by
              rw [show i + 1 - f = (i - f) + 1 by omega]
              exact txts_step (by rw [List.getElem?_drop, show f + (i - f) = i by omega]; exact hd)
            obtain ⟨V2, hV2⟩ : ∃ V2 : ByteArray, V2 = ⟨d.txt.toArray⟩ := ⟨_, rfl⟩
            have KD : Hid (∀ W, Calls Tryd.prog 41 #[d.val] W fun e w' => e = .returned (.string V2) ∧ Sees W w') := fun W => by rw [hV2]; exact ctext_any d W
            have hV2s : V2.size ≤ 16 := by rw [hV2]; show d.txt.toArray.size ≤ 16; simp; exact hdl
            have hVV : Hid (V ++ V2 = Y ++ strL (txts ((z.cells.drop f).take (i + 1 - f)))) := by
              unfold RowKit.Hid
              rw [htk, hV.out.2, hV2, show (⟨d.txt.toArray⟩ : ByteArray) = strL d.txt from rfl, ← strL_app, ByteArray.append_assoc]
            have hsz : V.size + V2.size ≤ 9223372036854775807 := by omega
            have hi1 : (i : Int) < (U : Int) := by omega
            have hi2 : (i : Int) < (nz : Int) := by omega
            clear hat hd hdl htk hV2
            go_wp2_with (guard_target = wpList _ _ _ ({ dst := _, op := Op.load 85 _, type := _, pos := _, after := _, guard := _ } :: _) _ _; refine wpList_val rfl (exec_load (v := d.val) rfl rfl (run_loadCell HAT.out)) (fun K hK => ?_); go_simp; refine hK _ _ ?_; clear hK K)
            refine (KD.out _).mono ?_
            rintro ee W8 ⟨rfl, s8⟩
            have HS8 := Lib.hid (HS7.out.trans s8)
            clear s8 g0 g1
            go_wp2
            exact ⟨⟨i + 1, V ++ V2, by omega, by omega, by go_num, rfl, ⟨.inl (by omega), hVV.out⟩, HS8.out⟩, by simp [intOf] <;> omega⟩
          · have hfin : V = Y ++ strL (P k) := by rw [hV.out.2, pc_end hfi hit hV.out.1 (.inr (by omega)), HPK.out, HUU.out]; rfl
            have HFIN := Lib.hid hfin
            have hi1 : ¬ ((i : Int) < (U : Int)) := by omega
            have hi2 : U ≤ i := by omega
            have HSE := HS7
            clear hfin
            obtain ⟨g0, g1⟩ := (L6.out.sees HSE.out).c
            obtain ⟨k1, hk1⟩ : ∃ k1, k1 = k + 1 := ⟨_, rfl⟩
            have hkw : IntKind.i64.wrap ((k : Int) + 1) = (k1 : Int) := by rw [IntWalk.i64_in _ (by omega)]; omega
            have HK1 := Lib.hid hk1
            have HSW := Lib.hid (HS.out.trans (S6.out.trans HSE.out))
            clear hk1
            by_cases hkm2 : k = m
            · have c1 : decide ((k1 : Int) < (m' : Int)) = false := decide_eq_false (by have := HK1.out; have := HM.out; omega)
              have c2 : m' ≤ k1 := by have := HK1.out; have := HM.out; omega
              have c3 : k1 ≤ m' := by have := HK1.out; have := HM.out; omega
              have hnext : Hid (X = strL (sdE P O m k1).1 ∧ V = strL (sdE P O m k1).2) := by
                unfold RowKit.Hid sdE
                rw [if_neg (by have := HK1.out; omega), HFIN.out, HY.out, strL_app, HX.out, hkm2]
                exact ⟨rfl, rfl⟩
              clear hkm2
              go_wp2
              exact ⟨⟨k1, X, V, by omega, rfl, rfl, rfl, hnext.out, HSW.out⟩, by have := HK1.out; simp [intOf] <;> omega⟩
            · have c1 : decide ((k1 : Int) < (m' : Int)) = true := decide_eq_true (by have := HK1.out; have := HM.out; omega)
              have c2 : k1 < m' := by have := HK1.out; have := HM.out; omega
              have hE : Hid (sdE P O m k1 = if O k then ((sdP P O k).1, (sdP P O k).2 ++ P k) else ((sdP P O k).1 ++ (trB ((sdP P O k).2 ++ P k) ++ [10]), [])) := by
                unfold RowKit.Hid sdE
                rw [if_pos (by have := HK1.out; omega), HK1.out, sdP_next]
              have hVl : Hid (V = strL ((sdP P O k).2 ++ P k)) := by unfold RowKit.Hid; rw [HFIN.out, HY.out, strL_app]
              have KT := Lib.hid (fun W => trimmed41_any V (by omega) W)
              rw [trN_ext] at KT
              obtain ⟨V3, hV3⟩ : ∃ V3, V3 = strL (trB V.data.toList) := ⟨_, rfl⟩
              rw [← hV3] at KT
              have hV3s : V3.size ≤ 16040000 := by
                rw [hV3, strL_size]
                have := trB_len V.data.toList
                rw [← Lib.size_eq] at this
                omega
              have HV3 : Hid (V3 = strL (trB ((sdP P O k).2 ++ P k))) := by unfold RowKit.Hid; rw [hV3, hVl.out, strL_list]
              have hs1 : X.size + V3.size ≤ 9223372036854775807 := by omega
              have hs2 : (X ++ V3).size + 1 ≤ 9223372036854775807 := by rw [ByteArray.size_append]; omega
              have hs3 : X.size + V3.size + 1 ≤ 9223372036854775807 := by omega
              clear hV3
              cases bk
              · cases so
                · have hnext : Hid (X ++ V3 ++ (⟨#[10]⟩ : ByteArray) = strL (sdE P O m k1).1 ∧ (⟨#[]⟩ : ByteArray) = strL (sdE P O m k1).2) := by
                    unfold RowKit.Hid
                    rw [hE.out, if_neg (by rw [HOK.out]; simp), HX.out, HV3.out]
                    exact ⟨by rw [strL_app, show (⟨#[10]⟩ : ByteArray) = strL [10] from rfl, strL_app, List.append_assoc], rfl⟩
                  go_wp2_with fail
                  refine (KT.out _).mono ?_
                  rintro ee W9 ⟨rfl, rfl⟩
                  go_wp2
                  exact ⟨⟨k1, X ++ V3 ++ (⟨#[10]⟩ : ByteArray), ⟨#[]⟩, by omega, rfl, rfl, rfl, hnext.out, HSW.out⟩, by have := HK1.out; simp [intOf] <;> omega⟩
                · have hnext : Hid (X = strL (sdE P O m k1).1 ∧ V = strL (sdE P O m k1).2) := by
                    have hk4 : (kd != 4) = true := by rw [bne, ← HBK.out]; rfl
                    unfold RowKit.Hid
                    rw [hE.out, if_pos (by rw [HOK.out, hk4]; rfl), HX.out, hVl.out]
                    exact ⟨rfl, rfl⟩
                  go_wp2
                  exact ⟨⟨k1, X, V, by omega, rfl, rfl, rfl, hnext.out, HSW.out⟩, by have := HK1.out; simp [intOf] <;> omega⟩
              · have hnext : Hid (X ++ V3 ++ (⟨#[10]⟩ : ByteArray) = strL (sdE P O m k1).1 ∧ (⟨#[]⟩ : ByteArray) = strL (sdE P O m k1).2) := by
                  have hk4 : (kd != 4) = false := by rw [bne, ← HBK.out]; rfl
                  unfold RowKit.Hid
                  rw [hE.out, if_neg (by rw [HOK.out, hk4, Bool.and_false]; simp), HX.out, HV3.out]
                  exact ⟨by rw [strL_app, show (⟨#[10]⟩ : ByteArray) = strL [10] from rfl, strL_app, List.append_assoc], rfl⟩
                go_wp2_with fail
                refine (KT.out _).mono ?_
                rintro ee W9 ⟨rfl, rfl⟩
                go_wp2
                exact ⟨⟨k1, X ++ V3 ++ (⟨#[10]⟩ : ByteArray), ⟨#[]⟩, by omega, rfl, rfl, rfl, hnext.out, HSW.out⟩, by have := HK1.out; simp [intOf] <;> omega⟩
        · have hfin : V = Y ++ strL (P k) := by rw [hV.out.2, pc_end hfi hit hV.out.1 (.inl (by omega)), HPK.out, HUU.out]; rfl
          have HFIN := Lib.hid hfin
          have i1 : decide ((i : Int) < (tt : Int)) = false := decide_eq_false (by omega)
          have hi2 : tt ≤ i := by omega
          have HSE := HS6
          clear hfin g0 g1
          obtain ⟨g0, g1⟩ := (L6.out.sees HSE.out).c
          obtain ⟨k1, hk1⟩ : ∃ k1, k1 = k + 1 := ⟨_, rfl⟩
          have hkw : IntKind.i64.wrap ((k : Int) + 1) = (k1 : Int) := by rw [IntWalk.i64_in _ (by omega)]; omega
          have HK1 := Lib.hid hk1
          have HSW := Lib.hid (HS.out.trans (S6.out.trans HSE.out))
          clear hk1
          by_cases hkm2 : k = m
          · have c1 : decide ((k1 : Int) < (m' : Int)) = false := decide_eq_false (by have := HK1.out; have := HM.out; omega)
            have c2 : m' ≤ k1 := by have := HK1.out; have := HM.out; omega
            have c3 : k1 ≤ m' := by have := HK1.out; have := HM.out; omega
            have hnext : Hid (X = strL (sdE P O m k1).1 ∧ V = strL (sdE P O m k1).2) := by
              unfold RowKit.Hid sdE
              rw [if_neg (by have := HK1.out; omega), HFIN.out, HY.out, strL_app, HX.out, hkm2]
              exact ⟨rfl, rfl⟩
            clear hkm2
            go_wp2
            exact ⟨⟨k1, X, V, by omega, rfl, rfl, rfl, hnext.out, HSW.out⟩, by have := HK1.out; simp [intOf] <;> omega⟩
          · have c1 : decide ((k1 : Int) < (m' : Int)) = true := decide_eq_true (by have := HK1.out; have := HM.out; omega)
            have c2 : k1 < m' := by have := HK1.out; have := HM.out; omega
            have hE : Hid (sdE P O m k1 = if O k then ((sdP P O k).1, (sdP P O k).2 ++ P k) else ((sdP P O k).1 ++ (trB ((sdP P O k).2 ++ P k) ++ [10]), [])) := by
              unfold RowKit.Hid sdE
              rw [if_pos (by have := HK1.out; omega), HK1.out, sdP_next]
            have hVl : Hid (V = strL ((sdP P O k).2 ++ P k)) := by unfold RowKit.Hid; rw [HFIN.out, HY.out, strL_app]
            have KT := Lib.hid (fun W => trimmed41_any V (by omega) W)
            rw [trN_ext] at KT
            obtain ⟨V3, hV3⟩ : ∃ V3, V3 = strL (trB V.data.toList) := ⟨_, rfl⟩
            rw [← hV3] at KT
            have hV3s : V3.size ≤ 16040000 := by
              rw [hV3, strL_size]
              have := trB_len V.data.toList
              rw [← Lib.size_eq] at this
              omega
            have HV3 : Hid (V3 = strL (trB ((sdP P O k).2 ++ P k))) := by unfold RowKit.Hid; rw [hV3, hVl.out, strL_list]
            have hs1 : X.size + V3.size ≤ 9223372036854775807 := by omega
            have hs2 : (X ++ V3).size + 1 ≤ 9223372036854775807 := by rw [ByteArray.size_append]; omega
            have hs3 : X.size + V3.size + 1 ≤ 9223372036854775807 := by omega
            clear hV3
            cases bk
            · cases so
              · have hnext : Hid (X ++ V3 ++ (⟨#[10]⟩ : ByteArray) = strL (sdE P O m k1).1 ∧ (⟨#[]⟩ : ByteArray) = strL (sdE P O m k1).2) := by
                  unfold RowKit.Hid
                  rw [hE.out, if_neg (by rw [HOK.out]; simp), HX.out, HV3.out]
                  exact ⟨by rw [strL_app, show (⟨#[10]⟩ : ByteArray) = strL [10] from rfl, strL_app, List.append_assoc], rfl⟩
                go_wp2_with fail
                refine (KT.out _).mono ?_
                rintro ee W9 ⟨rfl, rfl⟩
                go_wp2
                exact ⟨⟨k1, X ++ V3 ++ (⟨#[10]⟩ : ByteArray), ⟨#[]⟩, by omega, rfl, rfl, rfl, hnext.out, HSW.out⟩, by have := HK1.out; simp [intOf] <;> omega⟩
              · have hnext : Hid (X = strL (sdE P O m k1).1 ∧ V = strL (sdE P O m k1).2) := by
                  have hk4 : (kd != 4) = true := by rw [bne, ← HBK.out]; rfl
                  unfold RowKit.Hid
                  rw [hE.out, if_pos (by rw [HOK.out, hk4]; rfl), HX.out, hVl.out]
                  exact ⟨rfl, rfl⟩
                go_wp2
                exact ⟨⟨k1, X, V, by omega, rfl, rfl, rfl, hnext.out, HSW.out⟩, by have := HK1.out; simp [intOf] <;> omega⟩
            · have hnext : Hid (X ++ V3 ++ (⟨#[10]⟩ : ByteArray) = strL (sdE P O m k1).1 ∧ (⟨#[]⟩ : ByteArray) = strL (sdE P O m k1).2) := by
                have hk4 : (kd != 4) = false := by rw [bne, ← HBK.out]; rfl
                unfold RowKit.Hid
                rw [hE.out, if_neg (by rw [HOK.out, hk4, Bool.and_false]; simp), HX.out, HV3.out]
                exact ⟨by rw [strL_app, show (⟨#[10]⟩ : ByteArray) = strL [10] from rfl, strL_app, List.append_assoc], rfl⟩
              go_wp2_with fail
              refine (KT.out _).mono ?_
              rintro ee W9 ⟨rfl, rfl⟩
              go_wp2
              exact ⟨⟨k1, X ++ V3 ++ (⟨#[10]⟩ : ByteArray), ⟨#[]⟩, by omega, rfl, rfl, rfl, hnext.out, HSW.out⟩, by have := HK1.out; simp [intOf] <;> omega⟩
    · obtain rfl : k = m' := by omega
      obtain ⟨e1, e2⟩ := hXY.out
      unfold sdE at e1 e2
      rw [if_neg (by have := HM.out; omega)] at e1 e2
      obtain ⟨z1, z2⟩ := HSZ.out m (by have := HM.out; omega)
      have hXs : X.size ≤ 20000000000 := by rw [e1, strL_size]; exact z1
      have hYs : Y.size ≤ 16040000 := by
        rw [e2, strL_size]
        show ((sdP P O m).2 ++ P m).length ≤ _
        rw [List.length_append]
        have := HPL.out m
        omega
      have KT := Lib.hid (fun W => trimmed41_any Y (by omega) W)
      rw [trN_ext] at KT
      obtain ⟨Y2, hY2⟩ : ∃ Y2, Y2 = strL (trB Y.data.toList) := ⟨_, rfl⟩
      rw [← hY2] at KT
      have hY2s : Y2.size ≤ 16040000 := by
        rw [hY2, strL_size]
        have := trB_len Y.data.toList
        rw [← Lib.size_eq] at this
        omega
      have hfin : Hid (X ++ Y2 = R) := by
        unfold RowKit.Hid
        rw [HR.out, e1, hY2, e2, strL_list, strL_app]
      have hsz : X.size + Y2.size ≤ 9223372036854775807 := by omega
      clear e1 e2 z1 z2 hY2 hXY
      go_wp2_with fail
      refine (KT.out _).mono ?_
      rintro ee W8 ⟨rfl, rfl⟩
      go_wp2
      go_ret
      exact ⟨by rw [hfin.out]; rfl, HS.out⟩
end Go.Proofs.YtooiiefipdjbjaaDoor

namespace Go.Proofs.YtooiiefipdjbjaaDoor
set_option linter.unusedVariables false
set_option linter.unusedSimpArgs false
open Go.RowKit Go.Shelf
attribute [local go_sem] Oper.semAt_some

structure SpM (w : World) (b5 b14 : Nat) (kd l0 c0 l1 c1 : Int) (v : Value) (xs : List Sn) (s : Sn) (W : World) : Prop where
  i : Sees w W
  ch : ChAt W b5 kd l0 c0 l1 c1
  x : SnAt W b14 s
  o : snEl.Own (fun b => b5 < b ∧ b < b14) W v xs
section
variable {w W W' : World} {b5 b14 : Nat} {kd l0 c0 l1 c1 : Int} {v : Value} {xs : List Sn} {s : Sn}
theorem SpM.sees (h : SpM w b5 b14 kd l0 c0 l1 c1 v xs s W) (hs : Sees W W') : SpM w b5 b14 kd l0 c0 l1 c1 v xs s W' := ⟨h.i.trans hs, h.ch.sees hs, h.x.sees hs, h.o.sees hs⟩
theorem SpM.setX (h : SpM w b5 b14 kd l0 c0 l1 c1 v xs s W) (hb : w.heap.size ≤ b5 ∧ b5 < b14) (j : Nat) (x : Int) {s' : Sn} (hs : SnAt (W.setCell ⟨b14, j, none⟩ (.int .i64 x)) b14 s') : SpM w b5 b14 kd l0 c0 l1 c1 v xs s' (W.setCell ⟨b14, j, none⟩ (.int .i64 x)) :=
  ⟨h.i.setCell (p := ⟨b14, j, none⟩) (by show w.heap.size ≤ b14; omega) _, h.ch.keeps (cell_keeps1 W b14 _ _) (fun e => by omega), hs, h.o.keeps (cell_keeps1 W b14 _ _) (fun c hc e => by have e2 : c = b14 := e; omega)⟩
theorem SpM.set1 (h : SpM w b5 b14 kd l0 c0 l1 c1 v xs s W) (hb : w.heap.size ≤ b5 ∧ b5 < b14) (x : Int) : SpM w b5 b14 kd l0 c0 l1 c1 v xs ⟨s.row, x, s.t⟩ (W.setCell ⟨b14, 1, none⟩ (.int .i64 x)) := h.setX hb 1 x (sn_set1 h.x x)
theorem SpM.set2 (h : SpM w b5 b14 kd l0 c0 l1 c1 v xs s W) (hb : w.heap.size ≤ b5 ∧ b5 < b14) (x : Int) : SpM w b5 b14 kd l0 c0 l1 c1 v xs ⟨s.row, s.f, x⟩ (W.setCell ⟨b14, 2, none⟩ (.int .i64 x)) := h.setX hb 2 x (sn_set2 h.x x)
end
theorem raw_arith {M A B r : Nat} (hM : 0 < M) (h1 : A / M ≤ r) (h2 : r ≤ B / M) : max A (r * M) - r * M = (if r = A / M then A % M else 0) ∧ min B (r * M + M - 1) - r * M + 1 = (if r = B / M then B % M + 1 else M) ∧ r * M ≤ max A (r * M) ∧ r * M ≤ min B (r * M + M - 1) := by
  have ha := Nat.div_add_mod' A M
  have hb := Nat.div_add_mod' B M
  have hac := Nat.mod_lt A hM
  have hbc := Nat.mod_lt B hM
  have k1 : A / M < r → A / M * M + M ≤ r * M := fun h => by
    have := Nat.mul_le_mul_right M (Nat.succ_le_of_lt h); rw [Nat.succ_mul] at this; exact this
  have k2 : r < B / M → r * M + M ≤ B / M * M := fun h => by
    have := Nat.mul_le_mul_right M (Nat.succ_le_of_lt h); rw [Nat.succ_mul] at this; exact this
  have k3 := Nat.mul_le_mul_right M h1
  have k4 := Nat.mul_le_mul_right M h2
  refine ⟨?_, ?_, by omega, by omega⟩
  · by_cases h : r = A / M
    · rw [if_pos h]; rw [← h] at ha; omega
    · rw [if_neg h]; have := k1 (by omega); omega
  · by_cases h : r = B / M
    · rw [if_pos h]; rw [← h] at hb; omega
    · rw [if_neg h]; have := k2 (by omega); omega
set_option maxHeartbeats 1000000 in
set_option maxRecDepth 100000 in
theorem spanned41_any (F : Nat → Prop) (a : Option Addr) (n cp : Nat) (ls : List Ln) (w : World) (first : Int) (h : ShF F w (.slice a n cp) ls first) (kd : Int) (hk1 : 1 ≤ kd) (hk4 : kd ≤ 4) (x y : Nat) (hx : x < ls.length * cols ls) (hy : y < ls.length * cols ls) :
    Calls Tryd.prog 16 #[.slice a n cp, .int .i64 first, chV kd (plI ls first x).1 (plI ls first x).2 (plI ls first y).1 (plI ls first y).2] w fun e w' => ∃ v, e = .returned v ∧ snEl.Own (fun b => w.heap.size ≤ b) w' v (spansL ls first kd x y) ∧ Sees w w' := by
  obtain ⟨hM, hA1, hB1, hB2, hAB, hBn⟩ := ch_rows (kd := kd) hx hy
  obtain ⟨hall, hf0, hf1⟩ := rowsOk_ok h.ok
  have HALL := Lib.hid hall
  have hM2 := (h.row hx).2.1
  have hlen := h.len
  have hN : n = ls.length := h.rd.len
  have hNM : ls.length * cols ls ≤ 1000 * 1000 := Nat.mul_le_mul hlen hM2
  have KI1 := Lib.hid (fun W (hs : Sees w W) => index_in F (.slice a n cp) ls W first (h.sees hs) x hx)
  have KI2 := Lib.hid (fun W (hs : Sees w W) => index_in F (.slice a n cp) ls W first (h.sees hs) y hy)
  have KW1 := Lib.hid (fun W (hs : Sees w W) => word41_at F (.slice a n cp) ls W first (h.sees hs) (min x y) (by omega))
  have KW2 := Lib.hid (fun W (hs : Sees w W) => word41_at F (.slice a n cp) ls W first (h.sees hs) (max x y) (by omega))
  have hrx := dm_row hM (show min x y < ls.length * cols ls by omega)
  have hry := dm_row hM (show max x y < ls.length * cols ls by omega)
  have KL1 := Lib.hid (fun W (hs : Sees w W) => logical41_at F (.slice a n cp) ls W (h.rd.sees hs) (by omega) (min x y / cols ls) hrx)
  have KL2 := Lib.hid (fun W (hs : Sees w W) => logical41_at F (.slice a n cp) ls W (h.rd.sees hs) (by omega) (max x y / cols ls) hry)
  have H := Lib.hid h
  have hzlt : 0 < ls.length := Nat.lt_of_le_of_lt (Nat.zero_le _) hrx
  have hn0 : 0 < n := by omega
  obtain ⟨Z, hZ⟩ : ∃ Z, Z = spansL ls first kd x y := ⟨_, rfl⟩
  rw [← hZ]
  have HZ0 := Lib.hid hZ
  clear hZ
  obtain ⟨b1, o1, z, a0, m0, rfl, hfb, hz, _, y0, _, _⟩ := h.rd.line (show 0 < n by omega)
  rw [Nat.zero_mul, Nat.add_zero] at y0
  have hcol := cols_of hz
  rw [← hcol] at y0
  have HN := Lib.hid hN
  have hnB : n ≤ 1000 := by omega
  have hcx0 : (plI ls first x).2 = ((x % cols ls : Nat) : Int) := rfl
  have hcy0 : (plI ls first y).2 = ((y % cols ls : Nat) : Int) := rfl
  have hcx := Nat.mod_lt x hM
  have hcy := Nat.mod_lt y hM
  have HCX := Lib.hid hcx0
  have HCY := Lib.hid hcy0
  unfold plV at KI1 KI2
  generalize (plI ls first x).1 = l0 at *
  generalize (plI ls first x).2 = c0 at *
  generalize (plI ls first y).1 = l1 at *
  generalize (plI ls first y).2 = c1 at *
  have hq1 := tq41 (min x y) (cols ls)
  have hq2 := tq41 (max x y) (cols ls)
  have hq3 := tq41 (wA ls (min x y)) (cols ls)
  have hq4 := tq41 (wB ls (max x y)) (cols ls)
  have HHY := Lib.hid hy
  have HHX := Lib.hid hx
  clear hz hcol hzlt h hfb hN hlen hcx0 hcy0
  obtain ⟨M, hMM⟩ : ∃ M, M = cols ls := ⟨_, rfl⟩
  rw [← hMM] at y0 hq1 hq2 hq3 hq4
  have HMM := Lib.hid hMM
  have hM0 : M ≠ 0 := by omega
  have hMi : ((M : Int) == 0) = false := by rw [beq_eq_false_iff_ne]; omega
  have hMb : M ≤ 1000 := by omega
  have hMp : 0 < M := by omega
  clear hMM
  go_enter Tryd.func16, Tryd.ntmps16
  go_upto_region 1 with fail
  refine wp_world fun W1 hW1 => ?_
  have p1 : ChAt W1 w.heap.size kd l0 c0 l1 c1 := by subst hW1; exact heap_alloc_new w _
  have s1 : Sees w W1 := by subst hW1; exact (Sees.refl w).alloc _
  obtain ⟨b5, hb5⟩ : ∃ b5, b5 = w.heap.size := ⟨_, rfl⟩
  rw [← hb5] at p1 ⊢
  have HB5 := Lib.hid hb5
  have P1 := Lib.hid p1
  have S1 := Lib.hid s1
  have x0 := s1.cell y0
  clear hW1 p1 s1 y0 hb5
  go_upto_region 2 with fail
  refine wpH_go (fun _ => False) 12 (by kernel_rfl) (by kernel_rfl) (by rfl) (fun hB w9 hs9 => ?_)
  have S9 := Lib.hid (S1.out.trans hs9)
  have P9 := Lib.hid (P1.out.sees hs9)
  clear hs9 x0
  have hS0 : Keeps (fun _ => False) w9 w9 := Keeps.refl _ w9
  refine wpH_take (i := 0) (v := .slice (some ⟨b1, o1, none⟩) n cp) hB (by rfl) (by kernel_rfl) (fun _ _ _ _ _ h => h) (by rfl) hS0 (fun W hI => by clear hI; go_simp) ?_; (try simp only [Act.put, List.setIfInBounds_toArray, List.set_cons_zero, List.set_cons_succ])
  refine wpH_take (i := 1) (v := .int .i64 first) hB (by rfl) (by kernel_rfl) (fun _ _ _ _ _ h => h) (by rfl) hS0 (fun W hI => by clear hI; go_simp) ?_; (try simp only [Act.put, List.setIfInBounds_toArray, List.set_cons_zero, List.set_cons_succ])
  refine wpH_take (i := 2) (v := .pointer (some ⟨b5, 1, none⟩)) hB (by rfl) (by kernel_rfl) (fun _ _ _ _ _ h => h) (by rfl) hS0 (fun W hI => by clear hI; go_simp) ?_; (try simp only [Act.put, List.setIfInBounds_toArray, List.set_cons_zero, List.set_cons_succ])
  refine wpH_take (i := 3) (v := .agg #[.int .i64 l0, .int .i64 c0]) hB (by rfl) (by kernel_rfl) (fun _ _ _ _ _ h => h) (by rfl) hS0 (fun W hI => by obtain ⟨q0, q1, q2, q3, q4⟩ := (P9.out.keeps hI (fun h => h)).c; go_simp) ?_; (try simp only [Act.put, List.setIfInBounds_toArray, List.set_cons_zero, List.set_cons_succ])
  refine wpH_take (i := 5) (v := .slice (some ⟨b1, o1, none⟩) n cp) hB (by rfl) (by kernel_rfl) (fun _ _ _ _ _ h => h) (by rfl) hS0 (fun W hI => by clear hI; go_simp) ?_; (try simp only [Act.put, List.setIfInBounds_toArray, List.set_cons_zero, List.set_cons_succ])
  refine wpH_take (i := 6) (v := .int .i64 first) hB (by rfl) (by kernel_rfl) (fun _ _ _ _ _ h => h) (by rfl) hS0 (fun W hI => by clear hI; go_simp) ?_; (try simp only [Act.put, List.setIfInBounds_toArray, List.set_cons_zero, List.set_cons_succ])
  refine wpH_take (i := 7) (v := .pointer (some ⟨b5, 3, none⟩)) hB (by rfl) (by kernel_rfl) (fun _ _ _ _ _ h => h) (by rfl) hS0 (fun W hI => by clear hI; go_simp) ?_; (try simp only [Act.put, List.setIfInBounds_toArray, List.set_cons_zero, List.set_cons_succ])
  refine wpH_take (i := 8) (v := .agg #[.int .i64 l1, .int .i64 c1]) hB (by rfl) (by kernel_rfl) (fun _ _ _ _ _ h => h) (by rfl) hS0 (fun W hI => by obtain ⟨q0, q1, q2, q3, q4⟩ := (P9.out.keeps hI (fun h => h)).c; go_simp) ?_; (try simp only [Act.put, List.setIfInBounds_toArray, List.set_cons_zero, List.set_cons_succ])
  refine wpH_one (i := 4) (by kernel_rfl) (wpOp_enter (fn := 12) (args := #[.slice (some ⟨b1, o1, none⟩) n cp, .int .i64 first, .agg #[.int .i64 l0, .int .i64 c0]]) (by rfl) (by rfl) (by go_simp) ((KI1.out w9 S9.out).mono ?_))
  rintro ee w10 ⟨rfl, hs⟩
  have hS1 := hS0.trans (Keeps.of_sees hs)
  refine ⟨_, rfl, hS1, ?_⟩
  (try simp only [Act.put, List.setIfInBounds_toArray, List.set_cons_zero, List.set_cons_succ])
  have S10 := Lib.hid (S9.out.trans hs)
  have P10 := Lib.hid (P9.out.sees hs)
  clear hs hS0
  refine wpH_one (i := 9) (by kernel_rfl) (wpOp_enter (fn := 12) (args := #[.slice (some ⟨b1, o1, none⟩) n cp, .int .i64 first, .agg #[.int .i64 l1, .int .i64 c1]]) (by rfl) (by rfl) (by go_simp) ((KI2.out w10 S10.out).mono ?_))
  rintro ee w11 ⟨rfl, hs⟩
  have hS0 := hS1.trans (Keeps.of_sees hs)
  refine ⟨_, rfl, hS0, ?_⟩
  (try simp only [Act.put, List.setIfInBounds_toArray, List.set_cons_zero, List.set_cons_succ])
  have S11 := Lib.hid (S10.out.trans hs)
  have P11 := Lib.hid (P10.out.sees hs)
  clear hs hS1
  refine wpH_take (i := 10) (v := .int .i64 (x : Int)) hB (by rfl) (by kernel_rfl) (fun _ _ _ _ _ h => h) (by rfl) hS0 (fun W hI => by clear hI; go_simp) ?_; (try simp only [Act.put, List.setIfInBounds_toArray, List.set_cons_zero, List.set_cons_succ])
  refine wpH_take (i := 11) (v := .int .i64 (y : Int)) hB (by rfl) (by kernel_rfl) (fun _ _ _ _ _ h => h) (by rfl) hS0 (fun W hI => by clear hI; go_simp) ?_; (try simp only [Act.put, List.setIfInBounds_toArray, List.set_cons_zero, List.set_cons_succ])
  refine wpH_end (by kernel_rfl) ?_
  clear hS0 hB KI1 KI2
  obtain ⟨i0, hi0⟩ : ∃ i0, i0 = min x y := ⟨_, rfl⟩
  obtain ⟨i1, hi1⟩ : ∃ i1, i1 = max x y := ⟨_, rfl⟩
  have m1 : min (x : Int) (y : Int) = (i0 : Int) := by omega
  have m2 : max (x : Int) (y : Int) = (i1 : Int) := by omega
  rw [← hi0] at hq1 hq3 KW1 KL1 hrx
  rw [← hi1] at hq2 hq4 KW2 KL2 hry
  have HI0 := Lib.hid hi0
  have HI1 := Lib.hid hi1
  have hi0b : i0 ≤ 1000000 := by omega
  have hi1b : i1 ≤ 1000000 := by omega
  clear hi0 hi1 hx hy
  rw [← HMM.out] at KL1 KL2 hrx hry
  obtain ⟨t0, ht0⟩ : ∃ t0, t0 = i0 / M := ⟨_, rfl⟩
  obtain ⟨u0, hu0⟩ : ∃ u0, u0 = i1 / M := ⟨_, rfl⟩
  rw [← ht0] at hq1 KL1 hrx
  rw [← hu0] at hq2 KL2 hry
  have HT0 := Lib.hid ht0
  have HU0 := Lib.hid hu0
  clear ht0 hu0
  have k1 : IntKind.i64.wrap (t0 : Int) = (t0 : Int) := IntWalk.i64_in _ (by have := HN.out; omega)
  have k2 : IntKind.i64.wrap (u0 : Int) = (u0 : Int) := IntWalk.i64_in _ (by have := HN.out; omega)
  go_upto_region 4 with fail
  refine wp_region_quiet_below (by kernel_rfl) (by kernel_rfl) ?_
  repeat (first | go_big_quiet_skip | (go_big_quiet_want; go_big_quiet_op; go_big_quiet_on))
  refine wpQuiet_nil ?_
  intro w12 hw12'
  have hw12 := regrown_sees hw12'
  clear hw12'
  have S12 := Lib.hid (S11.out.trans hw12)
  have P12 := Lib.hid (P11.out.sees hw12)
  clear hw12
  obtain ⟨A, hA⟩ : ∃ A, A = chA ls kd i0 := ⟨_, rfl⟩
  obtain ⟨B, hB⟩ : ∃ B, B = chB ls kd i1 := ⟨_, rfl⟩
  obtain ⟨top, htop⟩ : ∃ top, top = A / M := ⟨_, rfl⟩
  obtain ⟨bot, hbot⟩ : ∃ bot, bot = B / M := ⟨_, rfl⟩
  have HF : Hid (Z = spTo ls first kd A B (x % cols ls) (y % cols ls) (bot + 1 - top)) := by unfold RowKit.Hid; rw [htop, hbot, hA, hB, HZ0.out, HI0.out, HI1.out, HMM.out]; rfl
  rw [← HI0.out, ← HI1.out, ← HMM.out, ← hA, ← hB, ← htop, ← hbot] at hAB
  rw [← HI1.out, ← HMM.out, ← hB, ← hbot] at hBn
  rw [← HI1.out, ← hB] at hB1 hB2
  rw [← HI0.out, ← hA] at hA1
  have hAb : A ≤ 1000000 := by have := HHX.out; have := HHY.out; have := HI1.out; omega
  have hBb : B ≤ 1000000 := by omega
  have HA := Lib.hid hA
  have HBB := Lib.hid hB
  have HTOP := Lib.hid htop
  have HBOT := Lib.hid hbot
  clear hA hB htop hbot
  obtain ⟨d0, d1, d2, d3, d4⟩ := P12.out.c
  go_upto_block 0 with fail
  go_cut [8, 9, 10, 11] from 44 to 86 (fun u8 u9 u10 u11 wx => u8 = .int .i64 (A : Int) ∧ u9 = .int .i64 (B : Int) ∧ u10 = .int .i64 (top : Int) ∧ u11 = .int .i64 (bot : Int) ∧ Sees w wx ∧ ChAt wx b5 kd l0 c0 l1 c1)
  case first =>
    by_cases hk2 : kd = 2
    · have e1 : wA ls i0 = A := by rw [HA.out, hk2]; rfl
      have e2 : wB ls i1 = B := by rw [HBB.out, hk2]; rfl
      have hkb : (kd == 2) = true := by rw [hk2]; rfl
      rw [e1] at KW1 hq3
      rw [e2] at KW2 hq4
      rw [← HTOP.out] at hq3
      rw [← HBOT.out] at hq4
      have k3 : IntKind.i64.wrap (top : Int) = (top : Int) := IntWalk.i64_in _ (by have := HN.out; omega)
      have k4 : IntKind.i64.wrap (bot : Int) = (bot : Int) := IntWalk.i64_in _ (by have := HN.out; omega)
      clear e1 e2 hk2
      go_wp2_with fail
      refine (KW1.out w12 S12.out).mono ?_
      rintro ee w13 ⟨rfl, s13⟩
      have S13 := Lib.hid (S12.out.trans s13)
      have P13 := Lib.hid (P12.out.sees s13)
      clear s13 d0 d1 d2 d3 d4
      go_wp2_with fail
      refine (KW2.out w13 S13.out).mono ?_
      rintro ee w14 ⟨rfl, s14⟩
      have S14 := Lib.hid (S13.out.trans s14)
      have P14 := Lib.hid (P13.out.sees s14)
      clear s14
      go_upto_region 9 with fail
      refine wp_region_quiet_below (by kernel_rfl) (by kernel_rfl) ?_
      repeat (first | go_big_quiet_skip | (go_big_quiet_want; go_big_quiet_op; go_big_quiet_on))
      refine wpQuiet_nil ?_
      intro w15 hw15'
      have hw15 := regrown_sees hw15'
      clear hw15'
      go_wp2
      go_meet
      exact ⟨rfl, rfl, rfl, rfl, S14.out.trans hw15, P14.out.sees hw15⟩
    by_cases hk3 : kd = 3
    · have g0 := (dm (r := topI ls t0) hMp)
      have g1 := (dm (r := botI ls u0) (show M - 1 < M by omega))
      rw [Nat.add_zero] at g0
      have eA : A = topI ls t0 * M := by
        rw [HA.out, hk3]
        unfold chA
        rw [if_neg (by decide), if_pos rfl, ← HMM.out, ← HT0.out]
      have eB : B = botI ls u0 * M + (M - 1) := by
        rw [HBB.out, hk3]
        unfold chB
        rw [if_neg (by decide), if_pos rfl, ← HMM.out, ← HU0.out]
      have e1 : topI ls t0 = top := by rw [HTOP.out, eA, g0.1]
      have e2 : botI ls u0 = bot := by rw [HBOT.out, eB, g1.1]
      rw [e1] at KL1 eA
      rw [e2] at KL2 eB
      have hkb : (kd == 2) = false := by rw [beq_eq_false_iff_ne]; exact hk2
      have hkc : (kd == 3) = true := by rw [hk3]; rfl
      have k3 : IntKind.i64.wrap ((top : Int) * (M : Int)) = (A : Int) := by rw [eA, ← Int.natCast_mul]; exact IntWalk.i64_in _ (by omega)
      obtain ⟨bM, hbM⟩ : ∃ bM, bM = bot * M := ⟨_, rfl⟩
      rw [← hbM] at eB
      have k4 : IntKind.i64.wrap ((bot : Int) * (M : Int)) = (bM : Int) := by rw [hbM, ← Int.natCast_mul]; exact IntWalk.i64_in _ (by omega)
      obtain ⟨bM2, hbM2⟩ : ∃ bM2, bM2 = bM + M := ⟨_, rfl⟩
      have k5 : IntKind.i64.wrap ((bM : Int) + (M : Int)) = (bM2 : Int) := by rw [IntWalk.i64_in _ (by omega)]; omega
      have k6 : IntKind.i64.wrap ((bM2 : Int) - 1) = (B : Int) := by rw [IntWalk.i64_in _ (by omega)]; omega
      clear e1 e2 hk3 hk2 g0 g1 eA eB hbM hbM2
      go_wp2_with fail
      refine (KL1.out w12 S12.out).mono ?_
      rintro ee w13 ⟨rfl, s13⟩
      have S13 := Lib.hid (S12.out.trans s13)
      have P13 := Lib.hid (P12.out.sees s13)
      clear s13 d0 d1 d2 d3 d4
      go_wp2_with fail
      refine (KL2.out w13 S13.out).mono ?_
      rintro ee w14 ⟨rfl, s14⟩
      have S14 := Lib.hid (S13.out.trans s14)
      have P14 := Lib.hid (P13.out.sees s14)
      clear s14
      go_wp2
      go_meet
      exact ⟨rfl, rfl, rfl, rfl, S14.out, P14.out⟩
    · have e1 : i0 = A := by rw [HA.out]; unfold chA; rw [if_neg hk2, if_neg hk3]
      have e2 : i1 = B := by rw [HBB.out]; unfold chB; rw [if_neg hk2, if_neg hk3]
      have e3 : t0 = top := by rw [HT0.out, HTOP.out, e1]
      have e4 : u0 = bot := by rw [HU0.out, HBOT.out, e2]
      have hkb : (kd == 2) = false := by rw [beq_eq_false_iff_ne]; exact hk2
      have hkc : (kd == 3) = false := by rw [beq_eq_false_iff_ne]; exact hk3
      have E := Lib.hid (And.intro e1 (And.intro e2 (And.intro e3 e4)))
      clear e1 e2 e3 e4
      go_wp2
      go_meet
      obtain ⟨e1, e2, e3, e4⟩ := E.out
      exact ⟨by rw [e1], by rw [e2], by rw [e3], by rw [e4], S12.out, P12.out⟩
  case rest =>
    obtain ⟨rfl, rfl, rfl, rfl, hsc, hpc⟩ := hcut
    have SC := Lib.hid hsc
    have PC := Lib.hid hpc
    clear hsc hpc d0 d1 d2 d3 d4 KW1 KW2 KL1 KL2 m1 m2 k1 k2 hq1 hq2 hq3 hq4 hi0b hi1b
    obtain ⟨hcAx, hcBx⟩ := And.intro (Nat.mod_lt A hMp) (Nat.mod_lt B hMp)
    have HBLK : Hid (4 = kd → min c0 c1 = ((min (x % cols ls) (y % cols ls) : Nat) : Int) ∧ max c0 c1 = ((max (x % cols ls) (y % cols ls) : Nat) : Int)) := fun _ => by
      rw [HCX.out, HCY.out]; omega
    have hcb : 0 ≤ c0 ∧ c0 < 1000 ∧ 0 ≤ c1 ∧ c1 < 1000 := by have := HCX.out; have := HCY.out; omega
    go_wp2
    go_loopw [12, 13] (fun u v W => ∃ r : Nat, top ≤ r ∧ r ≤ bot + 1 ∧ v = .int .i64 (r : Int) ∧ snEl.Own (fun b => b5 < b) W u (spTo ls first kd A B (x % cols ls) (y % cols ls) (r - top)) ∧ Sees w W ∧ ChAt W b5 kd l0 c0 l1 c1) (fun _ v _ => bot + 1 - (intOf v).toNat)
    case atStart => exact ⟨top, Nat.le_refl _, by omega, rfl, by rw [Nat.sub_self]; exact El.Own.nil _ _, SC.out, PC.out⟩
    case round =>
      obtain ⟨r, htr, hrb, rfl, hO, hS, hC⟩ := hrel
      have HO := Lib.hid hO
      have HS := Lib.hid hS
      have HC := Lib.hid hC
      clear hO hS hC
      obtain ⟨au, cu, hu, _⟩ := HO.out.slice
      rw [spTo_len] at hu
      subst hu
      obtain ⟨q, hq⟩ : ∃ q, q = r - top := ⟨_, rfl⟩
      rw [← hq] at HO ⊢
      have HQ := Lib.hid hq
      clear hq
      by_cases hle : r ≤ bot
      · have hrn : r < n := by have := HN.out; omega
        have hrI : (r : Int) ≤ (bot : Int) := by omega
        obtain ⟨T, hT⟩ : ∃ T : Int, T = first + (r : Int) := ⟨_, rfl⟩
        have hTw : IntKind.i64.wrap (first + (r : Int)) = T := by rw [IntWalk.i64_in _ (by omega)]; omega
        have HT := Lib.hid hT
        obtain ⟨ra1, ra2, ra3, ra4⟩ := raw_arith (A := A) (B := B) (r := r) hMp (by rw [← HTOP.out]; exact htr) (by rw [← HBOT.out]; exact hle)
        obtain ⟨rM, hrM⟩ : ∃ rM, rM = r * M := ⟨_, rfl⟩
        have hrMb : rM ≤ 1000 * 1000 := by rw [hrM]; exact Nat.mul_le_mul (by omega) hMb
        have w1 : IntKind.i64.wrap ((r : Int) * (M : Int)) = (rM : Int) := by rw [hrM, ← Int.natCast_mul]; exact IntWalk.i64_in _ (by omega)
        rw [← hrM] at ra1 ra2 ra3 ra4
        obtain ⟨mx, hmx⟩ : ∃ mx, mx = max A rM := ⟨_, rfl⟩
        obtain ⟨rM1, hrM1⟩ : ∃ rM1, rM1 = rM + M - 1 := ⟨_, rfl⟩
        obtain ⟨rM2, hrM2⟩ : ∃ rM2, rM2 = rM + M := ⟨_, rfl⟩
        obtain ⟨mn, hmn⟩ : ∃ mn, mn = min B rM1 := ⟨_, rfl⟩
        rw [← hmx] at ra1 ra3
        rw [← hrM1, ← hmn] at ra2 ra4
        have w2 : max (A : Int) (rM : Int) = (mx : Int) := by omega
        obtain ⟨F1, hF1⟩ : ∃ F1, F1 = mx - rM := ⟨_, rfl⟩
        obtain ⟨T0, hT0⟩ : ∃ T0, T0 = mn - rM := ⟨_, rfl⟩
        rw [← hF1] at ra1
        rw [← hT0] at ra2
        have w3 : IntKind.i64.wrap ((mx : Int) - (rM : Int)) = (F1 : Int) := by rw [IntWalk.i64_in _ (by omega)]; omega
        have w4 : IntKind.i64.wrap ((rM : Int) + (M : Int)) = (rM2 : Int) := by rw [IntWalk.i64_in _ (by omega)]; omega
        have w5 : IntKind.i64.wrap ((rM2 : Int) - 1) = (rM1 : Int) := by rw [IntWalk.i64_in _ (by omega)]; omega
        have w6 : min (B : Int) (rM1 : Int) = (mn : Int) := by omega
        have w7 : IntKind.i64.wrap ((mn : Int) - (rM : Int)) = (T0 : Int) := by rw [IntWalk.i64_in _ (by omega)]; omega
        obtain ⟨T1, hT1⟩ : ∃ T1, T1 = T0 + 1 := ⟨_, rfl⟩
        rw [← hT1] at ra2
        have w8 : IntKind.i64.wrap ((T0 : Int) + 1) = (T1 : Int) := by rw [IntWalk.i64_in _ (by omega)]; omega
        obtain ⟨RF, hRF⟩ : ∃ RF, RF = rawF ls kd A r (x % cols ls) (y % cols ls) := ⟨_, rfl⟩
        obtain ⟨RT, hRT⟩ : ∃ RT, RT = rawT ls kd B r (x % cols ls) (y % cols ls) := ⟨_, rfl⟩
        have hrw := raw_lt (ls := ls) (kd := kd) (a := A) (b := B) (i := r) hM hcx hcy
        rw [← hRF, ← hRT] at hrw
        have HNB : Hid (kd ≠ 4 → F1 = RF ∧ T1 = RT) := fun hk => by
          rw [hRF, hRT, ra1, ra2]
          unfold rawF rawT
          rw [if_neg hk, if_neg hk, ← HMM.out]
          exact ⟨rfl, rfl⟩
        have HBK : Hid (kd = 4 → min c0 c1 = (RF : Int) ∧ max c0 c1 + 1 = (RT : Int)) := fun hk => by
          obtain ⟨q1, q2⟩ := HBLK.out hk.symm
          rw [q1, q2, hRF, hRT]
          unfold rawF rawT
          rw [if_pos hk, if_pos hk]
          exact ⟨rfl, rfl⟩
        have HRF := Lib.hid hRF
        have HRT := Lib.hid hRT
        clear hT ra1 ra2 ra3 ra4 hrM hmx hrM1 hrM2 hmn hF1 hT0 hT1 hRF hRT
        go_upto_region 19 with fail
        refine wp_world fun W4 hW4 => ?_
        have hx4 : SnAt W4 wr.heap.size ⟨T, (F1 : Int), (T1 : Int)⟩ := by subst hW4; exact heap_alloc_new wr _
        have s4 : Sees wr W4 := by subst hW4; exact (Sees.refl _).alloc _
        obtain ⟨b14, hb14⟩ : ∃ b14, b14 = wr.heap.size := ⟨_, rfl⟩
        have hb : b5 < b14 := by have := HC.out.lt; omega
        have HL : Hid (SpM w b5 b14 kd l0 c0 l1 c1 (.slice au q cu) (spTo ls first kd A B (x % cols ls) (y % cols ls) q) ⟨T, (F1 : Int), (T1 : Int)⟩ W4) := ⟨HS.out.trans s4, HC.out.sees s4, by rw [hb14]; exact hx4, by rw [hb14]; exact HO.out.cut.sees s4⟩
        have HBX := Lib.hid (show w.heap.size ≤ b5 ∧ b5 < b14 from ⟨by have := HB5.out; omega, hb⟩)
        rw [← hb14]
        clear hW4 hx4 s4 hb14 hb HO HS HC w1 w2 w3 w4 w5 w6 w7 w8 hrMb
        obtain ⟨d0, d1, d2, d3, d4⟩ := HL.out.ch.c
        go_upto_if 121 with fail
        go_cut [] from 120 to 138 (fun wx => SpM w b5 b14 kd l0 c0 l1 c1 (.slice au q cu) (spTo ls first kd A B (x % cols ls) (y % cols ls) q) ⟨T, (RF : Int), (RT : Int)⟩ wx)
        case first =>
          rcases Bool.eq_false_or_eq_true (kd == 4) with g | g
          · have hk : kd = 4 := by rw [beq_iff_eq] at g; exact g
            obtain ⟨m1, m2⟩ := HBK.out hk
            have m3 : (if c0 ≤ c1 then c0 else c1) = (RF : Int) := by rw [← m1]; split <;> omega
            have m4 : (if c0 < c1 then c0 else c1) = (RF : Int) := by rw [← m1]; split <;> omega
            have m5 : (if c1 < c0 then c1 else c0) = (RF : Int) := by rw [← m1]; split <;> omega
            obtain ⟨mx, hmx⟩ : ∃ mx, mx = max c0 c1 := ⟨_, rfl⟩
            have m6 : (if c0 ≤ c1 then c1 else c0) = mx := by rw [hmx]; split <;> omega
            have m7 : (if c0 < c1 then c1 else c0) = mx := by rw [hmx]; split <;> omega
            have m8 : (if c1 < c0 then c0 else c1) = mx := by rw [hmx]; split <;> omega
            have m9 : IntKind.i64.wrap (mx + 1) = (RT : Int) := by rw [hmx, IntWalk.i64_in _ (by omega)]; exact m2
            have m10 : max c0 c1 = mx := hmx.symm
            clear hmx hk
            go_upto_region 20 with fail
            refine wpH_go (fun b => b = b14) 19 (by kernel_rfl) (by kernel_rfl) (by rfl) (fun hB w9 hs9 => ?_)
            have HL9 := Lib.hid (HL.out.sees hs9)
            have hn5 : ¬ (b5 = b14) := by have := HBX.out; omega
            clear hs9 d0 d1 d2 d3 d4
            have hS0 : Keeps (fun b => b = b14) w9 w9 := Keeps.refl _ w9
            refine wpH_take (i := 0) (v := .pointer (some ⟨b5, 1, none⟩)) hB (by rfl) (by kernel_rfl) (fun _ _ _ _ _ h => h) (by rfl) hS0 (fun W hI => by clear hI; go_simp) ?_; (try simp only [Act.put, List.setIfInBounds_toArray, List.set_cons_zero, List.set_cons_succ])
            refine wpH_take (i := 1) (v := .pointer (some ⟨b5, 2, none⟩)) hB (by rfl) (by kernel_rfl) (fun _ _ _ _ _ h => h) (by rfl) hS0 (fun W hI => by clear hI; go_simp) ?_; (try simp only [Act.put, List.setIfInBounds_toArray, List.set_cons_zero, List.set_cons_succ])
            refine wpH_take (i := 2) (v := .int .i64 c0) hB (by rfl) (by kernel_rfl) (fun _ _ _ _ _ h => h) (by rfl) hS0 (fun W hI => by obtain ⟨q0, q1, q2, q3, q4⟩ := (HL9.out.ch.keeps hI hn5).c; go_simp) ?_; (try simp only [Act.put, List.setIfInBounds_toArray, List.set_cons_zero, List.set_cons_succ])
            refine wpH_take (i := 3) (v := .pointer (some ⟨b5, 3, none⟩)) hB (by rfl) (by kernel_rfl) (fun _ _ _ _ _ h => h) (by rfl) hS0 (fun W hI => by clear hI; go_simp) ?_; (try simp only [Act.put, List.setIfInBounds_toArray, List.set_cons_zero, List.set_cons_succ])
            refine wpH_take (i := 4) (v := .pointer (some ⟨b5, 4, none⟩)) hB (by rfl) (by kernel_rfl) (fun _ _ _ _ _ h => h) (by rfl) hS0 (fun W hI => by clear hI; go_simp) ?_; (try simp only [Act.put, List.setIfInBounds_toArray, List.set_cons_zero, List.set_cons_succ])
            refine wpH_take (i := 5) (v := .int .i64 c1) hB (by rfl) (by kernel_rfl) (fun _ _ _ _ _ h => h) (by rfl) hS0 (fun W hI => by obtain ⟨q0, q1, q2, q3, q4⟩ := (HL9.out.ch.keeps hI hn5).c; go_simp) ?_; (try simp only [Act.put, List.setIfInBounds_toArray, List.set_cons_zero, List.set_cons_succ])
            refine wpH_take (i := 6) (v := .int .i64 (RF : Int)) hB (by rfl) (by kernel_rfl) (fun _ _ _ _ _ h => h) (by rfl) hS0 (fun W hI => by clear hI; go_simp) ?_; (try simp only [Act.put, List.setIfInBounds_toArray, List.set_cons_zero, List.set_cons_succ])
            refine wpH_take (i := 7) (v := .pointer (some ⟨b5, 1, none⟩)) hB (by rfl) (by kernel_rfl) (fun _ _ _ _ _ h => h) (by rfl) hS0 (fun W hI => by clear hI; go_simp) ?_; (try simp only [Act.put, List.setIfInBounds_toArray, List.set_cons_zero, List.set_cons_succ])
            refine wpH_take (i := 8) (v := .pointer (some ⟨b5, 2, none⟩)) hB (by rfl) (by kernel_rfl) (fun _ _ _ _ _ h => h) (by rfl) hS0 (fun W hI => by clear hI; go_simp) ?_; (try simp only [Act.put, List.setIfInBounds_toArray, List.set_cons_zero, List.set_cons_succ])
            refine wpH_take (i := 9) (v := .int .i64 c0) hB (by rfl) (by kernel_rfl) (fun _ _ _ _ _ h => h) (by rfl) hS0 (fun W hI => by obtain ⟨q0, q1, q2, q3, q4⟩ := (HL9.out.ch.keeps hI hn5).c; go_simp) ?_; (try simp only [Act.put, List.setIfInBounds_toArray, List.set_cons_zero, List.set_cons_succ])
            refine wpH_take (i := 10) (v := .pointer (some ⟨b5, 3, none⟩)) hB (by rfl) (by kernel_rfl) (fun _ _ _ _ _ h => h) (by rfl) hS0 (fun W hI => by clear hI; go_simp) ?_; (try simp only [Act.put, List.setIfInBounds_toArray, List.set_cons_zero, List.set_cons_succ])
            refine wpH_take (i := 11) (v := .pointer (some ⟨b5, 4, none⟩)) hB (by rfl) (by kernel_rfl) (fun _ _ _ _ _ h => h) (by rfl) hS0 (fun W hI => by clear hI; go_simp) ?_; (try simp only [Act.put, List.setIfInBounds_toArray, List.set_cons_zero, List.set_cons_succ])
            refine wpH_take (i := 12) (v := .int .i64 c1) hB (by rfl) (by kernel_rfl) (fun _ _ _ _ _ h => h) (by rfl) hS0 (fun W hI => by obtain ⟨q0, q1, q2, q3, q4⟩ := (HL9.out.ch.keeps hI hn5).c; go_simp) ?_; (try simp only [Act.put, List.setIfInBounds_toArray, List.set_cons_zero, List.set_cons_succ])
            refine wpH_take (i := 13) (v := .int .i64 mx) hB (by rfl) (by kernel_rfl) (fun _ _ _ _ _ h => h) (by rfl) hS0 (fun W hI => by clear hI; go_simp) ?_; (try simp only [Act.put, List.setIfInBounds_toArray, List.set_cons_zero, List.set_cons_succ])
            refine wpH_take (i := 14) (v := .int .i64 (RT : Int)) hB (by rfl) (by kernel_rfl) (fun _ _ _ _ _ h => h) (by rfl) hS0 (fun W hI => by clear hI; go_simp) ?_; (try simp only [Act.put, List.setIfInBounds_toArray, List.set_cons_zero, List.set_cons_succ])
            refine wpH_take (i := 15) (v := .pointer (some ⟨b14, 1, none⟩)) hB (by rfl) (by kernel_rfl) (fun _ _ _ _ _ h => h) (by rfl) hS0 (fun W hI => by clear hI; go_simp) ?_; (try simp only [Act.put, List.setIfInBounds_toArray, List.set_cons_zero, List.set_cons_succ])
            have hfr9 := HL9.out.x.fr
            obtain ⟨x0, x1, x2⟩ := HL9.out.x.c
            refine wpH_one (i := 16) (by kernel_rfl) (wpOp_skip (w' := w9.setCell ⟨b14, 1, none⟩ (.int .i64 (RF : Int))) (by rfl) (wanted_none (by rfl) _) (by go_simp) ⟨hS0.trans (cell_keeps1 _ _ _ _), ?_⟩)
            (try simp only [Act.put, List.setIfInBounds_toArray, List.set_cons_zero, List.set_cons_succ])
            have HL10 := Lib.hid (HL9.out.set1 HBX.out (RF : Int))
            have hS1 := hS0.trans (cell_keeps1 w9 b14 1 (.int .i64 (RF : Int)))
            obtain ⟨w10, hw10⟩ : ∃ w10, w10 = w9.setCell ⟨b14, 1, none⟩ (.int .i64 (RF : Int)) := ⟨_, rfl⟩
            rw [← hw10] at HL10 hS1 ⊢
            clear hw10 hS0 x0 x1 x2 hfr9
            have hS0 := hS1
            clear hS1
            refine wpH_take (i := 17) (v := .pointer (some ⟨b14, 2, none⟩)) hB (by rfl) (by kernel_rfl) (fun _ _ _ _ _ h => h) (by rfl) hS0 (fun W hI => by clear hI; go_simp) ?_; (try simp only [Act.put, List.setIfInBounds_toArray, List.set_cons_zero, List.set_cons_succ])
            have hfr9 := HL10.out.x.fr
            obtain ⟨x0, x1, x2⟩ := HL10.out.x.c
            refine wpH_one (i := 18) (by kernel_rfl) (wpOp_skip (w' := w10.setCell ⟨b14, 2, none⟩ (.int .i64 (RT : Int))) (by rfl) (wanted_none (by rfl) _) (by go_simp) ⟨hS0.trans (cell_keeps1 _ _ _ _), ?_⟩)
            (try simp only [Act.put, List.setIfInBounds_toArray, List.set_cons_zero, List.set_cons_succ])
            have HL11 := Lib.hid (HL10.out.set2 HBX.out (RT : Int))
            refine wpH_end (by kernel_rfl) ?_
            clear hS0 hB x0 x1 x2 hfr9
            go_wp2
            go_meet
            exact HL11.out
          · have hk : kd ≠ 4 := by rw [beq_eq_false_iff_ne] at g; exact g
            obtain ⟨k1, k2⟩ := HNB.out hk
            go_wp2
            go_meet
            have q := HL.out
            rw [k1, k2] at q
            exact q
        have HL4 := Lib.hid hcut
        clear hcut HL d0 d1 d2 d3 d4 HNB HBK
        obtain ⟨b1', o1', xr, ar, mr, he, _, hxr, _, yr0, yr1, ycr⟩ := H.out.rd.line hrn
        cases he
        obtain ⟨hxl, hxo, _⟩ := HALL.out xr (List.mem_iff_getElem?.2 ⟨_, hxr⟩)
        rw [hxl] at yr0 ycr
        rw [← HMM.out] at yr0 ycr
        have hRFM : RF < M := by rw [HMM.out]; exact hrw.1
        have hRTM : RT - 1 < M := by have := hrw.2.1; have := hrw.2.2; have := HMM.out; omega
        obtain ⟨b5', o5', d1, har, _, hd1, hat1⟩ := ycr.cell hRFM
        obtain ⟨b5'', o5'', d2, har2, _, hd2, hat2⟩ := ycr.cell hRTM
        subst har
        cases har2
        have hwI : ∀ j, widI ls r j = widAt xr.cells j := fun j => by unfold widI; rw [hxr]
        have hw1 : widI ls r RF = d1.width := by rw [hwI]; unfold widAt; rw [hd1]
        have hw2 : widI ls r (RT - 1) = d2.width := by rw [hwI]; unfold widAt; rw [hd2]
        have hwk := (wid_ok HALL.out (i := r) (j := RF) (by have := HN.out; omega) hrw.1).1
        rw [hw1] at hwk
        have HW1 := Lib.hid hw1
        have HW2 := Lib.hid hw2
        have HAT1 := Lib.hid hat1
        have HAT2 := Lib.hid hat2
        have HYR := Lib.hid yr0
        have hwk1 := Lib.hid (fun e => (hwk e).1)
        have hRTp := hrw.2.1
        have hRTc := hrw.2.2
        clear hxr hxl hxo yr0 yr1 ycr hd1 hd2 hat1 hat2 hwI hw1 hw2 hwk hrw
        have hrn1 : (r : Int) < (n : Int) := by omega
        have hr01 : (0 : Int) ≤ (r : Int) := by omega
        have hRF1 : (RF : Int) < (M : Int) := by omega
        go_upto_region 21 with fail
        obtain ⟨W7, hW7⟩ : ∃ W7, W7 = wc := ⟨_, rfl⟩
        rw [← hW7] at HL4 ⊢
        clear hW7
        obtain ⟨x0, x1, x2⟩ := HL4.out.x.c
        have g0 := (HAT1.out.sees HL4.out.i).all.2.2.2.2.1
        have g1 := HL4.out.i.cell HYR.out
        have p0 := fun d os => (sees_grow W7 d os).cell x1
        have p1 := fun d os => (sees_grow W7 d os).cell g0
        have p2 := fun d os => (sees_grow W7 d os).cell g1
        clear x0 x1 x2 g0 g1
        refine wp_region_quiet_below (by kernel_rfl) (by kernel_rfl) ?_
        repeat (first | go_big_quiet_skip | (go_big_quiet_want; go_big_quiet_op; go_big_quiet_on))
        refine wpQuiet_nil ?_
        intro W8 hw8'
        have hw8 := regrown_sees hw8'
        clear hw8' p0 p1 p2
        have HL8 := Lib.hid (HL4.out.sees hw8)
        clear hw8 HL4
        go_upto_if 149 with fail
        go_cut [] from 148 to 153 (fun wx => SpM w b5 b14 kd l0 c0 l1 c1 (.slice au q cu) (spTo ls first kd A B (x % cols ls) (y % cols ls) q) ⟨T, (if d1.width = 0 then RF - 1 else RF : Nat), (RT : Int)⟩ wx)
        case first =>
          by_cases hw : d1.width = 0
          · have hwb : (d1.width == 0) = true := by rw [hw]; rfl
            have hwp := hwk1.out hw
            have hsub : IntKind.i64.wrap ((RF : Int) - 1) = ((RF - 1 : Nat) : Int) := by rw [IntWalk.i64_in _ (by omega)]; omega
            have e4 : ∀ i, W8.frozen? ⟨b14, i, none⟩ = false := HL8.out.x.fr
            obtain ⟨x0, x1, x2⟩ := HL8.out.x.c
            go_wp2
            go_meet
            rw [if_pos hw]
            exact HL8.out.set1 HBX.out ((RF - 1 : Nat) : Int)
          · have hwb : (d1.width == 0) = false := by rw [beq_eq_false_iff_ne]; exact hw
            go_wp2
            go_meet
            rw [if_neg hw]
            exact HL8.out
        have HL5 := Lib.hid hcut
        clear hcut HL8
        obtain ⟨SF, hSF⟩ : ∃ SF : Nat, SF = if d1.width = 0 then RF - 1 else RF := ⟨_, rfl⟩
        rw [← hSF] at HL5
        have HSF : Hid (SF = spF ls kd A r (x % cols ls) (y % cols ls)) := by unfold RowKit.Hid spF fixF; rw [← HRF.out, HW1.out]; exact hSF
        have hSFb : SF ≤ 1000 := by rw [hSF]; split <;> omega
        clear hSF
        go_upto_region 23 with fail
        obtain ⟨W9, hW9⟩ : ∃ W9, W9 = wc := ⟨_, rfl⟩
        rw [← hW9] at HL5 ⊢
        clear hW9
        obtain ⟨x0, x1, x2⟩ := HL5.out.x.c
        have g0 := (HAT2.out.sees HL5.out.i).all.2.2.2.2.1
        have g1 := HL5.out.i.cell HYR.out
        obtain ⟨R1, hR1⟩ : ∃ R1, R1 = RT - 1 := ⟨_, rfl⟩
        rw [← hR1] at g0 hRTM
        have hsub : IntKind.i64.wrap ((RT : Int) - 1) = (R1 : Int) := by rw [IntWalk.i64_in _ (by omega)]; omega
        have hR1M : (R1 : Int) < (M : Int) := by omega
        have HR1 := Lib.hid hR1
        clear hR1
        have p0 := fun d os => (sees_grow W9 d os).cell x2
        have p1 := fun d os => (sees_grow W9 d os).cell g0
        have p2 := fun d os => (sees_grow W9 d os).cell g1
        clear x0 x1 x2 g0 g1
        refine wp_region_quiet_below (by kernel_rfl) (by kernel_rfl) ?_
        repeat (first | go_big_quiet_skip | (go_big_quiet_want; go_big_quiet_op; go_big_quiet_on))
        refine wpQuiet_nil ?_
        intro W8 hw8'
        have hw8 := regrown_sees hw8'
        clear hw8' p0 p1 p2
        have HL8 := Lib.hid (HL5.out.sees hw8)
        clear hw8 HL5
        go_upto_if 165 with fail
        go_cut [] from 164 to 169 (fun wx => SpM w b5 b14 kd l0 c0 l1 c1 (.slice au q cu) (spTo ls first kd A B (x % cols ls) (y % cols ls) q) ⟨T, (SF : Int), (if d2.width = 2 then RT + 1 else RT : Nat)⟩ wx)
        case first =>
          by_cases hw : d2.width = 2
          · have hwb : (d2.width == 2) = true := by rw [hw]; rfl
            have hadd : IntKind.i64.wrap ((RT : Int) + 1) = ((RT + 1 : Nat) : Int) := by rw [IntWalk.i64_in _ (by omega)]; omega
            have e4 : ∀ i, W8.frozen? ⟨b14, i, none⟩ = false := HL8.out.x.fr
            obtain ⟨x0, x1, x2⟩ := HL8.out.x.c
            go_wp2
            go_meet
            rw [if_pos hw]
            exact HL8.out.set2 HBX.out ((RT + 1 : Nat) : Int)
          · have hwb : (d2.width == 2) = false := by rw [beq_eq_false_iff_ne]; exact hw
            go_wp2
            go_meet
            rw [if_neg hw]
            exact HL8.out
        have HL6 := Lib.hid hcut
        clear hcut HL8
        obtain ⟨ST, hST⟩ : ∃ ST : Nat, ST = if d2.width = 2 then RT + 1 else RT := ⟨_, rfl⟩
        rw [← hST] at HL6
        have HST : Hid (ST = spT ls kd B r (x % cols ls) (y % cols ls)) := by unfold RowKit.Hid spT fixU; rw [← HRT.out, HW2.out]; exact hST
        clear hST
        have HXS : Hid (spTo ls first kd A B (x % cols ls) (y % cols ls) (q + 1) = spTo ls first kd A B (x % cols ls) (y % cols ls) q ++ [⟨T, (SF : Int), (ST : Int)⟩]) := by
          unfold RowKit.Hid
          have e : A / cols ls + q = r := by have := HQ.out; rw [← HMM.out, ← HTOP.out]; omega
          rw [spTo_step, HT.out, HSF.out, HST.out, e]
        have HXL : Hid ((spTo ls first kd A B (x % cols ls) (y % cols ls) q).length + [(⟨T, (SF : Int), (ST : Int)⟩ : Sn)].length ≤ 100000000) := by
          unfold RowKit.Hid
          rw [spTo_len, List.length_singleton]
          have := HQ.out
          omega
        go_upto_region 25 with fail
        obtain ⟨Wa, hWa⟩ : ∃ Wa, Wa = wc := ⟨_, rfl⟩
        rw [← hWa] at HL6 ⊢
        clear hWa
        obtain ⟨x0, x1, x2⟩ := HL6.out.x.c
        have sA : Sees Wa (Wa.alloc (.cells #[.int .i64 T, .int .i64 (SF : Int), .int .i64 (ST : Int)] 42)) := (Sees.refl Wa).alloc _
        have hrow := heap_alloc_new Wa (.cells #[.int .i64 T, .int .i64 (SF : Int), .int .i64 (ST : Int)] 42)
        have HLA := Lib.hid (HL6.out.sees sA)
        have HRW := Lib.hid hrow
        have HFX := Lib.hid (show ∀ b, (b5 < b ∧ b < b14) → b < (Wa.alloc (.cells #[.int .i64 T, .int .i64 (SF : Int), .int .i64 (ST : Int)] 42)).heap.size from fun b hb => by have := HLA.out.x.lt; omega)
        clear sA hrow
        go_upto_region 17 with (at_builtin; refine El.wpList_append_own (v := .slice au q cu) typedSn rfl (.tmp 170) (.tmp 172) rfl (by go_simp) HLA.out.o ⟨Wa.heap.size, 0, none⟩ 1 1 (by go_simp) [.int .i64 T, .int .i64 (SF : Int), .int .i64 (ST : Int)] [⟨T, (SF : Int), (ST : Int)⟩] (fun _ => False) (El.ownIn_one (E := snEl) rfl) rfl (fun j u hu => El.row_cells HRW.out j u hu) HFX.out (fun b hb => hb.elim) HXL.out ?_; intro v7 w7 ho7 hk7; have HO7 := Lib.hid ho7; have HK7 := Lib.hid hk7; clear ho7 hk7)
        have hS7 : Sees w w7 := ((Keeps.of_sees (F := fun _ => False) HLA.out.i).trans' HK7.out (fun c hc e => by have := (HLA.out.o.base e).1; have := HBX.out.1; omega)).sees_end (fun _ _ h => h)
        have hC7 : ChAt w7 b5 kd l0 c0 l1 c1 := HLA.out.ch.keeps HK7.out (fun e => by have := (HLA.out.o.base e).1; omega)
        have hO7 : snEl.Own (fun b => b5 < b) w7 v7 (spTo ls first kd A B (x % cols ls) (y % cols ls) (r + 1 - top)) := by
          rw [show r + 1 - top = q + 1 by have := HQ.out; omega, HXS.out]
          refine HO7.out.mono fun b _ hb => ?_
          rcases hb with hb | hb | hb
          · exact hb.1
          · exact hb.elim
          · have := HLA.out.x.lt; have := HBX.out.2; omega
        have HS7 := Lib.hid hS7
        have HC7 := Lib.hid hC7
        have HO8 := Lib.hid hO7
        clear hS7 hC7 hO7 x0 x1 x2
        go_wp2
        have hfin : ∃ r' : Nat, top ≤ r' ∧ r' ≤ bot + 1 ∧ Value.int .i64 ((r : Int) + 1) = .int .i64 (r' : Int) ∧ snEl.Own (fun b => b5 < b) w7 v7 (spTo ls first kd A B (x % cols ls) (y % cols ls) (r' - top)) ∧ Sees w w7 ∧ ChAt w7 b5 kd l0 c0 l1 c1 := ⟨r + 1, by omega, by omega, by go_num, HO8.out, HS7.out, HC7.out⟩
        go_roundw
        case rel => first | exact hfin | ((repeat apply Exists.intro); exact ⟨hfin, rfl⟩)
        case measure => simp [intOf]; omega
      · have hre : q = bot + 1 - top := by have := HQ.out; omega
        have hrI : (bot : Int) < (r : Int) := by omega
        have HRE := Lib.hid hre
        clear hre
        go_wp2
        go_ret
        refine ⟨_, rfl, ?_, HS.out⟩
        rw [HF.out, ← HRE.out]
        exact HO.out.mono fun b _ hb => by have := HB5.out; omega
end Go.Proofs.YtooiiefipdjbjaaDoor

namespace Go.Proofs.YtooiiefipdjbjaaDoor
set_option linter.unusedVariables false
set_option linter.unusedSimpArgs false
open Go.RowKit Go.Shelf
attribute [local go_sem] Oper.semAt_some

section
variable {F G : Nat → Prop} {w : World} {a : Option Addr} {n cp : Nat} {ls : List Ln} {first : Int}
theorem rows_cells (h : rowsOk ls first = true) : ∀ l ∈ ls, l.cells.length ≤ 1000000 := fun l hl => by
  have := ((rowsOk_ok h).1 l hl).2.1
  unfold lnOk at this
  rw [Bool.and_eq_true, decide_eq_true_eq] at this
  omega
theorem cWord_ok (ht : Tabs w) (h : ShF F w (.slice a n cp) ls first) {i : Nat} (hi : i < ls.length * cols ls) {l c la ca lb cb : Int} (e0 : plI ls first i = (l, c)) (e1 : plI ls first (wA ls i) = (la, ca)) (e2 : plI ls first (wB ls i) = (lb, cb)) :
    Calls Tryd.prog 43 #[.slice a n cp, .int .i64 first, plV (l, c)] w fun e w' => e = .returned (.tuple #[plV (la, ca), plV (lb, cb), .int .i64 0]) ∧ Sees w w' := by
  obtain ⟨hall, h0, h1⟩ := rowsOk_ok h.ok
  have hl := plI_in h0 h1 h.len hi
  have hin := in_pl (first := first) hi
  rw [e0] at hl hin
  refine word_ok w a n cp first l c la ca lb cb (fun W hs => (of_any F _ ls W (ht.sees hs) (h.rd.sees hs) (by have := h.len; omega) (rows_cells h.ok) first).mono ?_) (fun W hs => (sh_in F _ ls W (h.rd.sees hs) (fun x hx => (hall x hx).1) (by have := h.len; omega) first l c h0 h1 hl.1 hl.2).mono ?_) (fun W hs => ?_) (fun W hs => ?_)
  · rintro e w' ⟨h2 | h2, hs2⟩
    · exact ⟨h2.2, hs2⟩
    · have := ofE_ok h.ok h.len; omega
  · rintro e w' ⟨rfl, hs2⟩
    exact ⟨by rw [hin], hs2⟩
  · have q := end_mp (h.sees hs) (i := i) hi
    rw [e0, e1] at q
    exact q
  · have q := end_mn (h.sees hs) (i := i) hi
    rw [e0, e2] at q
    exact q
theorem tWords (ht : Tabs w) (h : ShF F w (.slice a n cp) ls first) {i : Nat} (hi : i < ls.length * cols ls) {l c la ca lb cb : Int} (e0 : plI ls first i = (l, c)) (e1 : plI ls first (wA ls i) = (la, ca)) (e2 : plI ls first (wB ls i) = (lb, cb)) :
    Calls Tryd.prog 19 #[.slice a n cp, .int .i64 first, plV (l, c), plV (la, ca), plV (lb, cb), .int .i64 0] w fun e w' => e = .returned (.bool true) ∧ Sees w w' :=
  words_true _ first l c la ca lb cb 0 w fun W hs => cWord_ok (ht.sees hs) (h.sees hs) hi e0 e1 e2
theorem tLogicals (ht : Tabs w) (h : ShF F w (.slice a n cp) ls first) {i : Nat} (hi : i < ls.length * cols ls) {l c t b : Int} (e0 : plI ls first i = (l, c)) (e1 : first + (topI ls (i / cols ls) : Nat) = t) (e2 : first + (botI ls (i / cols ls) : Nat) = b) :
    Calls Tryd.prog 20 #[.slice a n cp, .int .i64 first, plV (l, c), .int .i64 t, .int .i64 b, .int .i64 0] w fun e w' => e = .returned (.bool true) ∧ Sees w w' := by
  refine logicals_true _ first l c t b 0 w fun W hs => ?_
  obtain ⟨hM, _, hr, hc, _⟩ := h.row hi
  have q := logical_ok F (.slice a n cp) ls W (ht.sees hs) (h.rd.sees hs) (by have := h.len; omega) (rows_cells h.ok) first (ofE_ok h.ok h.len) (i / cols ls) hr c l (by have := congrArg Prod.fst e0; exact this.symm) (by have := congrArg Prod.snd e0; simp only [plI] at this; omega) (by have := congrArg Prod.snd e0; simp only [plI] at this; omega)
  rw [e1, e2] at q
  exact q
theorem tSpans (ht : Tabs w) (h : ShF F w (.slice a n cp) ls first) {kd : Int} (hk1 : 1 ≤ kd) (hk4 : kd ≤ 4) {x y : Nat} (hx : x < ls.length * cols ls) (hy : y < ls.length * cols ls) {l0 c0 l1 c1 : Int} (e0 : plI ls first x = (l0, c0)) (e1 : plI ls first y = (l1, c1)) {u : Value} (hu : snEl.Rd G w u (spansL ls first kd x y)) :
    Calls Tryd.prog 13 #[.slice a n cp, .int .i64 first, chV kd l0 c0 l1 c1, u, .int .i64 0] w fun e w' => e = .returned (.bool true) ∧ Sees w w' := by
  have hl : (spansL ls first kd x y).length ≤ 1000000 := by
    have q := (ch_rows (kd := kd) hx hy).2.2.2.2.2
    have q2 := h.len
    rw [spansL_len]
    generalize chA ls kd (min x y) / cols ls = q3
    omega
  refine spans41_true _ u first 0 _ G w kd l0 c0 l1 c1 hu hl fun W hs => ?_
  have q := cSpans_ok F a n cp ls W (ht.sees hs) first (h.sees hs) kd hk1 hk4 x y hx hy
  rw [e0, e1] at q
  refine q.mono ?_
  rintro e w' ⟨v, rfl, ho, hs2⟩
  exact ⟨v, rfl, ho.rd.mono fun _ _ _ => trivial, hs2⟩
theorem tSpansErr (ht : Tabs w) (ha : lnEl.Rd F w (.slice a n cp) ls) (hn : ls.length ≤ 1000000) (hnc : ∀ l ∈ ls, l.cells.length ≤ 1000000) {kd l0 c0 l1 c1 : Int} (hl : (-9223372036854775808 ≤ l0 ∧ l0 ≤ 9223372036854775807) ∧ (-9223372036854775808 ≤ l1 ∧ l1 ≤ 9223372036854775807)) {E : Int} (hE : chE ls first kd l0 c0 l1 c1 = E) (hE0 : E ≠ 0) :
    Calls Tryd.prog 13 #[.slice a n cp, .int .i64 first, chV kd l0 c0 l1 c1, .slice none 0 0, .int .i64 E] w fun e w' => e = .returned (.bool true) ∧ Sees w w' := by
  refine spans41_true _ _ first E [] (fun _ => True) w kd l0 c0 l1 c1 (El.Rd.empty _ _ _ _) (by decide) fun W hs => ?_
  refine (cSpans_err F a n cp ls W (ht.sees hs) (ha.sees hs) hn hnc first kd l0 c0 l1 c1 hl E hE hE0).mono ?_
  rintro e w' ⟨rfl, hs2⟩
  exact ⟨_, rfl, El.Rd.empty _ _ _ _, hs2⟩
theorem tTexts (ht : Tabs w) (h : ShF F w (.slice a n cp) ls first) {kd : Int} (hk1 : 1 ≤ kd) (hk4 : kd ≤ 4) {x y : Nat} (hx : x < ls.length * cols ls) (hy : y < ls.length * cols ls) {l0 c0 l1 c1 : Int} (e0 : plI ls first x = (l0, c0)) (e1 : plI ls first y = (l1, c1)) {s : ByteArray} (es : strL (textL ls kd x y) = s) :
    Calls Tryd.prog 14 #[.slice a n cp, .int .i64 first, chV kd l0 c0 l1 c1, .string s, .int .i64 0] w fun e w' => e = .returned (.bool true) ∧ Sees w w' := by
  refine texts41_true _ s first 0 w kd l0 c0 l1 c1 fun W hs => ?_
  have q := cText_ok F a n cp ls W (ht.sees hs) first (h.sees hs) kd hk1 hk4 x y hx hy
  rw [e0, e1, es] at q
  exact q
theorem tTextsErr (ht : Tabs w) (ha : lnEl.Rd F w (.slice a n cp) ls) (hn : ls.length ≤ 1000000) (hnc : ∀ l ∈ ls, l.cells.length ≤ 1000000) {kd l0 c0 l1 c1 : Int} (hl : (-9223372036854775808 ≤ l0 ∧ l0 ≤ 9223372036854775807) ∧ (-9223372036854775808 ≤ l1 ∧ l1 ≤ 9223372036854775807)) {E : Int} (hE : chE ls first kd l0 c0 l1 c1 = E) (hE0 : E ≠ 0) :
    Calls Tryd.prog 14 #[.slice a n cp, .int .i64 first, chV kd l0 c0 l1 c1, .string ⟨#[]⟩, .int .i64 E] w fun e w' => e = .returned (.bool true) ∧ Sees w w' :=
  texts41_true _ _ first E w kd l0 c0 l1 c1 fun W hs => cText_err F a n cp ls W (ht.sees hs) (ha.sees hs) hn hnc first kd l0 c0 l1 c1 hl E hE hE0
theorem tWordsOut (ht : Tabs w) (h : ShF F w (.slice a n cp) ls first) {l c : Int} (hl : -9223372036854775808 ≤ l ∧ l ≤ 9223372036854775807) (hi : inP ls first l c = false) :
    Calls Tryd.prog 19 #[.slice a n cp, .int .i64 first, plV (l, c), plV (0, 0), plV (0, 0), .int .i64 3] w fun e w' => e = .returned (.bool true) ∧ Sees w w' := by
  obtain ⟨hall, h0, h1⟩ := rowsOk_ok h.ok
  refine words_true _ first l c 0 0 0 0 3 w fun W hs => word_out W a n cp first l c (fun V hv => (of_any F _ ls V (ht.sees (hs.trans hv)) (h.rd.sees (hs.trans hv)) (by have := h.len; omega) (rows_cells h.ok) first).mono ?_) (fun V hv => (sh_in F _ ls V (h.rd.sees (hs.trans hv)) (fun x hx => (hall x hx).1) (by have := h.len; omega) first l c h0 h1 hl.1 hl.2).mono ?_)
  · rintro e w' ⟨h2 | h2, hs2⟩
    · exact ⟨h2.2, hs2⟩
    · have := ofE_ok h.ok h.len; omega
  · rintro e w' ⟨rfl, hs2⟩
    exact ⟨by rw [hi], hs2⟩
theorem tLogicalsOut (ht : Tabs w) (h : ShF F w (.slice a n cp) ls first) {l c : Int} (hl : -9223372036854775808 ≤ l ∧ l ≤ 9223372036854775807) (hi : inP ls first l c = false) :
    Calls Tryd.prog 20 #[.slice a n cp, .int .i64 first, plV (l, c), .int .i64 0, .int .i64 0, .int .i64 3] w fun e w' => e = .returned (.bool true) ∧ Sees w w' := by
  obtain ⟨hall, h0, h1⟩ := rowsOk_ok h.ok
  refine logicals_true _ first l c 0 0 3 w fun W hs => logical_out W a n cp first l c (fun V hv => (of_any F _ ls V (ht.sees (hs.trans hv)) (h.rd.sees (hs.trans hv)) (by have := h.len; omega) (rows_cells h.ok) first).mono ?_) (fun V hv => (sh_in F _ ls V (h.rd.sees (hs.trans hv)) (fun x hx => (hall x hx).1) (by have := h.len; omega) first l c h0 h1 hl.1 hl.2).mono ?_)
  · rintro e w' ⟨h2 | h2, hs2⟩
    · exact ⟨h2.2, hs2⟩
    · have := ofE_ok h.ok h.len; omega
  · rintro e w' ⟨rfl, hs2⟩
    exact ⟨by rw [hi], hs2⟩
theorem tWordsErr (ht : Tabs w) (ha : lnEl.Rd F w (.slice a n cp) ls) (hn : ls.length ≤ 1000000) (hnc : ∀ l ∈ ls, l.cells.length ≤ 1000000) (l c : Int) (hE : ofE ls first = 2) :
    Calls Tryd.prog 19 #[.slice a n cp, .int .i64 first, plV (l, c), plV (0, 0), plV (0, 0), .int .i64 2] w fun e w' => e = .returned (.bool true) ∧ Sees w w' := by
  refine words_true _ first l c 0 0 0 0 2 w fun W hs => word_err W a n cp first l c (fun V hv => (of_any F _ ls V (ht.sees (hs.trans hv)) (ha.sees (hs.trans hv)) hn hnc first).mono ?_)
  rintro e w' ⟨h2 | h2, hs2⟩
  · omega
  · exact ⟨h2.2, hs2⟩
theorem tLogicalsErr (ht : Tabs w) (ha : lnEl.Rd F w (.slice a n cp) ls) (hn : ls.length ≤ 1000000) (hnc : ∀ l ∈ ls, l.cells.length ≤ 1000000) (l c : Int) (hE : ofE ls first = 2) :
    Calls Tryd.prog 20 #[.slice a n cp, .int .i64 first, plV (l, c), .int .i64 0, .int .i64 0, .int .i64 2] w fun e w' => e = .returned (.bool true) ∧ Sees w w' := by
  refine logicals_true _ first l c 0 0 2 w fun W hs => logical_err W a n cp first l c (fun V hv => (of_any F _ ls V (ht.sees (hs.trans hv)) (ha.sees (hs.trans hv)) hn hnc first).mono ?_)
  rintro e w' ⟨h2 | h2, hs2⟩
  · omega
  · exact ⟨h2.2, hs2⟩
end
/-- The chapter's rows. -/
def knD : List Cell := [⟨28450, 0, 0, 0, 2, 0, 0, 0, 0, 0, 0, 0, 0, 0, 0, 0⟩, ⟨0, 0, 0, 0, 0, 0, 0, 0, 0, 0, 0, 0, 0, 0, 0, 0⟩, ⟨32, 0, 0, 0, 1, 0, 0, 0, 0, 0, 0, 0, 0, 0, 0, 0⟩, ⟨120, 0, 0, 0, 1, 0, 0, 0, 0, 0, 0, 0, 0, 0, 0, 0⟩, ⟨0, 0, 0, 0, 1, 0, 0, 0, 0, 0, 0, 0, 0, 0, 0, 0⟩, ⟨0, 0, 0, 0, 1, 0, 0, 0, 0, 0, 0, 0, 0, 0, 0, 0⟩]
def kn41 : List Ln := [⟨chL ⟨#[97, 98, 32, 99, 100, 45]⟩, true⟩, ⟨chL ⟨#[101, 102, 32, 32, 103, 104]⟩, false⟩, ⟨knD, false⟩]
theorem k41_ok : rowsOk kn41 10 = true := by kernel_rfl
theorem k41_of : ofE kn41 10 = 0 := by kernel_rfl
theorem k41_s1 : spansL kn41 10 1 3 7 = [⟨10, 3, 6⟩, ⟨11, 0, 2⟩] := by kernel_rfl
theorem k41_t1 : strL (textL kn41 1 3 7) = ⟨#[99, 100, 45, 101, 102]⟩ := by kernel_rfl
theorem k41_w1 : wA kn41 4 = 3 ∧ wB kn41 4 = 4 ∧ wA kn41 5 = 5 ∧ wB kn41 5 = 5 ∧ wA kn41 6 = 6 ∧ wB kn41 6 = 7 := ⟨by kernel_rfl, by kernel_rfl, by kernel_rfl, by kernel_rfl, by kernel_rfl, by kernel_rfl⟩
theorem k41_t2 : strL (textL kn41 2 10 0) = ⟨#[97, 98, 32, 99, 100, 45, 101, 102, 32, 32, 103, 104]⟩ := by kernel_rfl
theorem k41_t3 : strL (textL kn41 3 6 12) = ⟨#[97, 98, 32, 99, 100, 45, 101, 102, 32, 32, 103, 104, 10, 230, 188, 162, 32, 120]⟩ := by kernel_rfl
theorem k41_t4 : strL (textL kn41 4 1 16) = ⟨#[98, 32, 99, 100, 10, 102, 32, 32, 103, 10, 230, 188, 162, 32, 120]⟩ := by kernel_rfl
theorem k41_s2 : spansL kn41 10 1 13 13 = [⟨12, 0, 2⟩] := by kernel_rfl
theorem k41_h : (inP kn41 10 12 0 && snHas (spansL kn41 10 1 13 13) 12 0) = true := by kernel_rfl
theorem k41_e3 : chE kn41 10 1 13 0 10 0 = 3 := by kernel_rfl
theorem k41_e2 : chE kn41 10 5 10 0 10 0 = 2 := by kernel_rfl
end Go.Proofs.YtooiiefipdjbjaaDoor
