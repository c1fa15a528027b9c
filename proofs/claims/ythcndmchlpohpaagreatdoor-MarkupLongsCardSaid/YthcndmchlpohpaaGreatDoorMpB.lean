/- strings.Lines: its pieces, and the iterator. No condition. -/
import Derived.Test.YthcndmchlpohpaaGreatDoorMpA
import Derived.Deep.CutBlock
namespace Go.Proofs.YthcndmchlpohpaaGreatDoor
set_option linter.unusedVariables false
set_option linter.unusedSimpArgs false
open Go.RowKit Go.Shelf
attribute [local go_sem] Oper.semAt_some

/-- Where the first byte 10 stands, or how many bytes there are. -/
def eol : List UInt8 → Nat
  | [] => 0
  | c :: t => if c == 10 then 0 else eol t + 1
theorem eol_le : ∀ l : List UInt8, eol l ≤ l.length
  | [] => Nat.le_refl _
  | c :: t => by unfold eol; have := eol_le t; split <;> simp <;> omega
theorem ixb_eol : ∀ l : List UInt8, Lib.indexByte l 10 = if eol l < l.length then (eol l : Int) else -1
  | [] => rfl
  | c :: t => by
    unfold Lib.indexByte eol
    rw [ixb_eol t]
    by_cases hc : (c == 10) = true
    · rw [if_pos hc, if_pos hc]; simp
    · rw [if_neg hc, if_neg hc]
      by_cases h : eol t < t.length
      · rw [if_pos h, if_neg (by rw [beq_iff_eq]; omega), if_pos (by rw [List.length_cons]; omega)]; omega
      · rw [if_neg h, if_neg (show ¬ eol t + 1 < (c :: t).length by rw [List.length_cons]; omega)]; rfl
/-- The pieces of a text that end behind a byte 10, and what is left. -/
def pcs (l : List UInt8) : List (List UInt8) := if h : l = [] then [] else l.take (eol l + 1) :: pcs (l.drop (eol l + 1))
termination_by l.length
decreasing_by
  have := List.length_pos_iff.2 h
  simp only [List.length_drop]
  omega
theorem pcs_nil : pcs [] = [] := by rw [pcs]; rfl
theorem pcs_cons {l : List UInt8} (h : l ≠ []) : pcs l = l.take (eol l + 1) :: pcs (l.drop (eol l + 1)) := by rw [pcs, dif_neg h]
theorem pcs_at {l : List UInt8} (h : l ≠ []) {ps : List (List UInt8)} {d : Nat} (hd : pcs l = ps.drop d) : ps[d]? = some (l.take (eol l + 1)) ∧ pcs (l.drop (eol l + 1)) = ps.drop (d + 1) := by
  rw [pcs_cons h] at hd
  constructor
  · have := congrArg List.head? hd
    rw [List.head?_drop] at this
    exact this.symm
  · have := congrArg List.tail hd
    rw [List.tail_drop] at this
    exact this
theorem pcs_end {ps : List (List UInt8)} {d : Nat} (h : d ≤ ps.length) (hd : pcs [] = ps.drop d) : d = ps.length := by
  rw [pcs_nil] at hd
  have := congrArg List.length hd
  rw [List.length_drop, List.length_nil] at this
  omega
/-- How many bytes the box's string has. -/
def szAt (W : World) (B : Nat) : Nat := match W.cell? ⟨B, 0, none⟩ with
  | some (.string s) => s.size
  | _ => 0
set_option maxHeartbeats 8000000 in
set_option maxRecDepth 100000 in
theorem lines_seq (l : List UInt8) (hl : l.length ≤ 1000000000) (B : Nat) : SeqB Tryz.prog 39 #[.pointer (some ⟨B, 0, none⟩)] (fun x => .string (strL x)) (pcs l) B (fun W => Bx W B 9 (.string (strL l))) := by
  intro lp J JS W O0 hJO hJs hJSs hY h0 hB0
  obtain ⟨ps, hps⟩ : ∃ ps, ps = pcs l := ⟨_, rfl⟩
  rw [← hps] at hY ⊢
  have HPS := Lib.hid hps
  have HJO := Lib.hid hJO
  have HJs := Lib.hid hJs
  have HJSs := Lib.hid hJSs
  have HY := Lib.hid hY
  have H0 := Lib.hid h0
  have HB0 := Lib.hid hB0
  clear hJO hJs hJSs hY h0 hB0 hps
  refine callsIn_wide.2 ?_
  show Calls Tryz.prog _ #[.func (.yield lp) #[] #[], .pointer (some ⟨B, 0, none⟩)] W _
  go_enter Tryz.func39, Tryz.ntmps39
  go_wp2
  go_loopw [] (fun wr => ∃ (d : Nat) (O : Nat → Prop) (r : List UInt8), d ≤ ps.length ∧ (r.length ≤ 1000000000 ∧ Hid (pcs r = ps.drop d)) ∧ Bx wr B 9 (.string (strL r)) ∧ J d O wr) (fun wr => szAt wr B)
  case atStart => exact ⟨0, O0, l, Nat.zero_le _, ⟨hl, by unfold RowKit.Hid; rw [HPS.out]; rfl⟩, HB0.out, H0.out⟩
  case round =>
    obtain ⟨d, O, r, hd, hE, hB, hj⟩ := hrel
    have hrl := hE.1
    have HE := Lib.hid hE
    have HJ := Lib.hid hj
    have HB := Lib.hid hB
    have HD := Lib.hid hd
    have hc := hB.c
    have hfz := hB.fr
    have hsz : (strL r).size = r.length := strL_size r
    clear hE hj hd
    by_cases hr : r = []
    · subst hr
      have hdd := Lib.hid (pcs_end HD.out HE.out.2.out)
      have hz : ¬ ((([] : List UInt8).length : Nat) : Int) > 0 := by simp
      go_wp2
      exact bodyPost_end (results_none rfl _ _ _) rfl ⟨rfl, .inl ⟨O, by have := HJ.out; rw [hdd.out] at this; exact this⟩⟩
    · have hpos : 0 < r.length := List.length_pos_iff.2 hr
      obtain ⟨hx, hE'⟩ := pcs_at hr HE.out.2.out
      have HX := Lib.hid hx
      have HE1 : Hid ((r.drop (eol r + 1)).length ≤ 1000000000 ∧ Hid (pcs (r.drop (eol r + 1)) = ps.drop (d + 1))) := Lib.hid ⟨by rw [List.length_drop]; omega, Lib.hid hE'⟩
      have HD1 : Hid (d + 1 ≤ ps.length) := Lib.hid (List.getElem?_eq_some_iff.1 hx).1
      have HLT : Hid ((r.drop (eol r + 1)).length < r.length) := Lib.hid (by rw [List.length_drop]; omega)
      have KI : Hid (∀ W, Calls Tryz.prog 40 #[.string (strL r), .int .u8 10] W fun e w' => e = .returned (.int .i64 (if eol r < r.length then (eol r : Int) else -1)) ∧ w' = W) := fun W => by
        have h := ixb_any (strL r) 10 W
        rw [strL_list, show (10 : Int).toNat.toUInt8 = 10 from rfl, ixb_eol] at h
        exact h
      obtain ⟨k, hk⟩ : ∃ k, k = eol r := ⟨_, rfl⟩
      obtain ⟨n, hn⟩ : ∃ n, n = r.length := ⟨_, rfl⟩
      have hkn : k ≤ n := by rw [hk, hn]; exact eol_le r
      rw [← hk] at HX HE1 HLT
      rw [← hk, ← hn] at KI
      rw [← hn] at hsz hpos hrl
      have HK := Lib.hid hk
      have HN := Lib.hid hn
      have g0 : (n : Int) > 0 := by omega
      clear hk hn hx hE' hr
      by_cases hlt : k < n
      · rw [if_pos hlt] at KI
        have hx1 : (strL r).extract 0 (k + 1) = strL (r.take (k + 1)) := by rw [strL_extract, List.drop_zero]
        have hx2 : (strL r).extract (k + 1) n = strL (r.drop (k + 1)) := by rw [strL_extract, HN.out, List.take_length]
        have g1 : (k : Int) ≥ 0 := by omega
        have g2 : k + 1 ≤ n := hlt
        go_wp2_with fail
        refine (KI.out _).mono ?_
        rintro e w' ⟨rfl, hw'⟩
        obtain rfl : wr = w' := hw'.symm
        go_wp2_with fail
        go_region
        go_upto_region 6 with fail
        refine wp_world fun W8 hW8 => ?_
        have HB8 : Hid (Bx W8 B 9 (.string (strL (r.drop (k + 1))))) := by rw [hW8]; exact Lib.hid ((HB.out.set _).sees (Sees.refl _).drew)
        have HK8 : Hid (Keeps (fun b => b = B) wr W8) := by rw [hW8]; exact Lib.hid (((Keeps.refl (fun b => b = B) wr).setCell (p := ⟨B, 0, none⟩) (fun _ => rfl) _).trans (Keeps.of_sees (Sees.refl _).drew))
        clear hW8
        have HJ8 := Lib.hid (HJs.out _ _ _ _ HJ.out HK8.out)
        obtain ⟨fn, tmps, assign, body, hy, hR⟩ := HY.out d O _ _ HX.out HJ8.out
        have hRR := Lib.hid hR
        refine wpIn_wide (n := 0) |>.1 ?_
        go_simp
        gi_wp2
        refine ⟨rfl, hRR.out.mono ?_⟩
        rintro e W9 (⟨rfl, O2, hJ9, hk9, hg9⟩ | ⟨rfl, hJ9⟩)
        · have HJ9 := Lib.hid hJ9
          have HB9 := Lib.hid (HB8.out.keeps hk9 (fun e => (HJO.out _ _ _ HJ8.out _ e).2 rfl))
          clear hk9 hJ9 hg9 hy hRR hR HJ8
          gi_wp2
          go_wp2
          go_roundw
          case rel => exact ⟨d + 1, O2, _, HD1.out, HE1.out, HB9.out, HJ9.out⟩
          case measure => simp only [szAt, hB.c, HB9.out.c, strL_size]; have := HLT.out; omega
        · have HJ9 := Lib.hid hJ9
          clear hJ9 hy
          gi_wp2
          go_wp2
          exact bodyPost_ret (results_none rfl _ _ _) rfl ⟨rfl, .inr HJ9.out⟩
      · obtain rfl : k = n := by omega
        rw [if_neg hlt] at KI
        have hx1 : r.take (k + 1) = r := List.take_of_length_le (by rw [← HN.out]; omega)
        have hx2 : r.drop (k + 1) = [] := List.drop_of_length_le (by rw [← HN.out]; omega)
        have g1 : ¬ (-1 : Int) ≥ 0 := by omega
        go_wp2_with fail
        refine (KI.out _).mono ?_
        rintro e w' ⟨rfl, hw'⟩
        obtain rfl : wr = w' := hw'.symm
        go_upto_region 6 with fail
        refine wp_world fun W8 hW8 => ?_
        have HB8 : Hid (Bx W8 B 9 (.string (strL (r.drop (k + 1))))) := by rw [hW8, hx2]; exact Lib.hid (HB.out.set _)
        have HK8 : Hid (Keeps (fun b => b = B) wr W8) := by rw [hW8]; exact Lib.hid ((Keeps.refl (fun b => b = B) wr).setCell (p := ⟨B, 0, none⟩) (fun _ => rfl) _)
        rw [hx1] at HX
        clear hW8
        have HJ8 := Lib.hid (HJs.out _ _ _ _ HJ.out HK8.out)
        obtain ⟨fn, tmps, assign, body, hy, hR⟩ := HY.out d O _ _ HX.out HJ8.out
        have hRR := Lib.hid hR
        refine wpIn_wide (n := 0) |>.1 ?_
        go_simp
        gi_wp2
        refine ⟨rfl, hRR.out.mono ?_⟩
        rintro e W9 (⟨rfl, O2, hJ9, hk9, hg9⟩ | ⟨rfl, hJ9⟩)
        · have HJ9 := Lib.hid hJ9
          have HB9 := Lib.hid (HB8.out.keeps hk9 (fun e => (HJO.out _ _ _ HJ8.out _ e).2 rfl))
          clear hk9 hJ9 hg9 hy hRR hR HJ8
          gi_wp2
          go_wp2
          go_roundw
          case rel => exact ⟨d + 1, O2, _, HD1.out, HE1.out, HB9.out, HJ9.out⟩
          case measure => simp only [szAt, hB.c, HB9.out.c, strL_size]; have := HLT.out; omega
        · have HJ9 := Lib.hid hJ9
          clear hJ9 hy
          gi_wp2
          go_wp2
          exact bodyPost_ret (results_none rfl _ _ _) rfl ⟨rfl, .inr HJ9.out⟩
/-- strings.Lines: a function over the string's pieces, that keeps what is left in a box. -/
theorem slines_any (l : List UInt8) (w : World) :
    Calls Tryz.prog 26 #[.string (strL l)] w fun e w' => e = .returned (.func (.func 39) #[] #[.pointer (some ⟨w.heap.size, 0, none⟩)]) ∧ w' = w.alloc (.cells #[.string (strL l)] 9) := by
  go_enter Tryz.func26, Tryz.ntmps26
  go_wp2
  go_ret
  exact ⟨rfl, rfl⟩
end Go.Proofs.YthcndmchlpohpaaGreatDoor
