/- scrollbacklaw40.TextFits (40): its walk. The tables hold what the program's text lays. -/
import Derived.Test.YtfpopoeeokdbiaaDoorTtQ
import Derived.Laws.Cover4
import Derived.Stop.FmtQuoteTie
namespace Go.Proofs.YtfpopoeeokdbiaaDoor
set_option linter.unusedVariables false
set_option linter.unusedSimpArgs false
open Go.RowKit
attribute [local go_sem] Oper.semAt_some

theorem enc_rune (r : Nat) : Utf8.encode (r : Int) = strL (Lib.encodeRune (r : Int)) := by
  refine bytes_ext ?_
  rw [strL_list, Lib.encodeRune, ← Go.Extern.FmtText.encode_eq]
  simp only [Go.Extern.FmtText.nums, List.map_map]
  symm
  exact (List.map_congr_left (fun b _ => by simp)).trans (List.map_id _)
theorem conv_rune (r : Int) (W : World) : (convert 36 9 (.slice (some ⟨W.heap.size, 0, none⟩) 1 1)).run Tryd.prog (W.alloc (.cells #[.int .i32 r] 21)) = .ok (.string (Utf8.encode r)) (W.alloc (.cells #[.int .i32 r] 21)) := by
  have q := run_convert_runes (P := Tryd.prog) (W.alloc (.cells #[.int .i32 r] 21)) 36 9 21 ⟨W.heap.size, 0, none⟩ 1 1 [r] (by simp) Tryd.underlying36 Tryd.underlying21 Tryd.underlying9 (fun j hj => by
    obtain rfl : j = 0 := by simp at hj; omega
    rw [addr_add, cell_of_row _ _ _ _ _ _ (heap_alloc_new W _)]
    rfl)
  rw [q]
  have e : runesBytes ([r].take 1) = Utf8.encode r := by simp [runesBytes]
  rw [e]
set_option maxHeartbeats 8000000 in
set_option maxRecDepth 100000 in
theorem textFits_any (s : ByteArray) (n : Int) (hn0 : -9223372036854775808 ≤ n) (hn1 : n ≤ 9223372036854775807) (w : World) (ht : Tabs w) :
    Calls Tryd.prog 4 #[.string s, .int .i64 n] w fun e w' => e = .returned (.bool true) ∧ Sees w w' := by
  have HT := Lib.hid ht
  have KN := Lib.hid (fun W (hs : Sees w W) => known_any W (ht.sees hs))
  have KW := Lib.hid (fun r W (hW : Sees w W) => widthOf_any r W (ht.sees hW))
  clear ht
  go_enter Tryd.func4, Tryd.ntmps4
  rcases Bool.eq_false_or_eq_true (decide ((s.size : Int) > 100)) with g0 | g0
  · have g1 : (100 : Int) < (s.size : Int) := of_decide_eq_true g0
    have g2 : 100 < s.size := by omega
    go_wp2_with fail
    refine (KN.out _ (Sees.refl _)).mono ?_
    rintro e W2 ⟨rfl, s2⟩
    go_wp2
    go_ret
    exact ⟨rfl, s2⟩
  have g1 : ¬ ((100 : Int) < (s.size : Int)) := of_decide_eq_false g0
  have g2 : ¬ (100 < s.size) := by omega
  have HS100 : s.size ≤ 100 := by omega
  obtain ⟨T, hT⟩ : ∃ T, T = widL (runesS s) := ⟨_, rfl⟩
  obtain ⟨R, hR⟩ : ∃ R, R = fitL (runesS s) n := ⟨_, rfl⟩
  have HTT : Hid (T = widL (runesF s s.size 0)) := hT
  have HRR : Hid (R = fitL (runesF s s.size 0) n) := hR
  have KD : Hid (∀ W, Sees w W → Calls Tryd.prog 15 #[.string s] W fun e w' => e = .returned (.int .i64 T) ∧ Sees W w') := fun W hs => by rw [hT]; exact twidth_any s (by omega) W (HT.out.sees hs)
  have KF0 : Hid (∀ W, Sees w W → (n < 0 ∨ 1000 < n) → Calls Tryd.prog 16 #[.string s, .int .i64 n, .string ⟨#[]⟩, .int .i64 2] W fun e w' => e = .returned (.bool true) ∧ Sees W w') := fun W hs h => fits_true s n _ 2 W (fit_err s n W h)
  have KF1 : Hid (∀ W, Sees w W → 0 ≤ n → n ≤ 1000 → Calls Tryd.prog 16 #[.string s, .int .i64 n, .string (strL (R.1 ++ List.replicate R.2.toNat 32)), .int .i64 0] W fun e w' => e = .returned (.bool true) ∧ Sees W w') := fun W hs h0 h1 => by
    rw [hR]
    exact fits_true s n _ 0 W (fit_ok s (by omega) n W (HT.out.sees hs) h0 h1)
  have HRL : Hid (0 ≤ n → 0 ≤ R.2 ∧ R.2 ≤ n) := fun h => by rw [hR]; exact fitL_left _ _ h
  clear hT hR
  go_wp2_with fail
  clear g0 g1 g2
  go_loopw [5, 6, 7, 8] (fun su le ou fu wr => ∃ (pos fuel : Nat) (sum left : Int) (acc : List UInt8) (full : Bool), wr.heap[w.heap.size]? = some (.stringIter s pos) ∧ su = .int .i64 sum ∧ le = .int .i64 left ∧ ou = .string (strL acc) ∧ fu = .bool full ∧ Hid (T = sum + widL (runesF s fuel pos)) ∧ Hid (R = if full then (acc, left) else (acc ++ (fitL (runesF s fuel pos) left).1, (fitL (runesF s fuel pos) left).2)) ∧ s.size ≤ pos + fuel ∧ 0 ≤ sum ∧ sum ≤ 2 * pos ∧ acc.length ≤ 4 * pos ∧ pos ≤ s.size ∧ Hid (left ≤ n) ∧ Hid (n ≤ left ∨ 0 ≤ left) ∧ Sees w wr) (fun _ _ _ _ wr => s.size - wr.iterPos w.heap.size)
  case atStart => exact ⟨0, s.size, 0, n, [], false, World.iter_heap w s 0, rfl, rfl, rfl, rfl, (by unfold RowKit.Hid; rw [Int.zero_add]; exact HTT.out), (by unfold RowKit.Hid; rw [HRR.out]; rfl), by omega, by omega, by omega, by simp, by omega, Int.le_refl _, .inl (Int.le_refl _), (Sees.refl w).alloc _⟩
  case round =>
    obtain ⟨pos, fuel, sum, left, acc, full, hit, rfl, rfl, rfl, rfl, hsm, hacc, hfu, hs0, hs1, hal, hp1, hln, hlz, hS⟩ := hrel
    have hsz : w.heap.size < wr.heap.size := (Array.getElem?_eq_some_iff.1 hit).1
    by_cases hp : pos < s.size
    · have hnx : ∀ ty, (Instr.next (.pointer (some ⟨w.heap.size, 0, none⟩)) true ty).run Tryd.prog wr = _ := fun ty => Lib.run_next_any_at wr w.heap.size s pos ty hit hp
      have hit2 := Lib.iterAt_heap wr w.heap.size s pos (pos + (Utf8.decode s pos).2) hit
      have hS2 : Sees w (wr.iterAt w.heap.size s (pos + (Utf8.decode s pos).2)) := Lib.below_iterAt hS (k := w.heap.size) (Nat.le_refl _) s (pos + (Utf8.decode s pos).2)
      obtain ⟨f, rfl⟩ : ∃ f, fuel = f + 1 := ⟨fuel - 1, by omega⟩
      have hdw := dec_width s pos hp
      obtain ⟨x, hx⟩ : ∃ x, x = wOf ((Utf8.decode s pos).1 : Int) := ⟨_, rfl⟩
      have hxr := wOf_range ((Utf8.decode s pos).1 : Int)
      rw [← hx] at hxr
      have KX : Hid (∀ W, Sees w W → Calls Tryd.prog 14 #[.int .i32 ((Utf8.decode s pos).1 : Int)] W fun e w' => e = .returned (.int .i64 x) ∧ Sees W w') := fun W hW => by rw [hx]; exact KW.out _ W hW
      have hrun : runesF s (f + 1) pos = ((Utf8.decode s pos).1 : Int) :: runesF s f (pos + (Utf8.decode s pos).2) := by rw [runesF, if_pos hp]
      have hw4 := (enc_len4 ((Utf8.decode s pos).1 : Int)).2
      have HIT2 := Lib.hid hit2
      have HS2 := Lib.hid hS2
      have HPP := Lib.hid (iterPos_of hit)
      have HDW := Lib.hid hdw
      have HW4 := Lib.hid hw4
      have HX := Lib.hid hx
      have HXR := Lib.hid hxr
      have HRUN := Lib.hid hrun
      clear hx hit hit2 hS hS2 hdw hxr hrun hw4
      go_wp2_with fail
      refine (KX.out _ HS2.out).mono ?_
      rintro e W2 ⟨rfl, sw⟩
      have hk2 : W2.heap[w.heap.size]? = some (.stringIter s (pos + (Utf8.decode s pos).2)) := by
        rw [sw.block _ (Array.getElem?_eq_some_iff.1 HIT2.out).1]
        exact HIT2.out
      have HK2 := Lib.hid hk2
      have HS3 := Lib.hid (HS2.out.trans sw)
      have hmeas : s.size - (pos + (Utf8.decode s pos).2) < s.size - pos := by have := HDW.out; omega
      have HM := Lib.hid hmeas
      clear hk2 sw hnx hmeas
      have hwl : x < 0 → widL (runesF s (f + 1) pos) = widL (runesF s f (pos + (Utf8.decode s pos).2)) := fun h => by rw [HRUN.out, widL_cons, ← HX.out]; omega
      have hwl2 : 0 ≤ x → widL (runesF s (f + 1) pos) = x + widL (runesF s f (pos + (Utf8.decode s pos).2)) := fun h => by rw [HRUN.out, widL_cons, ← HX.out]; omega
      have HWL := Lib.hid hwl
      have HWL2 := Lib.hid hwl2
      clear hwl hwl2
      rcases Bool.eq_false_or_eq_true (decide (x < 0)) with c1 | c1
      · have hx0 : x < 0 := of_decide_eq_true c1
        have hsm2 : Hid (T = sum + widL (runesF s f (pos + (Utf8.decode s pos).2))) := by unfold RowKit.Hid; rw [hsm.out, HWL.out hx0]
        have hac2 : Hid (R = if full then (acc, left) else (acc ++ (fitL (runesF s f (pos + (Utf8.decode s pos).2)) left).1, (fitL (runesF s f (pos + (Utf8.decode s pos).2)) left).2)) := by
          unfold RowKit.Hid
          rw [hacc.out, HRUN.out, fitL, ← HX.out, if_pos hx0]
        go_wp2_with fail
        refine ⟨⟨pos + (Utf8.decode s pos).2, f, sum, left, acc, full, HK2.out, rfl, rfl, rfl, rfl, hsm2, hac2, by have := HDW.out; omega, hs0, by have := HDW.out; omega, by have := HDW.out; omega, by have := HDW.out; omega, hln, hlz, HS3.out⟩, ?_⟩
        have e1 := iterPos_of HK2.out
        have e2 := HPP.out
        have := HM.out
        rw [e1, e2]
        omega
      have hx0 : ¬ (x < 0) := of_decide_eq_false c1
      have hsm2 : Hid (T = (sum + x) + widL (runesF s f (pos + (Utf8.decode s pos).2))) := by unfold RowKit.Hid; rw [hsm.out, HWL2.out (by omega)]; omega
      have hx2 : x ≤ 2 := by have := HXR.out; omega
      have hadd : IntKind.i64.wrap (sum + x) = sum + x := IntWalk.i64_in _ (by omega)
      have HSX : Hid (0 ≤ sum + x ∧ sum + x ≤ 2 * ((pos + (Utf8.decode s pos).2 : Nat) : Int)) := by unfold RowKit.Hid; have := HDW.out; omega
      cases full
      case true =>
        have hac2 : Hid (R = (acc, left)) := by unfold RowKit.Hid; rw [hacc.out]; rfl
        clear hacc hsm
        go_wp2_with fail
        refine ⟨⟨pos + (Utf8.decode s pos).2, f, sum + x, left, acc, true, HK2.out, rfl, rfl, rfl, rfl, hsm2, (by unfold RowKit.Hid; rw [hac2.out]; rfl), by have := HDW.out; omega, HSX.out.1, HSX.out.2, by have := HDW.out; omega, by have := HDW.out; omega, hln, hlz, HS3.out⟩, ?_⟩
        have e1 := iterPos_of HK2.out
        have e2 := HPP.out
        have := HM.out
        rw [e1, e2]
        omega
      have hac1 : Hid (R = (acc ++ (fitL (runesF s (f + 1) pos) left).1, (fitL (runesF s (f + 1) pos) left).2)) := by unfold RowKit.Hid; rw [hacc.out]; rfl
      clear hacc hsm
      rcases Bool.eq_false_or_eq_true (decide (x > left)) with c2 | c2
      · have c3 : left < x := of_decide_eq_true c2
        have hac2 : Hid (R = (acc, left)) := by
          unfold RowKit.Hid
          rw [hac1.out, HRUN.out, fitL, ← HX.out, if_neg hx0, if_pos (of_decide_eq_true c2), List.append_nil]
        go_wp2_with fail
        refine ⟨⟨pos + (Utf8.decode s pos).2, f, sum + x, left, acc, true, HK2.out, rfl, rfl, rfl, rfl, hsm2, (by unfold RowKit.Hid; rw [hac2.out]; rfl), by have := HDW.out; omega, HSX.out.1, HSX.out.2, by have := HDW.out; omega, by have := HDW.out; omega, hln, hlz, HS3.out⟩, ?_⟩
        have e1 := iterPos_of HK2.out
        have e2 := HPP.out
        have := HM.out
        rw [e1, e2]
        omega
      · have c3 : ¬ (left < x) := of_decide_eq_false c2
        have hac2 : Hid (R = ((acc ++ Lib.encodeRune ((Utf8.decode s pos).1 : Int)) ++ (fitL (runesF s f (pos + (Utf8.decode s pos).2)) (left - x)).1, (fitL (runesF s f (pos + (Utf8.decode s pos).2)) (left - x)).2)) := by
          unfold RowKit.Hid
          rw [hac1.out, HRUN.out, fitL, ← HX.out, if_neg hx0, if_neg (of_decide_eq_false c2), List.append_assoc]
        have hln2 : left ≤ n := hln.out
        have hsub : IntKind.i64.wrap (left - x) = left - x := IntWalk.i64_in _ (by omega)
        have hcv := conv_rune ((Utf8.decode s pos).1 : Int) W2
        obtain ⟨X, hXe⟩ : ∃ X, X = strL acc := ⟨_, rfl⟩
        obtain ⟨Y, hYe⟩ : ∃ Y, Y = Utf8.encode ((Utf8.decode s pos).1 : Int) := ⟨_, rfl⟩
        rw [← hYe] at hcv
        rw [← hXe]
        have HY := Lib.hid (hYe.trans (enc_rune _))
        have hxs : X.size ≤ 1000 := by rw [hXe, strL_size]; omega
        have hys : Y.size ≤ 4 := by rw [HY.out, strL_size]; exact HW4.out
        have HXY : Hid (X ++ Y = strL (acc ++ Lib.encodeRune ((Utf8.decode s pos).1 : Int))) := by unfold RowKit.Hid; rw [hXe, HY.out, strL_app]
        have HLZ : Hid (0 ≤ left - x ∧ left - x ≤ n) := by unfold RowKit.Hid; omega
        clear hXe hYe hac1
        go_wp2_with fail
        refine ⟨⟨pos + (Utf8.decode s pos).2, f, sum + x, left - x, acc ++ Lib.encodeRune ((Utf8.decode s pos).1 : Int), false, ?_, rfl, rfl, by rw [← HXY.out], rfl, hsm2, (by unfold RowKit.Hid; rw [hac2.out]; rfl), by have := HDW.out; omega, HSX.out.1, HSX.out.2, by rw [List.length_append]; have := HDW.out; have := HW4.out; omega, by have := HDW.out; omega, HLZ.out.2, .inr HLZ.out.1, HS3.out.alloc _⟩, ?_⟩
        · rw [((Sees.refl W2).alloc (.cells #[.int .i32 ((Utf8.decode s pos).1 : Int)] 21)).block _ (Array.getElem?_eq_some_iff.1 HK2.out).1]
          exact HK2.out
        · have hk3 : (W2.alloc (.cells #[.int .i32 ((Utf8.decode s pos).1 : Int)] 21)).heap[w.heap.size]? = some (.stringIter s (pos + (Utf8.decode s pos).2)) := by
            rw [((Sees.refl W2).alloc (.cells #[.int .i32 ((Utf8.decode s pos).1 : Int)] 21)).block _ (Array.getElem?_eq_some_iff.1 HK2.out).1]
            exact HK2.out
          have e1 := iterPos_of hk3
          have e2 := HPP.out
          have := HM.out
          rw [e1, e2]
          omega
    · have hnx : ∀ ty, (Instr.next (.pointer (some ⟨w.heap.size, 0, none⟩)) true ty).run Tryd.prog wr = _ := fun ty => Lib.run_next_end_at wr w.heap.size s pos ty hit hp
      have he : runesF s fuel pos = [] := by cases fuel with
        | zero => rfl
        | succ f => rw [runesF, if_neg hp]
      have hfin : T = sum := by rw [hsm.out, he]; simp [widL]
      obtain rfl : T = sum := hfin
      have HR2 : Hid (R = (acc, left)) := by unfold RowKit.Hid; rw [hacc.out, he]; cases full <;> simp [fitL]
      have HS2 := Lib.hid hS
      clear hsm hacc hS he hit
      go_wp2_with fail
      refine (KD.out _ HS2.out).mono ?_
      rintro e W2 ⟨rfl, s2⟩
      have HS3 := Lib.hid (HS2.out.trans s2)
      clear s2 hnx
      rcases Bool.eq_false_or_eq_true (decide (n < 0)) with d1 | d1
      · have d2 : n < 0 := of_decide_eq_true d1
        go_wp2_with fail
        refine (KF0.out _ HS3.out (.inl d2)).mono ?_
        rintro e W4 ⟨rfl, s4⟩
        have HS4 := Lib.hid (HS3.out.trans s4)
        clear s4
        go_wp2_with fail
        refine (KN.out _ HS4.out).mono ?_
        rintro e W5 ⟨rfl, s5⟩
        have HS5 := Lib.hid (HS4.out.trans s5)
        clear s5
        go_wp2
        go_ret
        exact ⟨rfl, HS5.out⟩
      have d2 : ¬ (n < 0) := of_decide_eq_false d1
      rcases Bool.eq_false_or_eq_true (decide (n > 1000)) with d3 | d3
      · have d4 : 1000 < n := of_decide_eq_true d3
        go_wp2_with fail
        refine (KF0.out _ HS3.out (.inr d4)).mono ?_
        rintro e W4 ⟨rfl, s4⟩
        have HS4 := Lib.hid (HS3.out.trans s4)
        clear s4
        go_wp2_with fail
        refine (KN.out _ HS4.out).mono ?_
        rintro e W5 ⟨rfl, s5⟩
        have HS5 := Lib.hid (HS4.out.trans s5)
        clear s5
        go_wp2
        go_ret
        exact ⟨rfl, HS5.out⟩
      have d4 : ¬ (1000 < n) := of_decide_eq_false d3
      have hrl := HRL.out (by omega)
      rw [HR2.out] at hrl
      have hrl1 : 0 ≤ left := hrl.1
      have hrl2 : left ≤ n := hrl.2
      obtain ⟨L, rfl⟩ : ∃ L : Nat, left = L := ⟨left.toNat, by omega⟩
      have KF2 : Hid (∀ W, Sees w W → Calls Tryd.prog 16 #[.string s, .int .i64 n, .string (strL (acc ++ List.replicate L 32)), .int .i64 0] W fun e w' => e = .returned (.bool true) ∧ Sees W w') := fun W hs => by
        have q := KF1.out W hs (by omega) (by omega)
        rw [HR2.out] at q
        exact q
      have HLN : Hid (L ≤ 1000) := by unfold RowKit.Hid; omega
      clear hrl hrl1 hrl2 HR2 KF1 KF0
      go_wp2_with fail
      clear d1 d2 d3 d4
      go_loopw [6, 7] (fun le ou W => ∃ m : Nat, m ≤ L ∧ le = .int .i64 m ∧ ou = .string (strL (acc ++ List.replicate (L - m) 32)) ∧ Sees w W) (fun le _ _ => (intOf le).toNat)
      case atStart => exact ⟨L, Nat.le_refl _, rfl, by rw [Nat.sub_self]; simp, HS3.out⟩
      case round =>
        obtain ⟨m, hm, rfl, rfl, hS⟩ := hrel
        have HS4 := Lib.hid hS
        clear hS
        by_cases hm0 : 0 < m
        · obtain ⟨X, hXe⟩ : ∃ X, X = strL (acc ++ List.replicate (L - m) 32) := ⟨_, rfl⟩
          have hxs : X.size ≤ 2000 := by rw [hXe, strL_size, List.length_append, List.length_replicate]; have := HLN.out; omega
          have HXY : Hid (X ++ ⟨#[32]⟩ = strL (acc ++ List.replicate (L - (m - 1)) 32)) := by
            unfold RowKit.Hid
            rw [hXe, show (⟨#[32]⟩ : ByteArray) = strL [32] from rfl, strL_app, List.append_assoc, show L - (m - 1) = (L - m) + 1 by omega, List.replicate_succ']
          have hmi : (0 : Int) < (m : Int) := by omega
          have hLm := HLN.out
          have hsub : IntKind.i64.wrap ((m : Int) - 1) = ((m - 1 : Nat) : Int) := by rw [IntWalk.i64_in _ (by omega)]; omega
          have hp1 : (⟨#[32]⟩ : ByteArray).size = 1 := rfl
          rw [← hXe]
          clear hXe hLm
          go_wp2_with fail
          exact ⟨⟨m - 1, by omega, rfl, by rw [← HXY.out], HS4.out⟩, by simp [intOf]; omega⟩
        · obtain rfl : m = 0 := by omega
          have KF3 := Lib.hid KF2.out
          rw [Nat.sub_zero]
          go_wp2_with fail
          refine (KF3.out _ HS4.out).mono ?_
          rintro e W4 ⟨rfl, s4⟩
          have HS5 := Lib.hid (HS4.out.trans s4)
          clear s4
          go_wp2_with fail
          refine (KN.out _ HS5.out).mono ?_
          rintro e W5 ⟨rfl, s5⟩
          have HS6 := Lib.hid (HS5.out.trans s5)
          clear s5
          go_wp2
          go_ret
          exact ⟨rfl, HS6.out⟩
end Go.Proofs.YtfpopoeeokdbiaaDoor
