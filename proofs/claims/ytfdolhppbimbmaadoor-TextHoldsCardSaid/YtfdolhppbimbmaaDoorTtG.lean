/- A rune written to a builder; text.Fit (40). The tables hold what the program's text lays. -/
import Derived.Test.YtfdolhppbimbmaaDoorTtF
namespace Go.Proofs.YtfdolhppbimbmaaDoor
set_option linter.unusedVariables false
set_option linter.unusedSimpArgs false
open Go.RowKit

set_option maxHeartbeats 4000000 in
set_option maxRecDepth 100000 in
theorem write_rune (B b : Nat) (bs : List Value) (r : Int) (hr0 : -2147483648 ≤ r) (hr1 : r ≤ 2147483647) (w : World) (h : Lib.IsBuilderF 165 5 B b bs w) (hlen : bs.length + 4 ≤ 140737488355328) (hBw : B ≤ w.heap.size) :
    Calls Tryd.prog 105 #[.pointer (some ⟨b, 0, none⟩), .int .i32 r] w fun e w' => e = .returned (.tuple #[.int .i64 (Lib.runeCells r).length, .nilIface]) ∧ (Lib.BuilderAtF 165 5 B b (.pointer (some ⟨b, 0, none⟩)) (bs ++ Lib.runeCells r) w' ∧ Below B w w' ∧ Lib.OthersKept 5 (some b) w w') := by
  have hk4 := Lib.runeCells_le r
  go_enter Tryd.func105, Tryd.ntmps105
  go_wp2_with (go_at_call 141; refine (check_k B b bs _ h).mono ?_)
  rintro e w1 ⟨rfl, h1, hb1, hk1⟩
  obtain ⟨hB, v, hbk, hown, hne⟩ := h1
  obtain ⟨ao, cap, rfl⟩ : ∃ ao cap, v = .slice ao bs.length cap := by
    rcases hown.2 with ⟨hv, h0⟩ | ⟨g, cap, cur, fz, hv, _⟩
    · exact ⟨none, 0, by rw [hv, h0]⟩
    · exact ⟨_, _, hv⟩
  have c0 : w1.cell? ⟨b, 0, none⟩ = some (.pointer (some ⟨b, 0, none⟩)) := by rw [Lib.cell_of_heap hbk]; rfl
  have c1 : w1.cell? ⟨b, 1, none⟩ = some (.slice ao bs.length cap) := by rw [Lib.cell_of_heap hbk]; rfl
  go_wp2_with (go_at_call 142; refine (Any.utf8_AppendRune_row Tryd.lays242 (by kernel_rfl) B _ bs.length bs r hr0 hr1 _ hown hlen (by have := hb1.size; omega)).mono ?_)
  rintro e w2 ⟨v', rfl, hown', o, hgrow⟩
  have hlt : b < w1.heap.size := (Array.getElem?_eq_some_iff.1 hbk).1
  have hb2 : w2.heap[b]? = some (.cells #[.pointer (some ⟨b, 0, none⟩), .slice ao bs.length cap] 165 (0, 0)) := by
    rw [hgrow.block b (by simp; omega) (fun e => hne e.symm), Lib.alloc_old w1 _ b hlt]
    exact hbk
  have d0 : w2.cell? ⟨b, 0, none⟩ = some (.pointer (some ⟨b, 0, none⟩)) := by rw [Lib.cell_of_heap hb2]; rfl
  have d1 : w2.cell? ⟨b, 1, none⟩ = some (.slice ao bs.length cap) := by rw [Lib.cell_of_heap hb2]; rfl
  have f1 : w2.frozen? ⟨b, 1, none⟩ = false := Lib.frozen_of_heap hb2 1
  obtain ⟨g, cap', rfl⟩ : ∃ g cap', v' = .slice (some ⟨g, 0, none⟩) (bs.length + (Lib.runeCells r).length) cap' := by
    rcases hown'.2 with ⟨_, h0⟩ | ⟨g, cap', cur, fz, hv, _⟩
    · omega
    · exact ⟨g, cap', hv⟩
  go_wp2
  go_ret2
  refine ⟨?_, ?_, ?_, ((hk1.alloc _).grown hgrow (Lib.ownsRowF_kind (hown.alloc _))).setCell ⟨b, 1, none⟩ rfl _⟩
  · have e : ((bs.length : Int) + ((Lib.runeCells r).length : Int) - (bs.length : Int)) = ((Lib.runeCells r).length : Int) := by omega
    simp [e]
  · exact Lib.BuilderAtF.put (T := 165) (e := 5) hB hb2 (bs' := bs ++ Lib.runeCells r) (by have e : (bs ++ Lib.runeCells r).length = bs.length + (Lib.runeCells r).length := List.length_append; rw [e]; exact hown') (by decide)
  · exact ((hb1.alloc (by have := hb1.size; omega) _).grown hgrow (by have := hb1.size; simp; omega) (fun k hk => (hown.lt k hk).1)).setCell (p := ⟨b, 1, none⟩) hB _
theorem enc_len4 (r : Int) : 1 ≤ (Lib.encodeRune r).length ∧ (Lib.encodeRune r).length ≤ 4 := by
  have h := Lib.encodeRuneZ_length r
  unfold Lib.encodeRune
  rw [List.length_map]
  exact h
theorem BuSt.rune {w W : World} {bs : List UInt8} (h : BuSt w bs W) (r : Int) (hr0 : -2147483648 ≤ r) (hr1 : r ≤ 2147483647) (hl : bs.length ≤ 1000000000) :
    Calls Tryd.prog 105 #[.pointer (some ⟨w.heap.size, 0, none⟩), .int .i32 r] W fun e W' => ∃ x y, e = .returned (.tuple #[x, y]) ∧ BuSt w (bs ++ Lib.encodeRune r) W' ∧ Lib.OthersKept 5 (some w.heap.size) W W' := by
  refine (write_rune w.heap.size w.heap.size _ r hr0 hr1 W h.b (by rw [Lib.byteCells_length]; omega) h.s.size).mono ?_
  rintro e W' ⟨rfl, h1, h2, h3⟩
  exact ⟨_, _, rfl, ⟨by rw [Lib.byteCells_append, Lib.byteCells_encodeRune]; exact .inr h1, h.s.below.trans h2⟩, h3⟩
theorem repeat_sp (n : Nat) (hn : n ≤ 1000000) (w : World) : Calls Tryd.prog 107 #[.string ⟨#[32]⟩, .int .i64 n] w fun e w' => e = .returned (.string (strL (List.replicate n 32))) ∧ Sees w w' := by
  have hs : (⟨#[32]⟩ : ByteArray).size = 1 := rfl
  have e : ∀ n, Lib.repeatL [32] n = List.replicate n (32 : UInt8) := by
    intro n
    induction n with
    | zero => rfl
    | succ n ih => rw [Lib.repeatL, ih, List.replicate_succ]; rfl
  refine (Any.strings_Repeat Tryd.lays105 Tryd.Builder_Extra_105 ⟨#[32]⟩ n w (by omega) (by rw [hs]; omega)).mono ?_
  rintro e' w' ⟨rfl, h⟩
  exact ⟨by rw [show (⟨#[32]⟩ : ByteArray).data.toList = [32] from rfl, e]; rfl, h⟩
/-- What is kept of runes, and how many columns are left. -/
def fitL : List Int → Int → List UInt8 × Int
  | [], l => ([], l)
  | r :: rs, l => if wOf r < 0 then fitL rs l else if wOf r > l then ([], l) else (Lib.encodeRune r ++ (fitL rs (l - wOf r)).1, (fitL rs (l - wOf r)).2)
/-- A string in so many columns. -/
def fitS (s : ByteArray) (n : Int) : List UInt8 := (fitL (runesS s) n).1 ++ List.replicate (fitL (runesS s) n).2.toNat 32
theorem fitL_left : ∀ (rs : List Int) (l : Int), 0 ≤ l → 0 ≤ (fitL rs l).2 ∧ (fitL rs l).2 ≤ l
  | [], l, h => ⟨h, Int.le_refl _⟩
  | r :: rs, l, h => by
    have hr := wOf_range r
    rw [fitL]
    split
    · exact fitL_left rs l h
    · split
      · exact ⟨h, Int.le_refl _⟩
      · have := fitL_left rs (l - wOf r) (by omega)
        exact ⟨this.1, by show (fitL rs (l - wOf r)).2 ≤ l; omega⟩
set_option maxHeartbeats 1000000 in
theorem fit_err (s : ByteArray) (n : Int) (w : World) (hn : n < 0 ∨ 1000 < n) : Calls Tryd.prog 61 #[.string s, .int .i64 n] w fun e w' => e = .returned (.tuple #[.string ⟨#[]⟩, .int .i64 2]) ∧ Sees w w' := by
  have H := Lib.hid hn
  clear hn
  go_enter Tryd.func61, Tryd.ntmps61
  rcases Bool.eq_false_or_eq_true (decide (n < 0)) with g1 | g1
  · go_wp2
    go_ret2
    exact ⟨rfl, Sees.refl _⟩
  rcases Bool.eq_false_or_eq_true (decide (n > 1000)) with g2 | g2
  · go_wp2
    go_ret2
    exact ⟨rfl, Sees.refl _⟩
  · exfalso
    have a1 := of_decide_eq_false g1
    have a2 := of_decide_eq_false g2
    have := H.out
    omega
set_option maxHeartbeats 8000000 in
set_option maxRecDepth 100000 in
theorem fit_ok (s : ByteArray) (hs : s.size ≤ 1000000) (n : Int) (w : World) (ht : Tabs w) (hn0 : 0 ≤ n) (hn1 : n ≤ 1000) :
    Calls Tryd.prog 61 #[.string s, .int .i64 n] w fun e w' => e = .returned (.tuple #[.string (strL (fitS s n)), .int .i64 0]) ∧ Sees w w' := by
  have KW := Lib.hid (fun r W (hW : Sees w W) => widthOf_any r W (ht.sees hW))
  have g1 : decide (n < 0) = false := decide_eq_false (by omega)
  have g2 : decide (n > 1000) = false := decide_eq_false (by omega)
  obtain ⟨R, hR⟩ : ∃ R, R = fitL (runesS s) n := ⟨_, rfl⟩
  have HR : Hid (fitL (runesF s s.size 0) n = R) := hR.symm
  have HRS : Hid (fitS s n = R.1 ++ List.replicate R.2.toNat 32) := by unfold RowKit.Hid fitS; rw [hR]
  have hRl := fitL_left (runesS s) n hn0
  rw [← hR] at hRl
  have B0 := Lib.hid (BuSt.start w)
  clear ht hR
  go_enter Tryd.func61, Tryd.ntmps61
  go_wp2
  clear g1 g2
  go_loopw [7] (fun lv wr => ∃ (pos fuel : Nat) (left : Int) (acc : List UInt8), wr.heap[w.heap.size + 1]? = some (.stringIter s pos) ∧ lv = .int .i64 left ∧ Hid (R = (acc ++ (fitL (runesF s fuel pos) left).1, (fitL (runesF s fuel pos) left).2)) ∧ s.size ≤ pos + fuel ∧ 0 ≤ left ∧ left ≤ 1000 ∧ pos ≤ s.size ∧ acc.length ≤ 4 * pos ∧ BuSt w acc wr) (fun _ wr => s.size - wr.iterPos (w.heap.size + 1))
  case atStart =>
    refine ⟨0, s.size, n, [], ?_, rfl, (by unfold RowKit.Hid; rw [HR.out]; rfl), by omega, hn0, hn1, by omega, by simp, B0.out.sees ((Sees.refl _).alloc _)⟩
    have := World.iter_heap (w.alloc (.cells #[.pointer none, .slice none 0 0] 165)) s 0
    simpa using this
  case round =>
    obtain ⟨pos, fuel, left, acc, hit, rfl, hacc, hfu, hl0, hl1, hp1, hal, hS⟩ := hrel
    have hsz : w.heap.size + 1 < wr.heap.size := (Array.getElem?_eq_some_iff.1 hit).1
    by_cases hp : pos < s.size
    · have hnx : ∀ ty, (Instr.next (.pointer (some ⟨w.heap.size + 1, 0, none⟩)) true ty).run Tryd.prog wr = _ := fun ty => Lib.run_next_any_at wr (w.heap.size + 1) s pos ty hit hp
      have hit2 := Lib.iterAt_heap wr (w.heap.size + 1) s pos (pos + (Utf8.decode s pos).2) hit
      have hS2 : BuSt w acc (wr.iterAt (w.heap.size + 1) s (pos + (Utf8.decode s pos).2)) := ⟨hS.b.iterAt hit _, Lib.below_iterAt hS.s (k := w.heap.size + 1) (by omega) s (pos + (Utf8.decode s pos).2)⟩
      obtain ⟨f, rfl⟩ : ∃ f, fuel = f + 1 := ⟨fuel - 1, by omega⟩
      have hdw := dec_width s pos hp
      obtain ⟨x, hx⟩ : ∃ x, x = wOf ((Utf8.decode s pos).1 : Int) := ⟨_, rfl⟩
      have hxr := wOf_range ((Utf8.decode s pos).1 : Int)
      have hbig : ((Utf8.decode s pos).1 : Int) ≤ 2147483647 := by
        have q := Lib.decodeL_rune (s.data.toList.drop pos)
        rw [Lib.decodeL_drop] at q
        omega
      rw [← hx] at hxr
      have KX : Hid (∀ W, Sees w W → Calls Tryd.prog 99 #[.int .i32 ((Utf8.decode s pos).1 : Int)] W fun e w' => e = .returned (.int .i64 x) ∧ Sees W w') := fun W hW => by rw [hx]; exact KW.out _ W hW
      have hrun : runesF s (f + 1) pos = ((Utf8.decode s pos).1 : Int) :: runesF s f (pos + (Utf8.decode s pos).2) := by rw [runesF, if_pos hp]
      have hw4 := (enc_len4 ((Utf8.decode s pos).1 : Int)).2
      have KR := Lib.hid (fun W (hW : BuSt w acc W) => hW.rune ((Utf8.decode s pos).1 : Int) (by omega) hbig (by omega))
      have HIT := Lib.hid hit
      have HIT2 := Lib.hid hit2
      have HS2 := Lib.hid hS2
      have HPP := Lib.hid (iterPos_of hit)
      have HDW := Lib.hid hdw
      have HW4 := Lib.hid hw4
      have HX := Lib.hid hx
      have HXR := Lib.hid hxr
      have HRUN := Lib.hid hrun
      have HSZ := Lib.hid hsz
      clear hx hit hit2 hS hS2 hdw hxr hrun hw4 hbig hsz
      go_wp2_with fail
      refine (KX.out _ HS2.out.s).mono ?_
      rintro e W2 ⟨rfl, sw⟩
      have hk2 : W2.heap[w.heap.size + 1]? = some (.stringIter s (pos + (Utf8.decode s pos).2)) := by
        rw [sw.block _ (Array.getElem?_eq_some_iff.1 HIT2.out).1]
        exact HIT2.out
      have HK2 := Lib.hid hk2
      have HS3 := Lib.hid (HS2.out.sees sw)
      clear hk2 sw hnx
      rcases Bool.eq_false_or_eq_true (decide (x < 0)) with c1 | c1
      · go_wp2_with fail
        refine ⟨⟨pos + (Utf8.decode s pos).2, f, left, acc, HK2.out, rfl, ?_, by have := HDW.out; omega, hl0, hl1, by have := HDW.out; omega, by have := HDW.out; omega, HS3.out⟩, ?_⟩
        · unfold RowKit.Hid
          rw [hacc.out, HRUN.out, fitL, ← HX.out, if_pos (of_decide_eq_true c1)]
        · have e1 := iterPos_of HK2.out
          have e2 := HPP.out
          have := HDW.out
          rw [e1, e2]
          omega
      rcases Bool.eq_false_or_eq_true (decide (x > left)) with c2 | c2
      · have HR2 : Hid (R = (acc, left)) := by
          unfold RowKit.Hid
          rw [hacc.out, HRUN.out, fitL, ← HX.out, if_neg (of_decide_eq_false c1), if_pos (of_decide_eq_true c2), List.append_nil]
        have KS := Lib.hid (HS3.out).string
        obtain ⟨m, rfl⟩ : ∃ m : Nat, left = m := ⟨left.toNat, by omega⟩
        have KP := Lib.hid (fun W => repeat_sp m (by omega) W)
        obtain ⟨X, hX⟩ : ∃ X : ByteArray, X = ⟨acc.toArray⟩ := ⟨_, rfl⟩
        obtain ⟨Y, hY⟩ : ∃ Y, Y = strL (List.replicate m 32) := ⟨_, rfl⟩
        have hxs : X.size ≤ 4000000 := by rw [hX]; have := strL_size acc; unfold strL at this; omega
        have hys : Y.size ≤ 1000 := by rw [hY, strL_size, List.length_replicate]; omega
        have HXY : Hid (X ++ Y = strL (fitS s n)) := by
          unfold RowKit.Hid
          rw [HRS.out, HR2.out, hX, hY]
          exact strL_app _ _
        rw [← hX] at KS
        rw [← hY] at KP
        clear hX hY
        go_wp2_with fail
        refine KS.out.mono ?_
        rintro e W3 ⟨rfl, s3⟩
        have HS5 := Lib.hid s3
        clear s3
        go_wp2_with fail
        refine (KP.out _).mono ?_
        rintro e W4 ⟨rfl, s4⟩
        have HS6 := Lib.hid (HS5.out.trans s4)
        clear s4
        go_wp2
        go_ret2
        exact ⟨by rw [← HXY.out]; rfl, HS6.out⟩
      · have hxl : x ≤ left := by have := of_decide_eq_false c2; omega
        have hx0 : 0 ≤ x := by have := of_decide_eq_false c1; omega
        have hsub : IntKind.i64.wrap (left - x) = left - x := IntWalk.i64_in _ (by omega)
        have hacc2 : Hid (R = ((acc ++ Lib.encodeRune ((Utf8.decode s pos).1 : Int)) ++ (fitL (runesF s f (pos + (Utf8.decode s pos).2)) (left - x)).1, (fitL (runesF s f (pos + (Utf8.decode s pos).2)) (left - x)).2)) := by
          unfold RowKit.Hid
          rw [hacc.out, HRUN.out, fitL, ← HX.out, if_neg (of_decide_eq_false c1), if_neg (of_decide_eq_false c2), List.append_assoc]
        go_wp2_with fail
        refine (KR.out _ HS3.out).mono ?_
        rintro e W3 ⟨r1, r2, rfl, hS4, hko⟩
        have hk3 := hko.iter HK2.out (by omega)
        have HK3 := Lib.hid hk3
        have HS4 := Lib.hid hS4
        clear hk3 hS4 hko
        go_wp2
        refine ⟨⟨pos + (Utf8.decode s pos).2, f, left - x, acc ++ Lib.encodeRune ((Utf8.decode s pos).1 : Int), HK3.out, by go_num, hacc2, by have := HDW.out; omega, by omega, by omega, by have := HDW.out; omega, by rw [List.length_append]; have := HDW.out; have := HW4.out; omega, HS4.out⟩, ?_⟩
        have e1 := iterPos_of HK3.out
        have e2 := HPP.out
        have := HDW.out
        rw [e1, e2]
        omega
    · have hnx : ∀ ty, (Instr.next (.pointer (some ⟨w.heap.size + 1, 0, none⟩)) true ty).run Tryd.prog wr = _ := fun ty => Lib.run_next_end_at wr (w.heap.size + 1) s pos ty hit hp
      have HR2 : Hid (R = (acc, left)) := by
        unfold RowKit.Hid
        rw [hacc.out]
        cases fuel with
        | zero => simp [runesF, fitL]
        | succ f => rw [runesF, if_neg hp]; simp [fitL]
      have KS := Lib.hid (hS).string
      obtain ⟨m, rfl⟩ : ∃ m : Nat, left = m := ⟨left.toNat, by omega⟩
      have KP := Lib.hid (fun W => repeat_sp m (by omega) W)
      obtain ⟨X, hX⟩ : ∃ X : ByteArray, X = ⟨acc.toArray⟩ := ⟨_, rfl⟩
      obtain ⟨Y, hY⟩ : ∃ Y, Y = strL (List.replicate m 32) := ⟨_, rfl⟩
      have hxs : X.size ≤ 4000000 := by rw [hX]; have := strL_size acc; unfold strL at this; omega
      have hys : Y.size ≤ 1000 := by rw [hY, strL_size, List.length_replicate]; omega
      have HXY : Hid (X ++ Y = strL (fitS s n)) := by
        unfold RowKit.Hid
        rw [HRS.out, HR2.out, hX, hY]
        exact strL_app _ _
      rw [← hX] at KS
      rw [← hY] at KP
      clear hX hY
      go_wp2_with fail
      refine KS.out.mono ?_
      rintro e W3 ⟨rfl, s3⟩
      have HS5 := Lib.hid s3
      clear s3
      go_wp2_with fail
      refine (KP.out _).mono ?_
      rintro e W4 ⟨rfl, s4⟩
      have HS6 := Lib.hid (HS5.out.trans s4)
      clear s4
      go_wp2
      go_ret2
      exact ⟨by rw [← HXY.out]; rfl, HS6.out⟩
end Go.Proofs.YtfdolhppbimbmaaDoor
