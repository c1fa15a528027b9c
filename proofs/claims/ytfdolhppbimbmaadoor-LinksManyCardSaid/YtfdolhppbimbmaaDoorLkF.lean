/- The statements' tests of letters, beginnings, bytes and runes (43). The statements' address (43). The statements' found (43). No condition. -/
import Derived.Test.YtfdolhppbimbmaaDoorLkE
import Derived.Deep.CutRange
namespace Go.Proofs.YtfdolhppbimbmaaDoor
set_option linter.unusedVariables false
set_option linter.unusedSimpArgs false
open Go.RowKit Go.Shelf

set_option maxHeartbeats 4000000 in
set_option maxRecDepth 100000 in
theorem letter_any (x : Int) (w : World) : Calls Tryd.prog 79 #[.int .u8 x] w fun e w' => e = .returned (.bool (plI x)) ∧ w' = w := by
  obtain ⟨P, hP⟩ : ∃ P, P = plI x := ⟨_, rfl⟩
  rw [← hP]
  have HP := Lib.hid hP
  clear hP
  go_enter Tryd.func79, Tryd.ntmps79
  rcases w3 (decide (x ≥ 97)) (decide (x ≤ 122)) with ⟨a1, a2⟩ | ⟨a1, a2⟩ | a1 <;> rcases w3 (decide (x ≥ 65)) (decide (x ≤ 90)) with ⟨b1, b2⟩ | ⟨b1, b2⟩ | b1 <;> rcases w3 (decide (x ≥ 48)) (decide (x ≤ 57)) with ⟨c1, c2⟩ | ⟨c1, c2⟩ | c1
  all_goals
    have hp : Hid (P = _) := HP.out
    unfold plI at hp
    (try rw [a1] at hp)
    (try rw [a2] at hp)
    (try rw [b1] at hp)
    (try rw [b2] at hp)
    (try rw [c1] at hp)
    (try rw [c2] at hp)
    go_wp2
    go_ret
    exact ⟨by rw [hp.out]; simp, rfl⟩
set_option maxHeartbeats 1000000 in
theorem begins_any (s p : ByteArray) (w : World) : Calls Tryd.prog 80 #[.string s, .string p] w fun e w' => e = .returned (.bool (Lib.hasPrefix s.data.toList p.data.toList)) ∧ w' = w := by
  obtain ⟨B, hB⟩ : ∃ B, B = Lib.hasPrefix s.data.toList p.data.toList := ⟨_, rfl⟩
  rw [← hB]
  have hraw := Lib.hasPrefix_raw s p
  rw [← hB] at hraw
  have HR := Lib.hid hraw
  clear hB hraw
  go_enter Tryd.func80, Tryd.ntmps80
  by_cases h : p.size ≤ s.size
  · have h1 : decide ((s.size : Int) ≥ (p.size : Int)) = true := decide_eq_true (by omega)
    have h2 : (p.size : Int) ≤ (s.size : Int) := by omega
    go_wp2
    go_ret
    refine ⟨?_, rfl⟩
    have := HR.out
    rw [decide_eq_true h, Bool.true_and] at this
    rw [← this]
    rfl
  · have h1 : decide ((s.size : Int) ≥ (p.size : Int)) = false := decide_eq_false (by omega)
    have h2 : ¬ ((p.size : Int) ≤ (s.size : Int)) := by omega
    go_wp2
    go_ret
    refine ⟨?_, rfl⟩
    have := HR.out
    rw [decide_eq_false h, Bool.false_and] at this
    rw [← this]
    rfl
theorem count_step {l : List UInt8} {k : Nat} {b c : UInt8} (hb : l[k]? = some b) : (l.take (k + 1)).count c = (l.take k).count c + if b == c then 1 else 0 := by
  rw [List.take_add_one, hb, List.count_append]
  congr 1
  show [b].count c = _
  rw [List.count_singleton]
set_option maxHeartbeats 2000000 in
theorem many_any (s : ByteArray) (hs : s.size ≤ 10000000) (c : UInt8) (y : Int) (hy : y = (c.toNat : Int)) (w : World) : Calls Tryd.prog 81 #[.string s, .int .u8 y] w fun e w' => e = .returned (.int .i64 (s.data.toList.count c)) ∧ w' = w := by
  obtain ⟨l, hl⟩ : ∃ l, l = s.data.toList := ⟨_, rfl⟩
  obtain ⟨n, hn⟩ : ∃ n, n = s.size := ⟨_, rfl⟩
  have HLS : Hid (l.length = n) := by unfold RowKit.Hid; rw [hl, hn, Lib.size_eq]
  rw [← hl]
  have HL := Lib.hid hl
  have hsn : s.size = n := hn.symm
  have hn2 : n ≤ 10000000 := by omega
  have HY := Lib.hid hy
  clear hl hn hs hy
  go_enter Tryd.func81, Tryd.ntmps81
  go_wp2
  go_loop [5, 6] (fun v i => ∃ k : Nat, k ≤ n ∧ i = .int .i64 k ∧ v = .int .i64 ((l.take k).count c : Nat)) (fun _ i => n - (intOf i).toNat)
  case atStart => exact ⟨0, Nat.zero_le _, rfl, rfl⟩
  case round =>
    obtain ⟨k, hk, rfl, rfl⟩ := hrel
    obtain ⟨m, hm⟩ : ∃ m, m = (l.take k).count c := ⟨_, rfl⟩
    rw [← hm]
    have HM := Lib.hid hm
    have hml : m ≤ n := by
      have h1 := List.count_le_length (a := c) (l := l.take k)
      rw [List.length_take] at h1
      omega
    clear hm
    by_cases hlt : k < n
    · obtain ⟨b, hb⟩ : ∃ b, l[k]? = some b := ⟨_, List.getElem?_eq_getElem (by have := HLS.out; omega)⟩
      have hix := bAt_at s k (by omega)
      have hxb : bAt s k = (b.toNat : Int) := by
        unfold bAt
        rw [← HL.out, List.getD_eq_getElem?_getD, hb]
        rfl
      obtain ⟨x, hx⟩ : ∃ x, x = bAt s k := ⟨_, rfl⟩
      rw [← hx] at hix hxb
      have hxc : (x == y) = (b == c) := by
        rw [hxb, HY.out, Bool.eq_iff_iff, beq_iff_eq, beq_iff_eq, ← UInt8.toNat_inj]
        omega
      have hst := count_step (c := c) hb
      rw [← HM.out] at hst
      have HST := Lib.hid hst
      clear hx hxb hb hst
      rcases Bool.eq_false_or_eq_true (b == c) with g | g
      · rw [g] at hxc HST
        go_wp2
        exact ⟨⟨k + 1, by omega, by go_num, by rw [HST.out]; go_num⟩, by simp [intOf]; omega⟩
      · rw [g] at hxc HST
        go_wp2
        exact ⟨⟨k + 1, by omega, by go_num, by rw [HST.out]; rfl⟩, by simp [intOf]; omega⟩
    · obtain rfl : k = n := by omega
      have HF : Hid (m = l.count c) := by unfold RowKit.Hid; rw [HM.out, List.take_of_length_le (by rw [HLS.out]; exact Nat.le_refl _)]
      go_wp2
      go_ret
      exact ⟨by rw [← HF.out]; rfl, rfl⟩
/-- Is a rune one of an address? -/
def inR (r : Nat) : Bool := decide (128 ≤ r) || inB (UInt8.ofNat r)
theorem set_ascii : ∀ b ∈ setL, b.toNat < 128 := by decide
theorem set_dec (k : Nat) (hk : k < 23) : Utf8.decode (strL setL) k = ((setL.getD k 0).toNat, 1) := by
  rcases (by omega : k = 0 ∨ k = 1 ∨ k = 2 ∨ k = 3 ∨ k = 4 ∨ k = 5 ∨ k = 6 ∨ k = 7 ∨ k = 8 ∨ k = 9 ∨ k = 10 ∨ k = 11 ∨ k = 12 ∨ k = 13 ∨ k = 14 ∨ k = 15 ∨ k = 16 ∨ k = 17 ∨ k = 18 ∨ k = 19 ∨ k = 20 ∨ k = 21 ∨ k = 22) with h | h | h | h | h | h | h | h | h | h | h | h | h | h | h | h | h | h | h | h | h | h | h <;> (rw [h]; kernel_rfl)
set_option maxHeartbeats 4000000 in
set_option maxRecDepth 100000 in
theorem inside_any (r : Nat) (hr : r ≤ 1114111) (w : World) : Calls Tryd.prog 26 #[.int .i32 (r : Int)] w fun e w' => e = .returned (.bool (inR r)) ∧ Sees w w' := by
  have KP := Lib.hid (fun x W => letter_any x W)
  obtain ⟨x, hx⟩ : ∃ x : Int, x = (r : Int) := ⟨_, rfl⟩
  rw [← hx]
  by_cases h : 128 ≤ r
  · have HF : Hid (inR r = true) := by unfold RowKit.Hid inR; rw [decide_eq_true h]; rfl
    have h1 : decide (x ≥ 128) = true := decide_eq_true (by omega)
    have h2 : 128 ≤ x := by omega
    clear hx
    go_enter Tryd.func26, Tryd.ntmps26
    go_wp2
    go_ret
    exact ⟨by rw [HF.out]; rfl, Sees.refl _⟩
  · obtain ⟨b, hb⟩ : ∃ b, b = UInt8.ofNat r := ⟨_, rfl⟩
    have hbn : b.toNat = r := by rw [hb]; simp; omega
    have HF : Hid (inR r = (plB b || setL.contains b)) := by
      unfold RowKit.Hid inR inB
      rw [← hb, hbn, decide_eq_false h, Bool.false_or, Bool.false_or]
    have h1 : decide (x ≥ 128) = false := decide_eq_false (by omega)
    have h2 : ¬ (128 ≤ x) := by omega
    have h3 : decide (x < 128) = true := decide_eq_true (by omega)
    have h4 : x < 128 := by omega
    have h0 : 0 ≤ x := by omega
    have hwu : IntKind.u8.wrap x = x := by unfold IntKind.wrap; simp [IntKind.signed, IntKind.bits]; omega
    obtain ⟨P, hP⟩ : ∃ P, P = plB b := ⟨_, rfl⟩
    have KPx : Hid (∀ W, Calls Tryd.prog 79 #[.int .u8 x] W fun e w' => e = .returned (.bool P) ∧ w' = W) := fun W => by
      rw [hP, hx, ← hbn, ← plI_nat]; exact KP.out _ W
    rw [← hP] at HF
    have HXR : Hid (x = (b.toNat : Int)) := by unfold RowKit.Hid; rw [hx, hbn]
    clear hx hb hbn hP h KP
    go_enter Tryd.func26, Tryd.ntmps26
    go_wp2_with fail
    refine (KPx.out _).mono ?_
    rintro e W2 ⟨rfl, rfl⟩
    cases P
    · go_wp2
      go_loopw [] (fun wr => ∃ pos : Nat, wr.heap[W2.heap.size]? = some (.stringIter (strL setL) pos) ∧ Hid (∀ j, j < pos → setL.getD j 0 ≠ b) ∧ pos ≤ 23 ∧ Sees W2 wr) (fun wr => 23 - wr.iterPos W2.heap.size)
      case atStart => exact ⟨0, World.iter_heap W2 (strL setL) 0, (fun j h => by omega), Nat.zero_le _, (Sees.refl W2).alloc _⟩
      case round =>
        obtain ⟨pos, hit, hin, hp1, hS⟩ := hrel
        have hsz : W2.heap.size < wr.heap.size := (Array.getElem?_eq_some_iff.1 hit).1
        have hss : (strL setL).size = 23 := rfl
        by_cases hp : pos < 23
        · have hnx : ∀ ty, (Instr.next (.pointer (some ⟨W2.heap.size, 0, none⟩)) true ty).run Tryd.prog wr = _ := fun ty => Lib.run_next_any_at wr W2.heap.size (strL setL) pos ty hit (by rw [hss]; exact hp)
          have hit2 := Lib.iterAt_heap wr W2.heap.size (strL setL) pos (pos + (Utf8.decode (strL setL) pos).2) hit
          have hS2 : Sees W2 (wr.iterAt W2.heap.size (strL setL) (pos + (Utf8.decode (strL setL) pos).2)) := Lib.below_iterAt hS (k := W2.heap.size) (Nat.le_refl _) (strL setL) (pos + (Utf8.decode (strL setL) pos).2)
          rw [set_dec pos hp] at hit2 hS2
          simp only [set_dec pos hp] at hnx hit2 hS2
          obtain ⟨y, hy⟩ : ∃ y : Int, y = (((setL.getD pos 0).toNat : Nat) : Int) := ⟨_, rfl⟩
          simp only [← hy] at hnx
          obtain ⟨G, hG⟩ : ∃ G, G = (setL.getD pos 0 == b) := ⟨_, rfl⟩
          have hg : (y == x) = G := by
            rw [hG, hy, HXR.out, Bool.eq_iff_iff, beq_iff_eq, beq_iff_eq, ← UInt8.toNat_inj]
            omega
          have HIT2 := Lib.hid hit2
          have HS2 := Lib.hid hS2
          have HGG := Lib.hid hG
          have hms : Hid (23 - (wr.iterAt W2.heap.size (strL setL) (pos + 1)).iterPos W2.heap.size < 23 - wr.iterPos W2.heap.size) := by
            have e1 := iterPos_of HIT2.out
            have e2 := iterPos_of hit
            unfold RowKit.Hid
            rw [e1, e2]
            omega
          clear hit hit2 hS hS2 hy hG hss
          cases G
          · go_wp2
            refine ⟨⟨pos + 1, HIT2.out, (fun j hj => ?_), by omega, HS2.out⟩, hms.out⟩
            rcases Nat.lt_or_ge j pos with hh | hh
            · exact hin.out j hh
            · obtain rfl : j = pos := by omega
              intro e
              have := HGG.out
              rw [e] at this
              simp at this
          · have HT : Hid (setL.contains b = true) := by
              unfold RowKit.Hid
              have e := beq_iff_eq.1 HGG.out.symm
              rw [List.contains_iff_mem, ← e, List.getD_eq_getElem?_getD, List.getElem?_eq_getElem (show pos < setL.length from hp)]
              exact List.getElem_mem _
            go_wp2
            go_ret
            exact ⟨by rw [HF.out, HT.out]; rfl, HS2.out⟩
        · have hnx : ∀ ty, (Instr.next (.pointer (some ⟨W2.heap.size, 0, none⟩)) true ty).run Tryd.prog wr = _ := fun ty => Lib.run_next_end_at wr W2.heap.size (strL setL) pos ty hit (by rw [hss]; exact hp)
          have HT : Hid (setL.contains b = false) := by
            unfold RowKit.Hid
            rw [Bool.eq_false_iff, Ne, List.contains_iff_mem]
            intro hm
            obtain ⟨j, hj⟩ := List.mem_iff_getElem?.1 hm
            have hjl : j < 23 := (List.getElem?_eq_some_iff.1 hj).1
            refine hin.out j (by omega) ?_
            rw [List.getD_eq_getElem?_getD, hj]
            rfl
          have HS2 := Lib.hid hS
          clear hS hin hss
          go_wp2
          go_ret
          exact ⟨by rw [HF.out, HT.out]; rfl, HS2.out⟩
    · go_wp2
      go_ret
      exact ⟨by rw [HF.out]; rfl, Sees.refl _⟩
end Go.Proofs.YtfdolhppbimbmaaDoor

namespace Go.Proofs.YtfdolhppbimbmaaDoor
set_option linter.unusedVariables false
set_option linter.unusedSimpArgs false
open Go.RowKit Go.Shelf

/-- The last scheme that is there. -/
def nTo (l : List UInt8) : Nat → Nat
  | 0 => 0
  | k + 1 => if Lib.hasPrefix l (schs k) then (schs k).length else nTo l k
theorem nTo_all (l : List UInt8) : nTo l 4 = schN l := by
  rcases schN_cases l with ⟨u, rfl, h⟩ | ⟨u, rfl, h⟩ | ⟨u, rfl, h⟩ | ⟨u, rfl, h⟩ | h
  · rw [h]; rfl
  · rw [h]; rfl
  · rw [h]; rfl
  · rw [h]; rfl
  · rw [h]
    unfold schN at h
    split at h
    · cases h
    split at h
    · cases h
    split at h
    · cases h
    split at h
    · cases h
    rename_i h1 h2 h3 h4
    show (if Lib.hasPrefix l fileL then 7 else if Lib.hasPrefix l ftpL then 6 else if Lib.hasPrefix l httpsL then 8 else if Lib.hasPrefix l httpL then 7 else 0) = 0
    rw [if_neg h4, if_neg h3, if_neg h2, if_neg h1]
theorem nTo_le (l : List UInt8) : ∀ k, nTo l k ≤ 8
  | 0 => Nat.zero_le 8
  | k + 1 => by
    rw [nTo]
    split
    · rcases (by omega : k = 0 ∨ k = 1 ∨ k = 2 ∨ 3 ≤ k) with rfl | rfl | rfl | h
      · decide
      · decide
      · decide
      · obtain ⟨j, rfl⟩ : ∃ j, k = j + 3 := ⟨k - 3, by omega⟩
        exact (by decide : fileL.length ≤ 8)
    · exact nTo_le l k
set_option maxHeartbeats 16000000 in
set_option maxRecDepth 100000 in
theorem address_any (s : ByteArray) (hs : s.size ≤ 10000000) (w : World) : Calls Tryd.prog 27 #[.string s] w fun e w' => e = .returned (.string (strL (s.data.toList.take (addrN s.data.toList)))) ∧ Sees w w' := by
  have KB := Lib.hid (fun p W => begins_any s p W)
  have KI := Lib.hid (fun r W (h : r ≤ 1114111) => inside_any r h W)
  have KM := Lib.hid (fun (x : ByteArray) (h : x.size ≤ 10000000) (c : UInt8) W => many_any x h c (c.toNat : Int) rfl W)
  obtain ⟨l, hl⟩ : ∃ l, l = s.data.toList := ⟨_, rfl⟩
  obtain ⟨n, hn⟩ : ∃ n, n = s.size := ⟨_, rfl⟩
  have HLS : Hid (l.length = n) := by unfold RowKit.Hid; rw [hl, hn, Lib.size_eq]
  rw [← hl] at KB ⊢
  have HL := Lib.hid hl
  have hsn : s.size = n := hn.symm
  have hn2 : n ≤ 10000000 := by omega
  obtain ⟨E, hE⟩ : ∃ E, E = Ending.returned (.string (strL (l.take (addrN l)))) := ⟨_, rfl⟩
  rw [← hE]
  have HE := Lib.hid hE
  clear hl hn hs hE
  go_enter Tryd.func27, Tryd.ntmps27
  go_upto_region 3 with fail
  refine wp_world fun W1 hW1 => ?_
  have C : Hid (∀ k, k < 4 → W1.cell? ⟨w.heap.size, k, none⟩ = some (.string (strL (schs k)))) := fun k hk => by
    subst hW1
    rw [cell_of_row _ _ _ _ _ _ (heap_alloc_new w _)]
    rcases (by omega : k = 0 ∨ k = 1 ∨ k = 2 ∨ k = 3) with rfl | rfl | rfl | rfl <;> rfl
  have HS1 : Hid (Sees w W1) := by subst hW1; exact (Sees.refl w).alloc _
  clear hW1
  obtain ⟨b, hb⟩ : ∃ b, b = w.heap.size := ⟨_, rfl⟩
  rw [← hb] at C ⊢
  clear hb
  go_wp2_with fail
  go_loopw [3, 14] (fun v i W => ∃ k : Nat, k ≤ 4 ∧ i = .int .i64 k ∧ v = .int .i64 (nTo l k) ∧ Sees W1 W) (fun _ i _ => 4 - (intOf i).toNat)
  case atStart => exact ⟨0, by omega, rfl, rfl, Sees.refl _⟩
  case round =>
    obtain ⟨k, hk, rfl, rfl, hS⟩ := hrel
    have HS := Lib.hid (HS1.out.trans hS)
    have HS' := Lib.hid hS
    by_cases hlt : k < 4
    · have c := hS.cell (C.out k hlt)
      obtain ⟨p, hp⟩ : ∃ p, p = strL (schs k) := ⟨_, rfl⟩
      obtain ⟨B, hB⟩ : ∃ B, B = Lib.hasPrefix l (schs k) := ⟨_, rfl⟩
      have KP : Hid (∀ W, Calls Tryd.prog 80 #[.string s, .string p] W fun e w' => e = .returned (.bool B) ∧ w' = W) := fun W => by
        rw [hp, hB]; exact KB.out _ W
      rw [← hp] at c
      have HN1 : Hid (nTo l (k + 1) = if B then p.size else nTo l k) := by unfold RowKit.Hid; rw [hp, strL_size, hB]; rfl
      clear hS hp hB
      generalize nTo l k = m at *
      go_wp2_with fail
      refine (KP.out _).mono ?_
      rintro e W2 ⟨rfl, rfl⟩
      cases B
      · go_wp2
        exact ⟨⟨k + 1, by omega, by go_num, by rw [HN1.out]; rfl, HS'.out⟩, by simp [intOf]; omega⟩
      · go_wp2
        exact ⟨⟨k + 1, by omega, by go_num, by rw [HN1.out]; rfl, HS'.out⟩, by simp [intOf]; omega⟩
    · obtain rfl : k = 4 := by omega
      rw [nTo_all]
      obtain ⟨N, hN⟩ : ∃ N, N = schN l := ⟨_, rfl⟩
      rw [← hN]
      clear hS
      rcases Nat.eq_zero_or_pos N with h0 | h0
      · have HF : Hid (E = Ending.returned (.string (strL []))) := by
          unfold RowKit.Hid
          rw [HE.out, addr_none (by rw [← hN]; exact h0)]
          rfl
        have g1 : ((N : Int) == 0) = true := by rw [beq_iff_eq]; omega
        clear hN h0
        go_wp2
        go_ret
        exact ⟨by rw [HF.out]; rfl, HS.out⟩
      · have g1 : ((N : Int) == 0) = false := by rw [beq_eq_false_iff_ne]; omega
        have hNl := schN_le l
        rw [HLS.out, ← hN] at hNl
        obtain ⟨d, hd⟩ : ∃ d, d = l.drop N := ⟨_, rfl⟩
        have hdl : d.length = n - N := by rw [hd, List.length_drop, HLS.out]
        obtain ⟨M, hM⟩ : ∃ M, M = lenN d := ⟨_, rfl⟩
        have hMl := lenN_le d
        rw [← hM, hdl] at hMl
        obtain ⟨X, hX⟩ : ∃ X, X = s.extract N n := ⟨_, rfl⟩
        have hXd : X.data.toList = d := by rw [hX, ← hsn, Lib.extract_to_end, ← HL.out, hd]
        have hXs : X.size = n - N := by rw [Lib.size_eq, hXd, hdl]
        have HXD := Lib.hid hXd
        have HM := Lib.hid hM
        have HN := Lib.hid hN
        have HD := Lib.hid hd
        have HDL := Lib.hid hdl
        obtain ⟨R, hR⟩ : ∃ R : ByteArray, R = strL (d.take M) := ⟨_, rfl⟩
        have HR := Lib.hid hR
        have hXe : s.extract N n = X := hX.symm
        have hx10 : X.size ≤ 10000000 := by omega
        obtain ⟨nx, hnx0⟩ : ∃ nx, nx = n - N := ⟨_, rfl⟩
        rw [← hnx0] at hXs hMl HDL
        have hnxn : N + nx = n := by omega
        clear hN hd hdl hM hX hXd hR h0 hnx0
        generalize wr = V at *
        go_upto_block 2 with fail
        go_cut [6, 7, 8] from 31 to 40 (fun v6 v7 v8 wx => v6 = .string R ∧ Sees V wx)
        case first =>
          go_wp2_with fail
          go_loopw [6] (fun v6 W => ∃ pos : Nat, v6 = .string X ∧ W.heap[V.heap.size]? = some (.stringIter X pos) ∧ Hid (∀ c ∈ d.take pos, inB c = true) ∧ pos ≤ nx ∧ Sees V W) (fun _ W => nx - W.iterPos V.heap.size)
          case atStart => exact ⟨0, rfl, World.iter_heap V X 0, (fun c h => by simp at h), Nat.zero_le _, (Sees.refl V).alloc _⟩
          case round =>
            obtain ⟨pos, rfl, hit, hin, hp1, hS⟩ := hrel
            have hsz : V.heap.size < wr.heap.size := (Array.getElem?_eq_some_iff.1 hit).1
            by_cases hp : pos < nx
            · have hp' : pos < X.size := by omega
              have hnx : ∀ ty, (Instr.next (.pointer (some ⟨V.heap.size, 0, none⟩)) true ty).run Tryd.prog wr = _ := fun ty => Lib.run_next_any_at wr V.heap.size X pos ty hit hp'
              have hit2 := Lib.iterAt_heap wr V.heap.size X pos (pos + (Utf8.decode X pos).2) hit
              have hS2 : Sees V (wr.iterAt V.heap.size X (pos + (Utf8.decode X pos).2)) := Lib.below_iterAt hS (k := V.heap.size) (Nat.le_refl _) X (pos + (Utf8.decode X pos).2)
              have hdw := dec_width X pos hp'
              obtain ⟨b, hb⟩ : ∃ b, d[pos]? = some b := ⟨_, List.getElem?_eq_getElem (by have := HDL.out; omega)⟩
              have hdb := dec_bytes (d.drop pos)
              have hbig := Lib.decodeL_rune (d.drop pos)
              rw [← HXD.out, Lib.decodeL_drop] at hdb hbig
              rw [HXD.out] at hdb
              rw [drop_at hb, List.getD_cons_zero, ← drop_at hb] at hdb
              obtain ⟨r, hr⟩ : ∃ r, r = (Utf8.decode X pos).1 := ⟨_, rfl⟩
              obtain ⟨w0, hw0⟩ : ∃ w0, w0 = (Utf8.decode X pos).2 := ⟨_, rfl⟩
              have hdb2 : (b.toNat < 128 ∧ r = b.toNat ∧ w0 = 1) ∨ (128 ≤ r ∧ ∀ c ∈ (d.drop pos).take w0, 128 ≤ c.toNat) := by
                rw [hr, hw0]
                rcases hdb with ⟨h1, h2⟩ | ⟨_, h2, _, h4⟩
                · exact .inl ⟨h1, by rw [h2], by rw [h2]⟩
                · exact .inr ⟨h2, h4⟩
              simp only [← hr, ← hw0] at hdw hit2 hS2 hnx hbig
              obtain ⟨x, hx⟩ : ∃ x : Int, x = (r : Int) := ⟨_, rfl⟩
              simp only [← hx] at hnx
              obtain ⟨I, hI⟩ : ∃ I, I = inR r := ⟨_, rfl⟩
              have KIx : Hid (∀ W, Calls Tryd.prog 26 #[.int .i32 x] W fun e w' => e = .returned (.bool I) ∧ Sees W w') := fun W => by rw [hx, hI]; exact KI.out r W hbig
              have HIT2 := Lib.hid hit2
              have HS2 := Lib.hid hS2
              have HDW := Lib.hid hdw
              have hms : Hid (nx - (wr.iterAt V.heap.size X (pos + w0)).iterPos V.heap.size < nx - wr.iterPos V.heap.size) := by
                have e1 := iterPos_of HIT2.out
                have e2 := iterPos_of hit
                have := HDW.out
                unfold RowKit.Hid
                rw [e1, e2]
                omega
              have hyes : I = true → ∀ c ∈ d.take (pos + w0), inB c = true := fun h c hc => by
                rw [List.take_add] at hc
                rcases List.mem_append.1 hc with hc | hc
                · exact hin.out c hc
                · rcases hdb2 with ⟨h1, h2, h3⟩ | ⟨h1, h2⟩
                  · rw [h3, drop_at hb] at hc
                    have e : c = b := by simpa using hc
                    rw [h, h2] at hI
                    unfold inR at hI
                    rw [decide_eq_false (by omega), Bool.false_or] at hI
                    rw [e, hI]
                    simp
                  · unfold inB
                    rw [decide_eq_true (h2 c hc)]
                    rfl
              have hno : I = false → X.extract 0 pos = R := fun h => by
                have hl : lenN d = pos := by
                  refine lenN_at hin.out hb ?_
                  rcases hdb2 with ⟨h1, h2, h3⟩ | ⟨h1, h2⟩
                  · rw [h, h2] at hI
                    unfold inR at hI
                    rw [decide_eq_false (by omega), Bool.false_or] at hI
                    rw [hI]
                    simp
                  · rw [h] at hI
                    unfold inR at hI
                    rw [decide_eq_true h1] at hI
                    cases hI
                rw [ext_strL, HXD.out, HR.out, HM.out, hl]
                rfl
              have HYES := Lib.hid hyes
              have HNOO := Lib.hid hno
              clear hit hit2 hS hS2 hdw hb hdb hdb2 hr hw0 hx hI hyes hno hbig
              go_wp2_with fail
              refine (KIx.out _).mono ?_
              rintro e W3 ⟨rfl, hs3⟩
              have HS3 := Lib.hid (HS2.out.trans hs3)
              have hk3 : W3.heap[V.heap.size]? = some (.stringIter X (pos + w0)) := by
                rw [hs3.block _ (Array.getElem?_eq_some_iff.1 HIT2.out).1]
                exact HIT2.out
              have hms3 : Hid (nx - W3.iterPos V.heap.size < nx - wr.iterPos V.heap.size) := by
                have e1 := iterPos_of hk3
                have e2 := iterPos_of HIT2.out
                have := hms.out
                unfold RowKit.Hid
                rw [e1]
                rw [e2] at this
                exact this
              have HK3 := Lib.hid hk3
              clear hs3 hk3 hms
              cases I
              · have HRE := HNOO.out rfl
                go_wp2_with fail
                go_meet
                exact ⟨by first | rfl | rw [HRE], HS3.out⟩
              · go_wp2
                have hfin : ∃ p2 : Nat, Value.string X = .string X ∧ W3.heap[V.heap.size]? = some (.stringIter X p2) ∧ Hid (∀ c ∈ d.take p2, inB c = true) ∧ p2 ≤ nx ∧ Sees V W3 := ⟨pos + w0, rfl, HK3.out, HYES.out (by first | rfl | trivial), by have := HDW.out; omega, HS3.out⟩
                go_roundw
                case rel => (repeat apply Exists.intro); exact ⟨hfin, rfl⟩
                case measure => exact hms3.out
            · have hp' : ¬ (pos < X.size) := by omega
              have hnx : ∀ ty, (Instr.next (.pointer (some ⟨V.heap.size, 0, none⟩)) true ty).run Tryd.prog wr = _ := fun ty => Lib.run_next_end_at wr V.heap.size X pos ty hit hp'
              have hRX : X = R := by
                have hall : lenN d = d.length := lenN_all (fun c hc => hin.out c (by rw [List.take_of_length_le (by rw [HDL.out]; omega)]; exact hc))
                rw [HR.out, HM.out, hall, List.take_length, ← HXD.out, strL_self]
              have HRX := Lib.hid hRX
              have HS2 := Lib.hid hS
              clear hS hin hRX hit
              go_wp2_with fail
              go_meet
              exact ⟨by first | rfl | rw [HRX.out], HS2.out⟩
        case rest =>
          obtain ⟨rfl, hsc⟩ := hcut
          have HSc := Lib.hid (HS.out.trans hsc)
          have hRs : R.size = M := by rw [HR.out, strL_size, List.length_take, HDL.out]; omega
          have hM10 : M ≤ 10000000 := by omega
          obtain ⟨e, he⟩ : ∃ e, e = d.take M := ⟨_, rfl⟩
          have HEE := Lib.hid he
          have HRE : Hid (R = strL e) := by unfold RowKit.Hid; rw [he]; exact HR.out
          have HEL : Hid (e.length = M) := by unfold RowKit.Hid; rw [he, List.length_take, HDL.out]; omega
          have HAE : Hid (tailN e = 0 → addrN l = 0) := fun h => by
            apply addr_empty
            rw [← HN.out, ← HD.out, ← HM.out, ← HEE.out]
            exact h
          have HAS : Hid (tailN e ≠ 0 → addrN l = N + tailN e) := fun h => by
            have := addr_some (l := l) (by rw [← HN.out]; have := beq_eq_false_iff_ne.1 g1; omega) (by rw [← HN.out, ← HD.out, ← HM.out, ← HEE.out]; exact h)
            rw [← HN.out, ← HD.out, ← HM.out, ← HEE.out] at this
            exact this
          clear hsc HS he HS' hXe
          go_wp2_with fail
          go_loopw [9] (fun kk W => ∃ k : Nat, k ≤ M ∧ kk = .int .i64 k ∧ Hid (tailN e = trimK e k) ∧ Sees w W) (fun kk _ => (intOf kk).toNat)
          case atStart => exact ⟨M, Nat.le_refl _, rfl, (by unfold RowKit.Hid tailN; rw [HEL.out]), HSc.out⟩
          case round =>
            obtain ⟨k, hk, rfl, ht, hS⟩ := hrel
            have HS2 := Lib.hid hS
            clear hS HSc
            cases k with
            | zero =>
              have HF : Hid (E = Ending.returned (.string (strL []))) := by
                unfold RowKit.Hid
                rw [HE.out, HAE.out (by rw [ht.out]; rfl)]
                rfl
              go_wp2
              go_ret
              exact ⟨by rw [HF.out]; rfl, HS2.out⟩
            | succ q =>
              obtain ⟨b, hb⟩ : ∃ b, e[q]? = some b := ⟨_, List.getElem?_eq_getElem (by have := HEL.out; omega)⟩
              have hix := bAt_at R q (by omega)
              have hxb : bAt R q = (b.toNat : Int) := by
                unfold bAt
                rw [HRE.out, strL_list, List.getD_eq_getElem?_getD, hb]
                rfl
              obtain ⟨x, hx⟩ : ∃ x, x = bAt R q := ⟨_, rfl⟩
              rw [← hx] at hix hxb
              obtain ⟨T, hT⟩ : ∃ T : ByteArray, T = strL (e.take (q + 1)) := ⟨_, rfl⟩
              have hTe : R.extract 0 (q + 1) = T := by rw [hT, HRE.out, strL_ext, List.drop_zero, Nat.sub_zero]
              have hTs : T.size ≤ 10000000 := by rw [hT, strL_size, List.length_take]; omega
              obtain ⟨P, hP⟩ : ∃ P, P = endL.contains b := ⟨_, rfl⟩
              obtain ⟨c0, hc0⟩ : ∃ c : Nat, c = endL.count b := ⟨_, rfl⟩
              have hc0P : decide ((c0 : Int) > 0) = P := by
                rw [hP, hc0, Bool.eq_iff_iff, decide_eq_true_eq, List.contains_iff_mem, ← List.count_pos_iff]
                omega
              have hc0P2 : decide (0 < c0) = P := by rw [← hc0P]; exact decide_eq_decide.2 (by omega)
              have hc0P3 : decide ((0 : Int) < (c0 : Int)) = P := hc0P
              have KE : Hid (∀ W, Calls Tryd.prog 81 #[.string ⟨#[46, 44, 58, 59, 33, 63, 39]⟩, .int .u8 x] W fun e w' => e = .returned (.int .i64 c0) ∧ w' = W) := fun W => by
                rw [hxb, hc0]; exact KM.out ⟨#[46, 44, 58, 59, 33, 63, 39]⟩ (by decide) b W
              obtain ⟨c41, h41⟩ : ∃ c : Nat, c = (e.take (q + 1)).count 41 := ⟨_, rfl⟩
              obtain ⟨c40, h40⟩ : ∃ c : Nat, c = (e.take (q + 1)).count 40 := ⟨_, rfl⟩
              obtain ⟨c91, h91⟩ : ∃ c : Nat, c = (e.take (q + 1)).count 91 := ⟨_, rfl⟩
              obtain ⟨c93, h93⟩ : ∃ c : Nat, c = (e.take (q + 1)).count 93 := ⟨_, rfl⟩
              have KC41 : Hid (∀ W, Calls Tryd.prog 81 #[.string T, .int .u8 41] W fun e w' => e = .returned (.int .i64 c41) ∧ w' = W) := fun W => by
                have h := KM.out T hTs 41 W
                rw [hT, strL_list] at h
                rw [h41, hT]; exact h
              have KC40 : Hid (∀ W, Calls Tryd.prog 81 #[.string T, .int .u8 40] W fun e w' => e = .returned (.int .i64 c40) ∧ w' = W) := fun W => by
                have h := KM.out T hTs 40 W
                rw [hT, strL_list] at h
                rw [h40, hT]; exact h
              have KC91 : Hid (∀ W, Calls Tryd.prog 81 #[.string T, .int .u8 91] W fun e w' => e = .returned (.int .i64 c91) ∧ w' = W) := fun W => by
                have h := KM.out T hTs 91 W
                rw [hT, strL_list] at h
                rw [h91, hT]; exact h
              have KC93 : Hid (∀ W, Calls Tryd.prog 81 #[.string T, .int .u8 93] W fun e w' => e = .returned (.int .i64 c93) ∧ w' = W) := fun W => by
                have h := KM.out T hTs 93 W
                rw [hT, strL_list] at h
                rw [h93, hT]; exact h
              have hbad := badT_at hb
              rw [← hP, ← h40, ← h41, ← h91, ← h93] at hbad
              have hb41 : (x == 41) = (b == 41) := by
                rw [hxb, Bool.eq_iff_iff, beq_iff_eq, beq_iff_eq, ← UInt8.toNat_inj]
                show _ ↔ b.toNat = 41
                omega
              have hb93 : (x == 93) = (b == 93) := by
                rw [hxb, Bool.eq_iff_iff, beq_iff_eq, beq_iff_eq, ← UInt8.toNat_inj]
                show _ ↔ b.toNat = 93
                omega
              rw [← hb41, ← hb93] at hbad
              have HBAD := Lib.hid hbad
              obtain ⟨z, hz⟩ : ∃ z, z = N + (q + 1) := ⟨_, rfl⟩
              have hzn : z ≤ n := by omega
              have HNO : Hid (badT (e.take (q + 1)) = false → E = Ending.returned (.string (s.extract 0 z))) := fun h => by
                have h1 : tailN e = q + 1 := by rw [ht.out, trimK, if_neg (by rw [h]; decide)]
                rw [HE.out, HAS.out (by omega), h1, ext_strL, ← HL.out, List.drop_zero, Nat.sub_zero, ← hz]
              have HYES : Hid (badT (e.take (q + 1)) = true → tailN e = trimK e q) := fun h => by
                rw [ht.out, trimK, if_pos h]
              have H49 : Hid ((x == 41) = true → (x == 93) = false) := fun h => by have := beq_iff_eq.1 h; rw [this]; rfl
              have c1 : (N : Int) + ((q : Int) + 1) = (z : Int) := by omega
              have c2 : ((q : Int) + 1) - 1 = (q : Int) := by omega
              have hq1 : q + 1 ≤ M := hk
              have hq2 : (q : Int) + 1 ≤ (M : Int) := by omega
              clear hb hxb hx hT hP hc0 h41 h40 h91 h93 hbad hb41 hb93 ht hz hTs
              go_upto_region 19 with fail
              refine wp_region_quiet_below (by kernel_rfl) (by kernel_rfl) ?_
              repeat (first | go_big_quiet_skip | (go_big_quiet_want; go_big_quiet_op; go_big_quiet_on))
              refine wpQuiet_nil ?_; intro w2 hw2'; have hw2 := regrown_sees hw2'; clear hw2'
              have HS3 := Lib.hid (HS2.out.trans hw2)
              clear hw2 HS2
              rcases Bool.eq_false_or_eq_true P with hP | hP
              · subst hP
                have HY := Lib.hid (HYES.out (by rw [HBAD.out]; rfl))
                go_wp2_with fail
                refine (KE.out _).mono ?_
                rintro e W5 ⟨rfl, rfl⟩
                go_wp2
                have hfin : ∃ k2 : Nat, k2 ≤ M ∧ Value.int .i64 (q : Int) = .int .i64 k2 ∧ Hid (tailN e = trimK e k2) ∧ Sees w W5 := ⟨q, by omega, rfl, HY, HS3.out⟩
                go_roundw
                case rel => (repeat apply Exists.intro); exact ⟨hfin, rfl⟩
                case measure => simp [intOf]
              subst hP
              rcases Bool.eq_false_or_eq_true (x == 41) with e1 | e1
              · have e2 := H49.out e1
                rcases Bool.eq_false_or_eq_true (decide (c40 < c41)) with g | g
                · have g1 : decide ((c41 : Int) > (c40 : Int)) = true := decide_eq_true (by have := of_decide_eq_true g; omega)
                  have g2 : (c40 : Int) < (c41 : Int) := of_decide_eq_true g1
                  have HY := Lib.hid (HYES.out (by rw [HBAD.out, e1, g]; rfl))
                  clear g
                  go_wp2_with fail
                  refine (KE.out _).mono ?_
                  rintro e W5 ⟨rfl, rfl⟩
                  go_wp2_with fail
                  refine (KC41.out _).mono ?_
                  rintro e W5 ⟨rfl, rfl⟩
                  go_wp2_with fail
                  refine (KC40.out _).mono ?_
                  rintro e W5 ⟨rfl, rfl⟩
                  go_wp2
                  have hfin : ∃ k2 : Nat, k2 ≤ M ∧ Value.int .i64 (q : Int) = .int .i64 k2 ∧ Hid (tailN e = trimK e k2) ∧ Sees w W5 := ⟨q, by omega, rfl, HY, HS3.out⟩
                  go_roundw
                  case rel => (repeat apply Exists.intro); exact ⟨hfin, rfl⟩
                  case measure => simp [intOf]
                · have g1 : decide ((c41 : Int) > (c40 : Int)) = false := decide_eq_false (by have := of_decide_eq_false g; omega)
                  have g2 : ¬ ((c40 : Int) < (c41 : Int)) := of_decide_eq_false g1
                  have HNN := Lib.hid (HNO.out (by rw [HBAD.out, e1, e2, g]; rfl))
                  clear g
                  go_wp2_with fail
                  refine (KE.out _).mono ?_
                  rintro e W5 ⟨rfl, rfl⟩
                  go_wp2_with fail
                  refine (KC41.out _).mono ?_
                  rintro e W5 ⟨rfl, rfl⟩
                  go_wp2_with fail
                  refine (KC40.out _).mono ?_
                  rintro e W5 ⟨rfl, rfl⟩
                  go_wp2
                  go_ret
                  exact ⟨by rw [HNN.out]; rfl, HS3.out⟩
              rcases Bool.eq_false_or_eq_true (x == 93) with e2 | e2
              · rcases Bool.eq_false_or_eq_true (decide (c91 < c93)) with g | g
                · have g1 : decide ((c93 : Int) > (c91 : Int)) = true := decide_eq_true (by have := of_decide_eq_true g; omega)
                  have g2 : (c91 : Int) < (c93 : Int) := of_decide_eq_true g1
                  have HY := Lib.hid (HYES.out (by rw [HBAD.out, e2, g]; simp))
                  clear g
                  go_wp2_with fail
                  refine (KE.out _).mono ?_
                  rintro e W5 ⟨rfl, rfl⟩
                  go_wp2_with fail
                  refine (KC93.out _).mono ?_
                  rintro e W5 ⟨rfl, rfl⟩
                  go_wp2_with fail
                  refine (KC91.out _).mono ?_
                  rintro e W5 ⟨rfl, rfl⟩
                  go_wp2
                  have hfin : ∃ k2 : Nat, k2 ≤ M ∧ Value.int .i64 (q : Int) = .int .i64 k2 ∧ Hid (tailN e = trimK e k2) ∧ Sees w W5 := ⟨q, by omega, rfl, HY, HS3.out⟩
                  go_roundw
                  case rel => (repeat apply Exists.intro); exact ⟨hfin, rfl⟩
                  case measure => simp [intOf]
                · have g1 : decide ((c93 : Int) > (c91 : Int)) = false := decide_eq_false (by have := of_decide_eq_false g; omega)
                  have g2 : ¬ ((c91 : Int) < (c93 : Int)) := of_decide_eq_false g1
                  have HNN := Lib.hid (HNO.out (by rw [HBAD.out, e1, e2, g]; rfl))
                  clear g
                  go_wp2_with fail
                  refine (KE.out _).mono ?_
                  rintro e W5 ⟨rfl, rfl⟩
                  go_wp2_with fail
                  refine (KC93.out _).mono ?_
                  rintro e W5 ⟨rfl, rfl⟩
                  go_wp2_with fail
                  refine (KC91.out _).mono ?_
                  rintro e W5 ⟨rfl, rfl⟩
                  go_wp2
                  go_ret
                  exact ⟨by rw [HNN.out]; rfl, HS3.out⟩
              · have HNN := Lib.hid (HNO.out (by rw [HBAD.out, e1, e2]; rfl))
                go_wp2_with fail
                refine (KE.out _).mono ?_
                rintro e W5 ⟨rfl, rfl⟩
                go_wp2
                go_ret
                exact ⟨by rw [HNN.out]; rfl, HS3.out⟩
end Go.Proofs.YtfdolhppbimbmaaDoor

namespace Go.Proofs.YtfdolhppbimbmaaDoor
set_option linter.unusedVariables false
set_option linter.unusedSimpArgs false
open Go.RowKit Go.Shelf

/-- Where an address begins, and it. -/
def fdEl : El (Nat × ByteArray) := wordsEl 56 2 (fun m => [.int .i64 m.1, .string m.2]) (by decide) (fun _ => rfl) (by intro x v hv; simp at hv; rcases hv with rfl | rfl <;> rfl)
theorem typedFd : El.Typed Tryd.prog fdEl 53 := El.typed_of (z := .agg #[.int .i64 0, .string ⟨#[]⟩]) (bytes := 24) Tryd.underlying53 (by kernel_rfl) rfl (by decide)
def foundL (l : List UInt8) : List (Nat × ByteArray) := (spotsL l).map fun m => (m.1, strL (cutL l m))
set_option maxHeartbeats 8000000 in
set_option maxRecDepth 100000 in
theorem fnd_any (s : ByteArray) (hs : s.size ≤ 10000000) (w : World) : Calls Tryd.prog 24 #[.string s] w fun e w' => ∃ v, e = .returned v ∧ fdEl.Own (fun b => w.heap.size ≤ b) w' v (foundL s.data.toList) ∧ Sees w w' := by
  have KP := Lib.hid (fun x W => letter_any x W)
  obtain ⟨l, hl⟩ : ∃ l, l = s.data.toList := ⟨_, rfl⟩
  have hls : l.length = s.size := by rw [hl, Lib.size_eq]
  obtain ⟨n, hn⟩ : ∃ n, n = s.size := ⟨_, rfl⟩
  rw [← hl]
  have HL := Lib.hid hl
  have HLS : Hid (l.length = n) := by rw [hn]; exact hls
  have hsn : s.size = n := hn.symm
  have hn2 : n ≤ 10000000 := by omega
  clear hl hls hn hs
  obtain ⟨f, hf⟩ : ∃ f : Nat × Nat → Nat × ByteArray, f = fun m => (m.1, strL (cutL l m)) := ⟨_, rfl⟩
  have HFL : Hid (foundL l = (spotsL l).map f) := by unfold RowKit.Hid; rw [hf]; rfl
  have HFE := Lib.hid hf
  clear hf
  go_enter Tryd.func24, Tryd.ntmps24
  go_wp2
  go_loopw [3, 4] (fun u i W => ∃ (k : Nat) (ms : List (Nat × Nat)), k ≤ n ∧ i = .int .i64 k ∧ Hid (spotsL l = ms ++ spotsR (pvAt l k) k 0 (l.drop k)) ∧ fdEl.Own (fun b => w.heap.size ≤ b) W u (ms.map f) ∧ Sees w W) (fun _ i _ => n - (intOf i).toNat)
  case atStart => exact ⟨0, [], Nat.zero_le _, rfl, rfl, El.Own.nil _ _, Sees.refl _⟩
  case round =>
    obtain ⟨k, ms, hk, rfl, hms, hO, hS⟩ := hrel
    have HO := Lib.hid hO
    have HS := Lib.hid hS
    clear hO hS
    by_cases hlt : k < n
    · obtain ⟨b, hb⟩ : ∃ b, l[k]? = some b := ⟨_, List.getElem?_eq_getElem (by have := HLS.out; omega)⟩
      have HB := Lib.hid hb
      obtain ⟨B, hB⟩ : ∃ B, B = pvAt l k := ⟨_, rfl⟩
      have HBV := Lib.hid hB
      clear hb
      have HNO : Hid ((B = true ∨ addrN (l.drop k) = 0) → spotsL l = ms ++ spotsR (pvAt l (k + 1)) (k + 1) 0 (l.drop (k + 1))) := fun h => by
        rw [hms.out, spots_at_no HB.out (by rw [← HBV.out]; exact h)]
      have hlt2 : (k : Int) < n := by omega
      go_upto_region 5 with fail
      go_cut [27] from 12 to 27 (fun v27 wx => v27 = .bool B ∧ wx = wr)
      case first =>
        cases k with
        | zero =>
          have hB2 : B = false := by rw [hB]; rfl
          clear hB
          go_wp2_with fail
          go_meet
          exact ⟨by rw [hB2], rfl⟩
        | succ q =>
          obtain ⟨c, hc⟩ : ∃ c, l[q]? = some c := ⟨_, List.getElem?_eq_getElem (by have := HLS.out; omega)⟩
          have hix := bAt_at s q (by omega)
          have hxb : bAt s q = (c.toNat : Int) := by
            unfold bAt
            rw [← HL.out, List.getD_eq_getElem?_getD, hc]
            rfl
          obtain ⟨x, hx⟩ : ∃ x, x = bAt s q := ⟨_, rfl⟩
          rw [← hx] at hix hxb
          have hBx : B = (plI x || decide (x ≥ 128)) := by rw [hB, pvAt_succ hc, brk_of hxb]
          obtain ⟨P, hP⟩ : ∃ P, P = plI x := ⟨_, rfl⟩
          have KPx : Hid (∀ W, Calls Tryd.prog 79 #[.int .u8 x] W fun e w' => e = .returned (.bool P) ∧ w' = W) := fun W => by rw [hP]; exact KP.out _ W
          rw [← hP] at hBx
          have u1 : decide (((q + 1 : Nat) : Int) > 0) = true := decide_eq_true (by omega)
          have u2 : (0 : Int) < ((q + 1 : Nat) : Int) := by omega
          have u3 : ((q + 1 : Nat) : Int) - 1 = (q : Int) := by omega
          have u4 : (0 : Int) < (q : Int) + 1 := by omega
          have u5 : decide ((q : Int) + 1 > 0) = true := decide_eq_true u4
          clear hx hxb hB hP hc
          cases P
          · rcases Bool.eq_false_or_eq_true (decide (x ≥ 128)) with g | g
            · rw [g] at hBx
              go_wp2_with fail
              refine (KPx.out _).mono ?_
              rintro e w1 ⟨rfl, rfl⟩
              go_wp2_with fail
              go_meet
              exact ⟨by rw [hBx]; rfl, rfl⟩
            · rw [g] at hBx
              go_wp2_with fail
              refine (KPx.out _).mono ?_
              rintro e w1 ⟨rfl, rfl⟩
              go_wp2_with fail
              go_meet
              exact ⟨by rw [hBx]; rfl, rfl⟩
          · rw [Bool.true_or] at hBx
            go_wp2_with fail
            refine (KPx.out _).mono ?_
            rintro e w1 ⟨rfl, rfl⟩
            go_wp2_with fail
            go_meet
            exact ⟨by rw [hBx], rfl⟩
      case rest =>
        obtain ⟨rfl, rfl⟩ := hcut
        clear hB
        cases B
        · obtain ⟨a, ha⟩ : ∃ a, a = addrN (l.drop k) := ⟨_, rfl⟩
          have hle := addrN_le (l.drop k)
          rw [← ha, List.length_drop, HLS.out] at hle
          obtain ⟨A, hA⟩ : ∃ A : ByteArray, A = strL ((l.drop k).take a) := ⟨_, rfl⟩
          have KA : Hid (∀ W, Calls Tryd.prog 27 #[.string (s.extract k n)] W fun e w' => e = .returned (.string A) ∧ Sees W w') := fun W => by
            have q := address_any (s.extract k n) (by rw [ByteArray.size_extract]; omega) W
            rw [← hsn, Lib.extract_to_end, ← HL.out, ← ha, ← hA, hsn] at q
            exact q
          have hAs : A.size = a := by rw [hA, strL_size, List.length_take, List.length_drop, HLS.out]; omega
          have hAe : A.toList.isEmpty = decide (a = 0) := by
            rw [hA, strL_emp, Bool.eq_iff_iff, decide_eq_true_eq, List.isEmpty_iff]
            constructor
            · intro e
              have := congrArg List.length e
              rw [List.length_take, List.length_drop, HLS.out, List.length_nil] at this
              omega
            · intro e; rw [e, List.take_zero]
          have HAA := Lib.hid ha
          have HAD := Lib.hid hA
          clear ha hA
          rcases Nat.eq_zero_or_pos a with t0 | t0
          · have HA := Lib.hid (HNO.out (.inr (by rw [← HAA.out]; exact t0)))
            rw [decide_eq_true t0] at hAe
            clear t0 hAs
            go_wp2_with fail
            refine (KA.out _).mono ?_
            rintro e W2 ⟨rfl, hs⟩
            have HS2 := Lib.hid (HS.out.trans hs)
            have HO2 := Lib.hid (HO.out.sees hs)
            clear hs
            go_wp2
            exact ⟨⟨k + 1, ms, by omega, by go_num, HA, HO2.out, HS2.out⟩, by simp [intOf]; omega⟩
          · rw [decide_eq_false (by omega)] at hAe
            obtain ⟨z, hz⟩ : ∃ z, z = k + a := ⟨_, rfl⟩
            have HY : Hid (spotsL l = (ms ++ [(k, z)]) ++ spotsR (pvAt l z) z 0 (l.drop z)) := by
              have h1 := spots_at_yes (l := l) (i := k) HBV.out.symm (by rw [← HAA.out]; omega)
              rw [← HAA.out, ← hz] at h1
              unfold RowKit.Hid
              rw [hms.out, h1, List.append_assoc]
              rfl
            have HFZ : Hid (f (k, z) = (k, A)) := by
              unfold RowKit.Hid
              rw [HFE.out, HAD.out]
              show (k, strL ((l.drop k).take (z - k))) = _
              rw [show z - k = a by omega]
            have HMP : Hid ((ms ++ [(k, z)]).map f = ms.map f ++ [(k, A)]) := by
              unfold RowKit.Hid
              rw [List.map_append, List.map_singleton, HFZ.out]
            have HLN : Hid ((ms.map f).length + [(k, A)].length ≤ 100000000) := by
              have h1 := spots_len l false 0 0
              rw [show spotsR false 0 0 l = spotsL l from rfl, HY.out, List.length_append, List.length_append, HLS.out] at h1
              unfold RowKit.Hid
              rw [List.length_map, List.length_singleton]
              omega
            have c5 : (k : Int) + (a : Int) - 1 = ((z - 1 : Nat) : Int) := by omega
            have c6 : (k : Int) + (a : Int) = (z : Int) := by omega
            have c7 : (z : Int) - 1 = ((z - 1 : Nat) : Int) := by omega
            obtain ⟨z1, hz1⟩ : ∃ z1, z1 = z - 1 := ⟨_, rfl⟩
            rw [← hz1] at c5 c7
            have hzz : z = z1 + 1 := by omega
            have hzn : z ≤ n := by omega
            have hzk : k < z := by omega
            have HZ := Lib.hid hzz
            clear hz hz1 t0 hzz
            go_wp2_with fail
            refine (KA.out _).mono ?_
            rintro e W2 ⟨rfl, hs⟩
            have sB : Sees W2 (W2.alloc (.cells #[.int .i64 k, .string A] 56)) := (Sees.refl _).alloc _
            have HS3 := Lib.hid ((HS.out.trans hs).trans sB)
            have HO3 := Lib.hid ((HO.out.sees hs).sees sB).cut
            have HR := Lib.hid (heap_alloc_new W2 (.cells #[.int .i64 k, .string A] 56))
            have HWB := Lib.hid ((HS.out.trans hs).trans sB).size
            clear hs sB
            go_wp2_with (at_builtin; refine El.wpList_append_own (v := u3) typedFd rfl (.tmp 34) (.tmp 38) rfl (by go_simp) HO3.out ⟨W2.heap.size, 0, none⟩ 1 1 (by go_simp) [.int .i64 k, .string A] [(k, A)] (fun _ => False) (El.ownIn_one (E := fdEl) rfl) rfl (fun j u hu => El.row_cells HR.out j u hu) (fun b hb => hb.2) (fun b hb => hb.elim) HLN.out ?_; intro v7 w7 ho7 hk7; have HO7 := Lib.hid ho7; have HK7 := Lib.hid hk7; clear ho7 hk7)
            refine ⟨⟨z1 + 1, ms ++ [(k, z)], by have := HZ.out; omega, by go_num, by rw [← HZ.out]; exact HY, ?_, El.keep_new HS3.out HK7.out (fun g hg => (HO3.out.base hg).1.1)⟩, by have := HZ.out; simp [intOf]; omega⟩
            rw [HMP.out]
            refine HO7.out.mono fun b _ hb => ?_
            have := HWB.out
            rcases hb with hb | hb | hb
            · exact hb.1
            · exact hb.elim
            · omega
        · have HA := Lib.hid (HNO.out (.inl rfl))
          go_wp2
          exact ⟨⟨k + 1, ms, by omega, by go_num, HA, HO.out, HS.out⟩, by simp [intOf]; omega⟩
    · obtain rfl : k = n := by omega
      have HF : Hid (foundL l = ms.map f) := by unfold RowKit.Hid; rw [HFL.out, hms.out, spots_at_end (by have := HLS.out; omega), List.append_nil]
      go_wp2
      go_ret
      exact ⟨u3, rfl, by rw [HF.out]; exact HO.out, HS.out⟩
end Go.Proofs.YtfdolhppbimbmaaDoor
