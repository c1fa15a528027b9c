/- links.spots and links.Find (43). No condition. -/
import Derived.Test.YtfdolhppbimbmaaDoorLkA
namespace Go.Proofs.YtfdolhppbimbmaaDoor
set_option linter.unusedVariables false
set_option linter.unusedSimpArgs false
open Go.RowKit Go.Shelf

/-- Where addresses are. -/
def spEl : El (Nat × Nat) := wordsEl 141 2 (fun m => [.int .i64 m.1, .int .i64 m.2]) (by decide) (fun _ => rfl) (by intro x v hv; simp at hv; rcases hv with rfl | rfl <;> rfl)
theorem typedSp : El.Typed Tryd.prog spEl 138 := El.typed_of (z := .agg #[.int .i64 0, .int .i64 0]) (bytes := 16) Tryd.underlying138 (by kernel_rfl) rfl (by decide)
theorem spots_len : ∀ (l : List UInt8) (pv : Bool) (i k : Nat), (spotsR pv i k l).length ≤ l.length
  | [], pv, i, k => by cases k <;> exact Nat.le_refl _
  | b :: t, pv, i, k + 1 => by have := spots_len t (brkB b) (i + 1) k; rw [spotsR, List.length_cons]; omega
  | b :: t, pv, i, 0 => by
    rw [spotsR]
    split
    · have := spots_len t (brkB b) (i + 1) 0; rw [List.length_cons]; omega
    · have := spots_len t (brkB b) (i + 1) (addrN (b :: t) - 1); rw [List.length_cons, List.length_cons]; omega
theorem schN_le (l : List UInt8) : schN l ≤ l.length := by
  rcases schN_any l with h | ⟨p, u, h1, h2, _⟩
  · omega
  · rw [h2, h1, List.length_append]; omega
/-- The test of the byte before a place. -/
theorem brk_of {x : Int} {b : UInt8} (h : x = (b.toNat : Int)) : (plI x || decide (x ≥ 128)) = brkB b := by
  unfold brkB
  rw [h, plI_nat, decide_eq_decide.2 (show ((b.toNat : Int) ≥ 128 ↔ 128 ≤ b.toNat) by omega)]
set_option maxHeartbeats 8000000 in
set_option maxRecDepth 100000 in
theorem spots_any (s : ByteArray) (hs : s.size ≤ 20000000) (w : World) : Calls Tryd.prog 84 #[.string s] w fun e w' => ∃ v, e = .returned v ∧ spEl.Own (fun b => w.heap.size ≤ b) w' v (spotsL s.data.toList) ∧ Sees w w' := by
  have KP := Lib.hid (fun x W => plain_any x W)
  obtain ⟨l, hl⟩ : ∃ l, l = s.data.toList := ⟨_, rfl⟩
  have hls : l.length = s.size := by rw [hl, Lib.size_eq]
  obtain ⟨n, hn⟩ : ∃ n, n = s.size := ⟨_, rfl⟩
  rw [← hl]
  have HL := Lib.hid hl
  have HLS : Hid (l.length = n) := by rw [hn]; exact hls
  have hsn : s.size = n := hn.symm
  have hn2 : n ≤ 20000000 := by omega
  clear hl hls hn hs
  go_enter Tryd.func84, Tryd.ntmps84
  go_wp2
  go_loopw [3, 4] (fun u i W => ∃ (k : Nat) (ms : List (Nat × Nat)), k ≤ n ∧ i = .int .i64 k ∧ Hid (spotsL l = ms ++ spotsR (pvAt l k) k 0 (l.drop k)) ∧ spEl.Own (fun b => w.heap.size ≤ b) W u ms ∧ Sees w W) (fun _ i _ => n - (intOf i).toNat)
  case atStart => exact ⟨0, [], Nat.zero_le _, rfl, rfl, El.Own.nil _ _, Sees.refl _⟩
  case round =>
    obtain ⟨k, ms, hk, rfl, hms, hO, hS⟩ := hrel
    have HO := Lib.hid hO
    have HS := Lib.hid hS
    clear hO hS
    by_cases hlt : k < n
    · obtain ⟨b, hb⟩ : ∃ b, l[k]? = some b := ⟨_, List.getElem?_eq_getElem (by have := HLS.out; omega)⟩
      have HB := Lib.hid hb
      obtain ⟨B, hB⟩ : ∃ B, B = pvAt l k := ⟨_, rfl⟩
      have HBV := Lib.hid hB
      clear hb
      have HNO : Hid ((B = true ∨ addrN (l.drop k) = 0) → spotsL l = ms ++ spotsR (pvAt l (k + 1)) (k + 1) 0 (l.drop (k + 1))) := fun h => by
        rw [hms.out, spots_at_no HB.out (by rw [← HBV.out]; exact h)]
      have hlt2 : (k : Int) < n := by omega
      go_upto_region 5 with fail
      go_cut [28] from 13 to 28 (fun v28 wx => v28 = .bool B ∧ wx = wr)
      case first =>
        cases k with
        | zero =>
          have hB2 : B = false := by rw [hB]; rfl
          clear hB
          go_wp2_with fail
          go_meet
          exact ⟨by rw [hB2], rfl⟩
        | succ q =>
          obtain ⟨c, hc⟩ : ∃ c, l[q]? = some c := ⟨_, List.getElem?_eq_getElem (by have := HLS.out; omega)⟩
          have hix := bAt_at s q (by omega)
          have hxb : bAt s q = (c.toNat : Int) := by
            unfold bAt
            rw [← HL.out, List.getD_eq_getElem?_getD, hc]
            rfl
          obtain ⟨x, hx⟩ : ∃ x, x = bAt s q := ⟨_, rfl⟩
          rw [← hx] at hix hxb
          have hBx : B = (plI x || decide (x ≥ 128)) := by rw [hB, pvAt_succ hc, brk_of hxb]
          obtain ⟨P, hP⟩ : ∃ P, P = plI x := ⟨_, rfl⟩
          have KPx : Hid (∀ W, Calls Tryd.prog 123 #[.int .u8 x] W fun e w' => e = .returned (.bool P) ∧ w' = W) := fun W => by rw [hP]; exact KP.out _ W
          rw [← hP] at hBx
          have u1 : decide (((q + 1 : Nat) : Int) > 0) = true := decide_eq_true (by omega)
          have u2 : (0 : Int) < ((q + 1 : Nat) : Int) := by omega
          have u3 : ((q + 1 : Nat) : Int) - 1 = (q : Int) := by omega
          have u4 : (0 : Int) < (q : Int) + 1 := by omega
          have u5 : decide ((q : Int) + 1 > 0) = true := decide_eq_true u4
          clear hx hxb hB hP hc
          cases P
          · rcases Bool.eq_false_or_eq_true (decide (x ≥ 128)) with g | g
            · rw [g] at hBx
              go_wp2_with fail
              refine (KPx.out _).mono ?_
              rintro e w1 ⟨rfl, rfl⟩
              go_wp2_with fail
              go_meet
              exact ⟨by rw [hBx]; rfl, rfl⟩
            · rw [g] at hBx
              go_wp2_with fail
              refine (KPx.out _).mono ?_
              rintro e w1 ⟨rfl, rfl⟩
              go_wp2_with fail
              go_meet
              exact ⟨by rw [hBx]; rfl, rfl⟩
          · rw [Bool.true_or] at hBx
            go_wp2_with fail
            refine (KPx.out _).mono ?_
            rintro e w1 ⟨rfl, rfl⟩
            go_wp2_with fail
            go_meet
            exact ⟨by rw [hBx], rfl⟩
      case rest =>
        obtain ⟨rfl, rfl⟩ := hcut
        clear hB
        cases B
        · obtain ⟨N, hN⟩ : ∃ N, N = schN (l.drop k) := ⟨_, rfl⟩
          have KS : Hid (∀ W, Calls Tryd.prog 124 #[.string (s.extract k n)] W fun e w' => e = .returned (.int .i64 N) ∧ Sees W w') := fun W => by
            have q := scheme_any (s.extract k n) W
            rw [← hsn, Lib.extract_to_end, ← HL.out, ← hN, hsn] at q
            exact q
          rcases Nat.eq_zero_or_pos N with h0 | h0
          · have HA := Lib.hid (HNO.out (.inr (addr_none (by rw [← hN]; exact h0))))
            subst h0
            clear hN
            go_wp2_with fail
            refine (KS.out _).mono ?_
            rintro e W2 ⟨rfl, hs⟩
            have HS2 := Lib.hid (HS.out.trans hs)
            have HO2 := Lib.hid (HO.out.sees hs)
            clear hs
            go_wp2
            exact ⟨⟨k + 1, ms, by omega, by go_num, HA, HO2.out, HS2.out⟩, by simp [intOf]; omega⟩
          · obtain ⟨q, hq⟩ : ∃ q, q = k + N := ⟨_, rfl⟩
            obtain ⟨M, hM⟩ : ∃ M, M = lenN (l.drop q) := ⟨_, rfl⟩
            obtain ⟨r, hr⟩ : ∃ r, r = q + M := ⟨_, rfl⟩
            obtain ⟨T, hT⟩ : ∃ T, T = tailN ((l.drop q).take M) := ⟨_, rfl⟩
            obtain ⟨R, hR⟩ : ∃ R : ByteArray, R = strL (((l.drop q).take M).take T) := ⟨_, rfl⟩
            have hNl := schN_le (l.drop k)
            have hMl := lenN_le (l.drop q)
            have hTl : T ≤ ((l.drop q).take M).length := by rw [hT]; exact trimK_le _ _
            rw [List.length_drop, HLS.out, ← hN] at hNl
            rw [List.length_drop, HLS.out, ← hM] at hMl
            rw [List.length_take, List.length_drop, HLS.out] at hTl
            have hqn : q ≤ n := by omega
            have hrn : r ≤ n := by omega
            have hqr : q ≤ r := by omega
            have KL : Hid (∀ W, Calls Tryd.prog 126 #[.string (s.extract q n)] W fun e w' => e = .returned (.int .i64 M) ∧ Sees W w') := fun W => by
              have h := length_any (s.extract q n) (by rw [ByteArray.size_extract]; omega) W
              rw [← hsn, Lib.extract_to_end, ← HL.out, ← hM, hsn] at h
              exact h
            have KT : Hid (∀ W, Calls Tryd.prog 125 #[.string (s.extract q r)] W fun e w' => e = .returned (.string R) ∧ w' = W) := fun W => by
              have h := ltrim_any (s.extract q r) (by rw [ByteArray.size_extract]; omega) W
              rw [ext_strL, strL_list, ← HL.out, show r - q = M by omega, ← hT, ← hR] at h
              rw [ext_strL, ← HL.out, show r - q = M by omega]
              exact h
            have hRs : R.size = T := by rw [hR, strL_size, List.length_take, List.length_take, List.length_drop, HLS.out]; omega
            have hRe : R.toList.isEmpty = decide (T = 0) := by
              rw [hR, strL_emp, Bool.eq_iff_iff, decide_eq_true_eq, List.isEmpty_iff]
              constructor
              · intro e
                have := congrArg List.length e
                rw [List.length_take, List.length_take, List.length_drop, HLS.out, List.length_nil] at this
                omega
              · intro e; rw [e, List.take_zero]
            have hdd : (l.drop k).drop N = l.drop q := by rw [List.drop_drop, hq]
            have hAE : T = 0 → addrN (l.drop k) = 0 := fun h => by
              apply addr_empty
              rw [← hN, hdd, ← hM, ← hT]
              exact h
            have hAS : T ≠ 0 → addrN (l.drop k) = N + T := fun h => by
              have := addr_some (l := l.drop k) (by rw [← hN]; omega) (by rw [← hN, hdd, ← hM, ← hT]; exact h)
              rw [← hN, hdd, ← hM, ← hT] at this
              exact this
            have c1 : (k : Int) + (N : Int) = (q : Int) := by omega
            have c2 : (q : Int) + (M : Int) = (r : Int) := by omega
            have i1 : ((N : Int) == 0) = false := by rw [beq_eq_false_iff_ne]; omega
            have i2 : (q : Int) ≤ (r : Int) := by omega
            have HAE := Lib.hid hAE
            have HAS := Lib.hid hAS
            clear hq hM hr hT hR hN hNl hMl hTl hdd hAE hAS
            rcases Nat.eq_zero_or_pos T with t0 | t0
            · have HA := Lib.hid (HNO.out (.inr (HAE.out t0)))
              rw [decide_eq_true t0] at hRe
              clear t0 hRs
              go_wp2_with fail
              refine (KS.out _).mono ?_
              rintro e W2 ⟨rfl, hs⟩
              have HS2 := Lib.hid (HS.out.trans hs)
              have HO2 := Lib.hid (HO.out.sees hs)
              clear hs
              go_wp2_with fail
              refine (KL.out _).mono ?_
              rintro e W3 ⟨rfl, hs⟩
              have HS3 := Lib.hid (HS2.out.trans hs)
              have HO3 := Lib.hid (HO2.out.sees hs)
              clear hs
              go_wp2_with fail
              refine (KT.out _).mono ?_
              rintro e W4 ⟨rfl, rfl⟩
              go_wp2
              exact ⟨⟨k + 1, ms, by omega, by go_num, HA, HO3.out, HS3.out⟩, by simp [intOf]; omega⟩
            · rw [decide_eq_false (by omega)] at hRe
              obtain ⟨a, ha⟩ : ∃ a, a = N + T := ⟨_, rfl⟩
              obtain ⟨z, hz⟩ : ∃ z, z = k + a := ⟨_, rfl⟩
              have hae := HAS.out (by omega)
              rw [← ha] at hae
              have hle := addrN_le (l.drop k)
              rw [hae, List.length_drop, HLS.out] at hle
              have HY : Hid (spotsL l = (ms ++ [(k, z)]) ++ spotsR (pvAt l z) z 0 (l.drop z)) := by
                have h1 := spots_at_yes (l := l) (i := k) HBV.out.symm (by rw [hae]; omega)
                rw [hae, ← hz] at h1
                unfold RowKit.Hid
                rw [hms.out, h1, List.append_assoc]
                rfl
              have HLN : Hid (ms.length + [(k, z)].length ≤ 100000000) := by
                have h1 := spots_len l false 0 0
                rw [show spotsR false 0 0 l = spotsL l from rfl, HY.out, List.length_append, List.length_append, HLS.out] at h1
                unfold RowKit.Hid
                omega
              have c3 : (q : Int) + (T : Int) = (z : Int) := by omega
              have c4 : (N : Int) + (T : Int) = (a : Int) := by omega
              have c5 : (k : Int) + ((a : Int) - 1) = ((z - 1 : Nat) : Int) := by omega
              obtain ⟨z1, hz1⟩ : ∃ z1, z1 = z - 1 := ⟨_, rfl⟩
              rw [← hz1] at c5
              have hzz : z = z1 + 1 := by omega
              have hzn : z ≤ n := by omega
              have hzk : k < z := by omega
              have HZ := Lib.hid hzz
              clear ha hz hae hle hz1 t0 hzz
              go_wp2_with fail
              refine (KS.out _).mono ?_
              rintro e W2 ⟨rfl, hs⟩
              have HS2 := Lib.hid (HS.out.trans hs)
              have HO2 := Lib.hid (HO.out.sees hs)
              clear hs
              go_wp2_with fail
              refine (KL.out _).mono ?_
              rintro e W3 ⟨rfl, hs⟩
              have sB : Sees W3 (W3.alloc (.cells #[.int .i64 k, .int .i64 z] 141)) := (Sees.refl _).alloc _
              have HS3 := Lib.hid ((HS2.out.trans hs).trans sB)
              have HO3 := Lib.hid ((HO2.out.sees hs).sees sB).cut
              have HR := Lib.hid (heap_alloc_new W3 (.cells #[.int .i64 k, .int .i64 z] 141))
              have HWB := Lib.hid ((HS2.out.trans hs).trans sB).size
              clear hs sB
              go_wp2_with fail
              refine (KT.out _).mono ?_
              rintro e W4 ⟨rfl, rfl⟩
              go_wp2_with (at_builtin; refine El.wpList_append_own (v := u3) typedSp rfl (.tmp 53) (.tmp 62) rfl (by go_simp) HO3.out ⟨W4.heap.size, 0, none⟩ 1 1 (by go_simp) [.int .i64 k, .int .i64 z] [(k, z)] (fun _ => False) (El.ownIn_one (E := spEl) rfl) rfl (fun j u hu => El.row_cells HR.out j u hu) (fun b hb => hb.2) (fun b hb => hb.elim) HLN.out ?_; intro v7 w7 ho7 hk7; have HO7 := Lib.hid ho7; have HK7 := Lib.hid hk7; clear ho7 hk7)
              refine ⟨⟨z1 + 1, ms ++ [(k, z)], by have := HZ.out; omega, by go_num, by rw [← HZ.out]; exact HY, ?_, El.keep_new HS3.out HK7.out (fun g hg => (HO3.out.base hg).1.1)⟩, by have := HZ.out; simp [intOf]; omega⟩
              refine HO7.out.mono fun b _ hb => ?_
              have := HWB.out
              rcases hb with hb | hb | hb
              · exact hb.1
              · exact hb.elim
              · omega
        · have HA := Lib.hid (HNO.out (.inl rfl))
          go_wp2
          exact ⟨⟨k + 1, ms, by omega, by go_num, HA, HO.out, HS.out⟩, by simp [intOf]; omega⟩
    · obtain rfl : k = n := by omega
      have HF : Hid (spotsL l = ms) := by unfold RowKit.Hid; rw [hms.out, spots_at_end (by have := HLS.out; omega), List.append_nil]
      go_wp2
      go_ret
      exact ⟨u3, rfl, by rw [HF.out]; exact HO.out, HS.out⟩
end Go.Proofs.YtfdolhppbimbmaaDoor
