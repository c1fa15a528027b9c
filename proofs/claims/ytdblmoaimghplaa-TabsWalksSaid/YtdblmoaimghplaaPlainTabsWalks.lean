/- TabsWalks returns true for every input, and leaves its arguments alone. No condition. -/
import Derived.Test.YtdblmoaimghplaaLawN
import Derived.Test.YtdblmoaimghplaaTbO
namespace Go.Proofs.Ytdblmoaimghplaa
set_option linter.unusedVariables false
set_option linter.unusedSimpArgs false
namespace tabsWalks
open Go.ChangeShapes Go.WideShapes Go.ChangeAt Go.RowKit

abbrev numsC : Array Value := #[.int .i64 (-1), .int .i64 0, .int .i64 1, .int .i64 2, .int .i64 3, .int .i64 7, .int .i64 1000, .int .i64 9223372036854775807]
set_option maxHeartbeats 8000000 in
set_option maxRecDepth 100000 in
theorem walk (c : Int) (v : Value) (bs : List Int) (al : Bool) (w : World) (hc : -9223372036854775808 ≤ c ∧ c ≤ 9223372036854775807) (hv : RdBs w v bs) :
    Calls Try.prog 3 #[.int .i64 c, v, .bool al] w fun e w' => e = .returned (.bool true) ∧ Sees w w' := by
  obtain ⟨ao, cap, rfl, hcap, hbs⟩ := hv
  replace hbs := Lib.hid hbs
  have hr := Sees.refl w
  by_cases h1 : c < 1
  · have d1 : decide (c < 1) = true := decide_eq_true h1
    go_enter Try.func3, Try.ntmps3
    go_wp2_with fail
    refine (known20 _).mono ?_
    rintro e W2 ⟨rfl, s2⟩
    go_wp2
    go_ret
    exact ⟨rfl, s2⟩
  have d1 : decide (c < 1) = false := decide_eq_false h1
  by_cases h2 : c > 100
  · have d2 : decide (c > 100) = true := decide_eq_true h2
    have d2' : decide (100 < c) = true := decide_eq_true h2
    go_enter Try.func3, Try.ntmps3
    go_wp2_with fail
    refine (known20 _).mono ?_
    rintro e W2 ⟨rfl, s2⟩
    go_wp2
    go_ret
    exact ⟨rfl, s2⟩
  have d2 : decide (c > 100) = false := decide_eq_false h2
  have d2' : decide (100 < c) = false := decide_eq_false h2
  obtain ⟨N, hN⟩ : ∃ N, N = bs.length := ⟨_, rfl⟩
  rw [← hN] at hcap hbs ⊢
  clear hN
  by_cases h3 : 20 < N
  · have d3 : decide ((N : Int) > 20) = true := decide_eq_true (by omega)
    have d3' : decide (20 < N) = true := decide_eq_true h3
    go_enter Try.func3, Try.ntmps3
    go_wp2_with fail
    refine (known20 _).mono ?_
    rintro e W2 ⟨rfl, s2⟩
    go_wp2
    go_ret
    exact ⟨rfl, s2⟩
  have d3 : decide ((N : Int) > 20) = false := decide_eq_false (by omega)
  have d3' : decide (20 < N) = false := decide_eq_false h3
  obtain ⟨n, rfl⟩ : ∃ n : Nat, c = (n : Int) := ⟨c.toNat, by omega⟩
  have hn : 1 ≤ n ∧ n ≤ 100 := by omega
  go_enter Try.func3, Try.ntmps3
  go_wp2_with fail
  refine (new_ok w n (by omega)).mono ?_
  rintro e W1 ⟨p, mb, rfl, hp, hm, hS, s1⟩
  go_wp2_with fail
  refine (start_st w n (by omega) hp hm hS s1).mono ?_
  rintro e W2 ⟨q, rfl, hq, hT⟩
  clear hS s1
  have HB : RowKit.Hid (w.heap.size ≤ p ∧ w.heap.size ≤ mb ∧ w.heap.size ≤ q) := Lib.hid ⟨hp, hm, hq⟩
  clear hp hm hq
  have HT := Lib.hid hT
  clear hT
  have hH : ∀ k < 8, ∃ m : Int, numsC[k]? = some (.int .i64 m) ∧ (-9223372036854775808 ≤ m ∧ m ≤ 9223372036854775807) := by
    intro k hk
    match k, hk with
    | 0, _ => exact ⟨_, rfl, by decide⟩
    | 1, _ => exact ⟨_, rfl, by decide⟩
    | 2, _ => exact ⟨_, rfl, by decide⟩
    | 3, _ => exact ⟨_, rfl, by decide⟩
    | 4, _ => exact ⟨_, rfl, by decide⟩
    | 5, _ => exact ⟨_, rfl, by decide⟩
    | 6, _ => exact ⟨_, rfl, by decide⟩
    | 7, _ => exact ⟨_, rfl, by decide⟩
  cases al
  · have hdo := does_st HT.out HB.out.1 HB.out.2.1 HB.out.2.2 2 0 0 (by omega)
    go_wp2_with (go_at_call 11; refine hdo.mono ?_)
    rintro e W3 ⟨rfl, hT3⟩
    replace HT := Lib.hid hT3
    clear hT3 hdo
    go_wp2
    go_loopw [10] (fun x W => ∃ k : Nat, x = .int .i64 k ∧ k ≤ N ∧ RowKit.Hid (StW w W p mb q)) (fun x _ => N - (vInt x).toNat)
    case atStart => exact ⟨0, rfl, by omega, HT⟩
    case round =>
      obtain ⟨k, rfl, hk, hst⟩ := hrel
      clear HT
      by_cases hlt : k < N
      · obtain ⟨b1, o1, rfl, hcell, hz0, hz1⟩ := hbs.out k hlt
        replace hcell := hst.out.2.cell hcell
        obtain ⟨z, hz⟩ : ∃ z, z = bs.getD k 0 := ⟨_, rfl⟩
        rw [← hz] at hcell hz0 hz1
        clear hz
        have hw1 := IntWalk.i64_in z (by omega)
        have hn0 : ((n : Int) == 0) = false := beq_eq_false_iff_ne.2 (by omega)
        obtain ⟨r, hrem, hr0, hr1⟩ : ∃ r, Int.tmod z (n : Int) = r ∧ 0 ≤ r ∧ r ≤ 255 := ⟨_, rfl, Int.tmod_nonneg _ hz0, by
          rw [Int.tmod_eq_emod_of_nonneg hz0]
          have h1 := Int.emod_lt_of_pos z (show (0 : Int) < n by omega)
          omega⟩
        have hw2 := IntWalk.i64_in r (by omega)
        have hdo := does_st hst.out HB.out.1 HB.out.2.1 HB.out.2.2 0 r 0 (by omega)
        go_wp2_with (go_at_call 11; refine hdo.mono ?_)
        rintro e W3 ⟨rfl, hT3⟩
        replace hT3 := Lib.hid hT3
        go_wp2
        go_roundw
        case rel => exact ⟨k + 1, by go_num, by omega, hT3⟩
        case measure => simp [vInt]; omega
      · obtain rfl : k = N := by omega
        go_wp2
        go_loopw [11] (fun x W => ∃ j : Nat, x = .int .i64 ((j : Int) - 1) ∧ j ≤ n + 2 ∧ RowKit.Hid (StW w W p mb q)) (fun x _ => n + 2 - (vInt x + 1).toNat)
        case atStart => exact ⟨0, rfl, by omega, hst⟩
        case round =>
          obtain ⟨j, rfl, hj, hst2⟩ := hrel
          clear hst
          by_cases hjn : j < n + 2
          · have hle : decide ((j : Int) - 1 ≤ (n : Int)) = true := decide_eq_true (by omega)
            have hG := Lib.hid (hst2.out.beside numsC 3)
            clear hst2
            go_wp2
            generalize wr.alloc (.cells numsC 3) = W5 at hG ⊢
            generalize wr.heap.size = g at hG ⊢
            go_loopw [69] (fun x W => ∃ k : Nat, x = .int .i64 k ∧ k ≤ 8 ∧ RowKit.Hid (StG w W p mb q g (.cells numsC 3 (0, 0)))) (fun x _ => 8 - (vInt x).toNat)
            case atStart => exact ⟨0, rfl, by omega, hG⟩
            case round =>
              obtain ⟨k, rfl, hk, hG2⟩ := hrel
              clear hG
              by_cases hk8 : k < 8
              · obtain ⟨m, hm, hmr⟩ := hH k hk8
                have hcm := Go.cell_of_row _ g k _ _ _ hG2.out.2.2.1
                rw [hm] at hcm
                clear hm
                have hdo := does_sg hG2.out HB.out.1 HB.out.2.1 HB.out.2.2 4 ((j : Int) - 1) m hmr
                go_wp2_with (go_at_call 11; refine hdo.mono ?_)
                rintro e W6 ⟨rfl, hT6⟩
                replace hT6 := Lib.hid hT6
                clear hcm hdo hG2
                have hdo := does_sg hT6.out HB.out.1 HB.out.2.1 HB.out.2.2 5 ((j : Int) - 1) m hmr
                go_wp2_with (go_at_call 11; refine hdo.mono ?_)
                rintro e W7 ⟨rfl, hT7⟩
                replace hT7 := Lib.hid hT7
                go_wp2
                go_roundw
                case rel => exact ⟨k + 1, by go_num, by omega, hT7⟩
                case measure => simp [vInt]; omega
              · obtain rfl : k = 8 := by omega
                have hT8 := Lib.hid hG2.out.st
                go_wp2
                go_roundw
                case rel => exact ⟨j + 1, by go_num, by omega, hT8⟩
                case measure => simp [vInt]; omega
          · obtain rfl : j = n + 2 := by omega
            have hle : decide (((n + 2 : Nat) : Int) - 1 ≤ (n : Int)) = false := decide_eq_false (by omega)
            have hs2 := hst2.out.2
            clear hst2
            go_wp2_with fail
            refine (known20 _).mono ?_
            rintro e W8 ⟨rfl, s8⟩
            go_wp2
            go_ret
            exact ⟨rfl, hs2.trans s8⟩
  · go_wp2
    go_loopw [10] (fun x W => ∃ k : Nat, x = .int .i64 k ∧ k ≤ N ∧ RowKit.Hid (StW w W p mb q)) (fun x _ => N - (vInt x).toNat)
    case atStart => exact ⟨0, rfl, by omega, HT⟩
    case round =>
      obtain ⟨k, rfl, hk, hst⟩ := hrel
      clear HT
      by_cases hlt : k < N
      · obtain ⟨b1, o1, rfl, hcell, hz0, hz1⟩ := hbs.out k hlt
        replace hcell := hst.out.2.cell hcell
        obtain ⟨z, hz⟩ : ∃ z, z = bs.getD k 0 := ⟨_, rfl⟩
        rw [← hz] at hcell hz0 hz1
        clear hz
        have hw1 := IntWalk.i64_in z (by omega)
        have hn0 : ((n : Int) == 0) = false := beq_eq_false_iff_ne.2 (by omega)
        obtain ⟨r, hrem, hr0, hr1⟩ : ∃ r, Int.tmod z (n : Int) = r ∧ 0 ≤ r ∧ r ≤ 255 := ⟨_, rfl, Int.tmod_nonneg _ hz0, by
          rw [Int.tmod_eq_emod_of_nonneg hz0]
          have h1 := Int.emod_lt_of_pos z (show (0 : Int) < n by omega)
          omega⟩
        have hw2 := IntWalk.i64_in r (by omega)
        have hdo := does_st hst.out HB.out.1 HB.out.2.1 HB.out.2.2 0 r 0 (by omega)
        go_wp2_with (go_at_call 11; refine hdo.mono ?_)
        rintro e W3 ⟨rfl, hT3⟩
        replace hT3 := Lib.hid hT3
        go_wp2
        go_roundw
        case rel => exact ⟨k + 1, by go_num, by omega, hT3⟩
        case measure => simp [vInt]; omega
      · obtain rfl : k = N := by omega
        go_wp2
        go_loopw [11] (fun x W => ∃ j : Nat, x = .int .i64 ((j : Int) - 1) ∧ j ≤ n + 2 ∧ RowKit.Hid (StW w W p mb q)) (fun x _ => n + 2 - (vInt x + 1).toNat)
        case atStart => exact ⟨0, rfl, by omega, hst⟩
        case round =>
          obtain ⟨j, rfl, hj, hst2⟩ := hrel
          clear hst
          by_cases hjn : j < n + 2
          · have hle : decide ((j : Int) - 1 ≤ (n : Int)) = true := decide_eq_true (by omega)
            have hG := Lib.hid (hst2.out.beside numsC 3)
            clear hst2
            go_wp2
            generalize wr.alloc (.cells numsC 3) = W5 at hG ⊢
            generalize wr.heap.size = g at hG ⊢
            go_loopw [69] (fun x W => ∃ k : Nat, x = .int .i64 k ∧ k ≤ 8 ∧ RowKit.Hid (StG w W p mb q g (.cells numsC 3 (0, 0)))) (fun x _ => 8 - (vInt x).toNat)
            case atStart => exact ⟨0, rfl, by omega, hG⟩
            case round =>
              obtain ⟨k, rfl, hk, hG2⟩ := hrel
              clear hG
              by_cases hk8 : k < 8
              · obtain ⟨m, hm, hmr⟩ := hH k hk8
                have hcm := Go.cell_of_row _ g k _ _ _ hG2.out.2.2.1
                rw [hm] at hcm
                clear hm
                have hdo := does_sg hG2.out HB.out.1 HB.out.2.1 HB.out.2.2 4 ((j : Int) - 1) m hmr
                go_wp2_with (go_at_call 11; refine hdo.mono ?_)
                rintro e W6 ⟨rfl, hT6⟩
                replace hT6 := Lib.hid hT6
                clear hcm hdo hG2
                have hdo := does_sg hT6.out HB.out.1 HB.out.2.1 HB.out.2.2 5 ((j : Int) - 1) m hmr
                go_wp2_with (go_at_call 11; refine hdo.mono ?_)
                rintro e W7 ⟨rfl, hT7⟩
                replace hT7 := Lib.hid hT7
                go_wp2
                go_roundw
                case rel => exact ⟨k + 1, by go_num, by omega, hT7⟩
                case measure => simp [vInt]; omega
              · obtain rfl : k = 8 := by omega
                have hT8 := Lib.hid hG2.out.st
                go_wp2
                go_roundw
                case rel => exact ⟨j + 1, by go_num, by omega, hT8⟩
                case measure => simp [vInt]; omega
          · obtain rfl : j = n + 2 := by omega
            have hle : decide (((n + 2 : Nat) : Int) - 1 ≤ (n : Int)) = false := decide_eq_false (by omega)
            have hs2 := hst2.out.2
            clear hst2
            go_wp2_with fail
            refine (known20 _).mono ?_
            rintro e W8 ⟨rfl, s8⟩
            go_wp2
            go_ret
            exact ⟨rfl, hs2.trans s8⟩

set_option maxRecDepth 100000 in
theorem contract (H : Type) (enc : TypeId × Value → H) (W : World) (base : Nat) (args : Array Value) (ds gs : List (DataW H)) (before : List MemPlace)
    (hval : ∀ (j : Nat) t v, Try.f3.params[j]? = some t → args[j]? = some v → Value.okWide Try.prog W .any base t v)
    (hW : DataW.Whole enc Try.prog Try.f3.params.toList Rows.tabsWalksSpec.vars false W args.toList ds gs before) :
    Calls Try.prog 3 args W fun e W' => ∃ v, e = .returned v ∧ Rows.tabsWalksSpec.post enc Try.prog Try.f3 false true false false W args v W' := by
  have hW' := hW
  obtain ⟨p, q, hA0, hV, rfl, hfz, hnd⟩ := hW
  have hA : DataW.TrodAll enc Try.prog W 0 (fun _ => true) true Try.f3.params.toList args.toList ds p := hA0
  rw [Try.params3] at hA hval
  obtain ⟨v0, vs0, d0, ds0, p0, q0, hargs, rfl, rfl, h0, r0⟩ := trodAll_cons hA
  obtain ⟨v1, vs1, d1, ds1, p1, q1, rfl, rfl, rfl, h1, r1⟩ := trodAll_cons r0
  obtain ⟨v2, vs2, d2, ds2, p2, q2, rfl, rfl, rfl, h2, r2⟩ := trodAll_cons r1
  obtain ⟨rfl, rfl, rfl⟩ := trodAll_nil r2
  obtain rfl : args = #[v0, v1, v2] := by cases args; simp_all
  obtain ⟨nc, rfl, rfl, rfl, wc⟩ := open_int Try.underlying3 (hval 0 3 v0 rfl rfl) h0
  obtain ⟨ass, xs⟩ := open_bytes (hval 1 22 v1 rfl rfl) h1
  obtain ⟨bal, rfl, rfl, rfl⟩ := open_bool Try.underlying4 (hval 2 4 v2 rfl rfl) h2
  have xc : -9223372036854775808 ≤ nc ∧ nc ≤ 9223372036854775807 := by simp [Lit.wf, IntKind.min, IntKind.max, IntKind.signed, IntKind.bits] at wc; omega
  refine (walk nc _ ass bal W xc xs).mono fun e W' ⟨he, hs⟩ => ?_
  subst he
  exact ⟨_, rfl, law_post (tb := 4) laidOut (by
    rw [Try.params3]; intro t ht
    simp only [List.mem_cons, List.not_mem_nil, or_false] at ht
    rcases ht with rfl | rfl | rfl <;> exact ⟨by kernel_rfl, of_decide_eq_true (by kernel_rfl)⟩) hW' rfl (fun ds hl => by
    rw [Try.params3] at hl
    match ds, hl with
    | [_, _, _], _ => rfl) (by kernel_rfl) Try.underlying4 hs⟩

set_option maxRecDepth 100000 in
theorem lifted (os : Os) (started : os.Started) (H : Type) (enc : TypeId × Value → H) :
    ReturnsInHanded {} Try.checked os 3 .any (Rows.tabsWalksSpec.pre6 enc Try.prog Try.f3 Rows.tabsWalksRow.domain false) (Rows.tabsWalksSpec.post enc Try.prog Try.f3 false true false false) := by
  refine returnsInHanded_of_change (C := Try.checked) ownK started (by kernel_rfl) Try.func3
    (ChangeSpec.witness6 (enc := enc) (C := Try.checked) false ⟨#[], #[.int .i64 0, .slice none 0 0, .bool false], []⟩ 8 (by kernel_rfl) (by kernel_rfl) (by kernel_rfl) (by kernel_rfl)) ?_
  intro W base args ds gs before hval0 hW _ _
  exact contract H enc W base args ds gs before hval0 hW

theorem proved : Rows.TabsWalksSaid :=
  OpenClaim.holds_of_wide 3 Try.f3 rfl rfl rfl rfl rfl rfl rfl ⟨rfl, rfl, rfl, rfl, rfl⟩ rfl rfl rfl rfl rfl (by kernel_rfl) Try.func3 (by kernel_rfl)
    (of_decide_eq_true (by kernel_rfl)) (by unfold Func.isWrapper; first | (rw [if_pos (by decide +kernel)]; kernel_rfl) | (rw [if_neg (by decide +kernel)]; exact ⟨rfl, rfl⟩))
    (fun os started H enc _ => lifted os started H enc)
end tabsWalks
end Go.Proofs.Ytdblmoaimghplaa
