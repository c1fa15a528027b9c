/- The theorem of stage 7. No condition. -/
import Derived.Test.YtfeoejpbmpdkaaaDoorThere
import Derived.IntWalk
namespace Go.Proofs.YtfeoejpbmpdkaaaDoor
set_option linter.unusedVariables false
set_option linter.unusedSimpArgs false
open Go.RowKit

theorem uni_all : ((List.range 60).all fun k => lnOk [one (1024 + (k : Nat))]) = true := by kernel_rfl
theorem uni_ok (k : Nat) (h : k < 60) : lnOk [one (1024 + (k : Int))] = true := by
  have h1 := uni_all
  rw [List.all_eq_true] at h1
  exact h1 k (List.mem_range.2 h)

set_option maxRecDepth 1000000 in
set_option maxHeartbeats 4000000 in
theorem sheetHolds_out (a : Int) (v : Value) (bs : List Int) (w : World) (ht : Tabs w) (hv : RdBs w v bs) (h : decide (a < 1) = true ∨ (decide (a < 1) = false ∧ decide (a > 12) = true) ∨ (decide (a < 1) = false ∧ decide (a > 12) = false ∧ decide ((bs.length : Int) > 60) = true)) :
    Calls Tryd.prog 4 #[.int .u8 a, v] w fun e w' => e = .returned (.bool true) ∧ Sees w w' := by
  have Ht := Lib.hid ht
  obtain ⟨ao, cap, rfl, _⟩ := hv
  clear ht
  rcases h with h1 | ⟨h1, h2⟩ | ⟨h1, h2, h3⟩
  all_goals
    go_enter Tryd.func4, Tryd.ntmps4
    go_wp2_with fail
    refine (known07 w Ht.out).mono ?_
    rintro e w1 ⟨rfl, hs⟩
    go_wp2
    go_ret
    exact ⟨rfl, hs⟩

/-- What stands at the head of a round. -/
def HoldR (w w1 : World) (p : Nat) (most : Nat) (W : World) (v : Value) : Prop :=
  ∃ (F : Nat → Prop) (gone : Nat) (ls : List Ln) (a : Option Addr) (c : Nat), v = .slice a ls.length c ∧ ls.length ≤ c ∧ PgF w1 F W p most gone ls ∧ (∀ b, F b → b < W.heap.size) ∧ RdL (fun b => ¬ F b) W v ls ∧ Sees w W

set_option maxRecDepth 1000000 in
set_option maxHeartbeats 8000000 in
theorem sheetHolds_in (n : Nat) (v : Value) (bs : List Int) (w : World) (ht : Tabs w) (hv : RdBs w v bs) (h1 : 1 ≤ n) (h2 : n ≤ 12) (h3 : bs.length ≤ 60) :
    Calls Tryd.prog 4 #[.int .u8 n, v] w fun e w' => e = .returned (.bool true) ∧ Sees w w' := by
  have Ht := Lib.hid ht
  have Hv := Lib.hid hv
  obtain ⟨ao, cap, rfl, hb⟩ := hv
  have Hb := Lib.hid hb
  clear ht hb
  have d1 : decide ((n : Int) < 1) = false := decide_eq_false (by omega)
  have d2 : decide ((n : Int) > 12) = false := decide_eq_false (by omega)
  have d3 : decide ((bs.length : Int) > 60) = false := decide_eq_false (by omega)
  obtain ⟨m, hm⟩ : ∃ m, m = bs.length := ⟨_, rfl⟩
  rw [← hm] at d3 h3 ⊢
  have Hm := Lib.hid hm
  clear hm
  go_enter Tryd.func4, Tryd.ntmps4
  go_wp2_with fail
  refine (new_pg (n : Int) w (by omega) (by omega)).mono ?_
  rintro e w1 ⟨rfl, P⟩
  have P1 := Lib.hid (PgF.of_new n P)
  clear P
  go_wp2_with fail
  go_loopw [7, 41] (fun v i W => ∃ k : Nat, k ≤ m ∧ i = .int .i64 k ∧ HoldR w w w.heap.size n W v) (fun _ i _ => m - (intOf i).toNat)
  case atStart => exact ⟨0, by omega, rfl, _, 0, [], none, 0, rfl, Nat.le_refl _, P1.out, fun b hb => hb.2, RdL.nil _ _, P1.out.see⟩
  case round =>
    obtain ⟨k, hk, rfl, F, gone, ls, tao, tcap, rfl, htc, hP, hF, hR, hS⟩ := hrel
    have H := Lib.hid hP
    have HF := Lib.hid hF
    have HR := Lib.hid hR
    clear hR
    by_cases hlt : k < m
    · obtain ⟨z, hz⟩ : ∃ z, bs[k]? = some z := ⟨_, List.getElem?_eq_getElem (by rw [← Hm.out]; exact hlt)⟩
      obtain ⟨bb, bo, rfl, q0, q1, q2⟩ := Hb.out k z hz
      have Q0 := Lib.hid q0
      have q0 := hS.cell q0
      have hroom := hP.room
      have hgone := hP.gone0
      obtain ⟨nl, hnl⟩ : ∃ nl, nl = ls.length := ⟨_, rfl⟩
      rw [← hnl] at hroom HR htc ⊢
      have Htc := Lib.hid htc
      have Hnl := Lib.hid hnl
      have Hz := Lib.hid hz
      clear hz hP hF hS hnl
      go_wp2_with fail
      refine (H.out.toS.roomIs ((n : Int) - gone - nl) (by rw [Hnl.out])).mono ?_
      rintro e W1 ⟨rfl, hs⟩
      have H1 := Lib.hid (H.out.sees hs)
      have HR1 := Lib.hid (HR.out.sees hs)
      have hz1 := Lib.hid hs.size
      clear hs q0
      by_cases hful : (n : Int) - gone - nl = 0
      · have hfb : ((n : Int) - gone - nl == 0) = true := beq_iff_eq.2 hful
        have Full := Lib.hid hful
        clear hful
        by_cases hr2 : z % 4 = 2
        · have t2 : (z % 4 == 2) = true := beq_iff_eq.2 hr2
          clear hr2
          obtain ⟨d, hd⟩ : ∃ d : Nat, z / 4 % 4 = d := Int.eq_ofNat_of_zero_le (Int.emod_nonneg _ (by omega))
          have hd4 : d < 4 := by omega
          by_cases hdl : d ≤ nl
          · have t3 : decide ((d : Int) ≤ nl) = true := decide_eq_true (by omega)
            go_wp2_with fail
            simp only [hd]
            refine (H1.out.drop d (by rw [← Hnl.out]; exact hdl)).mono ?_
            rintro e X ⟨rfl, hP2, hk2⟩
            obtain ⟨F2, hF2⟩ : ∃ F2 : Nat → Prop, F2 = fun b => F b ∨ W1.heap.size ≤ b := ⟨_, rfl⟩
            rw [← hF2, ← Int.natCast_add] at hP2
            have T := Lib.hid hP2
            have HR2 := Lib.hid ((HR1.out.mono (G := fun b => ¬ F b ∧ b < W1.heap.size) (fun b hb h => ⟨h, hb⟩)).keeps hk2 (fun b hb => hb.1))
            have hnF : Hid (∀ b : Nat, ¬ F b ∧ b < W1.heap.size → ¬ F2 b) := Lib.hid (by subst hF2; intro b h h2; rcases h2 with h2 | h2; exact h.1 h2; exact absurd h.2 (by omega))
            clear hP2 hk2 hd hF2
            by_cases hcd : tcap = d
            · have TR : Hid (RdL (fun b => ¬ F2 b) X (.slice tao (nl - d) 0) (ls.drop d)) := Lib.hid (by
                have hz : nl - d = 0 := by have := Htc.out; omega
                rw [hz]
                exact (HR2.out.mono (fun b _ h => hnF.out b h)).dropNil d (by rw [← Hnl.out]; have := Htc.out; omega) tao 0)
              have TL : Hid (nl - d = (ls.drop d).length) := Lib.hid (by rw [List.length_drop, Hnl.out])
              have TC : Hid (nl - d ≤ 0) := Lib.hid (by have := Htc.out; omega)
              clear HR2 hnF
              go_wp2_with fail
              generalize hg2 : gone + d = g2 at *
              have G2 : Hid (g2 = gone + d) := Lib.hid hg2.symm
              generalize hn2 : nl - d = nl2 at *
              have N2 : Hid (nl2 = nl - d) := Lib.hid hn2.symm
              clear hg2 hn2
              generalize ls.drop d = ls2 at *
              have htr := T.out.room
              rw [← TL.out] at htr
              obtain ⟨c, hc⟩ : ∃ c : Int, c = (n : Int) - g2 - nl2 := ⟨_, rfl⟩
              have c0 : 0 ≤ c := by omega
              have c1 : c ≤ 12 := by omega
              have hg0 : (0 : Int) ≤ g2 := by omega
              have hg1 : (g2 : Int) ≤ 12 := by omega
              have hn0 : (nl2 : Int) ≤ 12 := by omega
              have hs0 : (nl2 : Int) + c + g2 = (n : Int) := by omega
              have Hc := Lib.hid hc
              clear hc htr
              refine (T.out.toS.roomIs 0 (by rw [← TL.out]; have := Full.out; have := G2.out; have := N2.out; omega)).mono ?_
              rintro e Y0 ⟨rfl, hs⟩
              have J0 := Lib.hid (T.out.sees hs)
              have K0 := Lib.hid hs
              clear hs
              go_wp2_with fail
              refine (J0.out.toS.lenIs (nl2 : Int) (by rw [TL.out])).mono ?_
              rintro e Y1 ⟨rfl, hs⟩
              have J1 := Lib.hid (J0.out.sees hs)
              have K1 := Lib.hid (K0.out.trans hs)
              clear hs
              go_wp2_with fail
              refine (J1.out.toS.roomIs c (by rw [Hc.out, TL.out])).mono ?_
              rintro e Y2 ⟨rfl, hs⟩
              have J2 := Lib.hid (J1.out.sees hs)
              have K2 := Lib.hid (K1.out.trans hs)
              clear hs
              go_wp2_with fail
              refine (J2.out.toS.goneIs (g2 : Int) rfl).mono ?_
              rintro e Y3 ⟨rfl, hs⟩
              have J3 := Lib.hid (J2.out.sees hs)
              have K3 := Lib.hid (K2.out.trans hs)
              clear hs
              go_wp2_with fail
              refine J3.out.toS.pgcap.mono ?_
              rintro e Y4 ⟨rfl, hs⟩
              have J4 := Lib.hid (J3.out.sees hs)
              have K4 := Lib.hid (K3.out.trans hs)
              clear hs
              go_wp2_with fail
              refine J4.out.toS.pgcap.mono ?_
              rintro e Y5 ⟨rfl, hs⟩
              have J5 := Lib.hid (J4.out.sees hs)
              have K5 := Lib.hid (K4.out.trans hs)
              clear hs
              go_wp2_with fail
              refine J5.out.toS.lines.mono ?_
              rintro e Y6 ⟨lv, rfl, ho, hs⟩
              have J6 := Lib.hid (J5.out.sees hs)
              have K6 := Lib.hid (K5.out.trans hs)
              have Ho := Lib.hid ho.rdl
              clear hs ho
              go_wp2_with fail
              refine (all_true _ _ _ _ _ _ _ Ho.out (TR.out.sees K6.out) (by have := J6.out.toS.len; omega) J6.out.toS.lenc rfl).mono ?_
              rintro e Y7 ⟨rfl, hs⟩
              have J7 := Lib.hid (J6.out.sees hs)
              have K7 := Lib.hid (K6.out.trans hs)
              clear hs Ho
              go_wp2
              refine ⟨⟨k + 1, by omega, by simp, fun b => F2 b ∧ b < X.heap.size, g2, ls2, tao, 0, by rw [← TL.out], by rw [← TL.out]; exact TC.out, T.out.cut.sees K7.out, fun b hb => Nat.lt_of_lt_of_le hb.2 K7.out.size, ?_, T.out.see.trans K7.out⟩, by simp [intOf]; omega⟩
              exact (TR.out.sees K7.out).mono (fun b _ hb hx => hb hx.1)
            · have TR : Hid (RdL (fun b => ¬ F2 b) X (.slice (Option.map (fun x => x.add (d * 2)) tao) (nl - d) (tcap - d)) (ls.drop d)) := Lib.hid (by
                exact (HR2.out.mono (fun b _ h => hnF.out b h)).cutAt d (by rw [← Hnl.out]; exact hdl) (tcap - d))
              have TL : Hid (nl - d = (ls.drop d).length) := Lib.hid (by rw [List.length_drop, Hnl.out])
              have TC : Hid (nl - d ≤ (tcap - d)) := Lib.hid (by have := Htc.out; omega)
              clear HR2 hnF
              go_wp2_with fail
              generalize hg2 : gone + d = g2 at *
              have G2 : Hid (g2 = gone + d) := Lib.hid hg2.symm
              generalize hn2 : nl - d = nl2 at *
              have N2 : Hid (nl2 = nl - d) := Lib.hid hn2.symm
              clear hg2 hn2
              generalize ls.drop d = ls2 at *
              have htr := T.out.room
              rw [← TL.out] at htr
              obtain ⟨c, hc⟩ : ∃ c : Int, c = (n : Int) - g2 - nl2 := ⟨_, rfl⟩
              have c0 : 0 ≤ c := by omega
              have c1 : c ≤ 12 := by omega
              have hg0 : (0 : Int) ≤ g2 := by omega
              have hg1 : (g2 : Int) ≤ 12 := by omega
              have hn0 : (nl2 : Int) ≤ 12 := by omega
              have hs0 : (nl2 : Int) + c + g2 = (n : Int) := by omega
              have Hc := Lib.hid hc
              clear hc htr
              refine (T.out.toS.roomIs 0 (by rw [← TL.out]; have := Full.out; have := G2.out; have := N2.out; omega)).mono ?_
              rintro e Y0 ⟨rfl, hs⟩
              have J0 := Lib.hid (T.out.sees hs)
              have K0 := Lib.hid hs
              clear hs
              go_wp2_with fail
              refine (J0.out.toS.lenIs (nl2 : Int) (by rw [TL.out])).mono ?_
              rintro e Y1 ⟨rfl, hs⟩
              have J1 := Lib.hid (J0.out.sees hs)
              have K1 := Lib.hid (K0.out.trans hs)
              clear hs
              go_wp2_with fail
              refine (J1.out.toS.roomIs c (by rw [Hc.out, TL.out])).mono ?_
              rintro e Y2 ⟨rfl, hs⟩
              have J2 := Lib.hid (J1.out.sees hs)
              have K2 := Lib.hid (K1.out.trans hs)
              clear hs
              go_wp2_with fail
              refine (J2.out.toS.goneIs (g2 : Int) rfl).mono ?_
              rintro e Y3 ⟨rfl, hs⟩
              have J3 := Lib.hid (J2.out.sees hs)
              have K3 := Lib.hid (K2.out.trans hs)
              clear hs
              go_wp2_with fail
              refine J3.out.toS.pgcap.mono ?_
              rintro e Y4 ⟨rfl, hs⟩
              have J4 := Lib.hid (J3.out.sees hs)
              have K4 := Lib.hid (K3.out.trans hs)
              clear hs
              go_wp2_with fail
              refine J4.out.toS.pgcap.mono ?_
              rintro e Y5 ⟨rfl, hs⟩
              have J5 := Lib.hid (J4.out.sees hs)
              have K5 := Lib.hid (K4.out.trans hs)
              clear hs
              go_wp2_with fail
              refine J5.out.toS.lines.mono ?_
              rintro e Y6 ⟨lv, rfl, ho, hs⟩
              have J6 := Lib.hid (J5.out.sees hs)
              have K6 := Lib.hid (K5.out.trans hs)
              have Ho := Lib.hid ho.rdl
              clear hs ho
              go_wp2_with fail
              refine (all_true _ _ _ _ _ _ _ Ho.out (TR.out.sees K6.out) (by have := J6.out.toS.len; omega) J6.out.toS.lenc rfl).mono ?_
              rintro e Y7 ⟨rfl, hs⟩
              have J7 := Lib.hid (J6.out.sees hs)
              have K7 := Lib.hid (K6.out.trans hs)
              clear hs Ho
              go_wp2
              refine ⟨⟨k + 1, by omega, by simp, fun b => F2 b ∧ b < X.heap.size, g2, ls2, (Option.map (fun x => x.add (d * 2)) tao), (tcap - d), by rw [← TL.out], by rw [← TL.out]; exact TC.out, T.out.cut.sees K7.out, fun b hb => Nat.lt_of_lt_of_le hb.2 K7.out.size, ?_, T.out.see.trans K7.out⟩, by simp [intOf]; omega⟩
              exact (TR.out.sees K7.out).mono (fun b _ hb hx => hb hx.1)
          · have t3 : decide ((d : Int) ≤ nl) = false := decide_eq_false (by omega)
            go_wp2_with fail
            simp only [hd]
            refine (H1.out.toS.drop_range (d : Int) (.inr (by rw [← Hnl.out]; omega))).mono ?_
            rintro e X ⟨rfl, hs⟩
            have T := Lib.hid (H1.out.sees hs)
            have TR := Lib.hid (HR1.out.sees hs)
            have TL := Hnl
            have TC := Htc
            clear hs hd
            go_wp2_with fail
            generalize gone = g2 at *
            generalize nl = nl2 at *
            generalize ls = ls2 at *
            generalize F = F2 at *
            have htr := T.out.room
            rw [← TL.out] at htr
            obtain ⟨c, hc⟩ : ∃ c : Int, c = (n : Int) - g2 - nl2 := ⟨_, rfl⟩
            have c0 : 0 ≤ c := by omega
            have c1 : c ≤ 12 := by omega
            have hg0 : (0 : Int) ≤ g2 := by omega
            have hg1 : (g2 : Int) ≤ 12 := by omega
            have hn0 : (nl2 : Int) ≤ 12 := by omega
            have hs0 : (nl2 : Int) + c + g2 = (n : Int) := by omega
            have Hc := Lib.hid hc
            clear hc htr
            refine (T.out.toS.roomIs 0 (by rw [← TL.out]; have := Full.out; omega)).mono ?_
            rintro e Y0 ⟨rfl, hs⟩
            have J0 := Lib.hid (T.out.sees hs)
            have K0 := Lib.hid hs
            clear hs
            go_wp2_with fail
            refine (J0.out.toS.lenIs (nl2 : Int) (by rw [TL.out])).mono ?_
            rintro e Y1 ⟨rfl, hs⟩
            have J1 := Lib.hid (J0.out.sees hs)
            have K1 := Lib.hid (K0.out.trans hs)
            clear hs
            go_wp2_with fail
            refine (J1.out.toS.roomIs c (by rw [Hc.out, TL.out])).mono ?_
            rintro e Y2 ⟨rfl, hs⟩
            have J2 := Lib.hid (J1.out.sees hs)
            have K2 := Lib.hid (K1.out.trans hs)
            clear hs
            go_wp2_with fail
            refine (J2.out.toS.goneIs (g2 : Int) rfl).mono ?_
            rintro e Y3 ⟨rfl, hs⟩
            have J3 := Lib.hid (J2.out.sees hs)
            have K3 := Lib.hid (K2.out.trans hs)
            clear hs
            go_wp2_with fail
            refine J3.out.toS.pgcap.mono ?_
            rintro e Y4 ⟨rfl, hs⟩
            have J4 := Lib.hid (J3.out.sees hs)
            have K4 := Lib.hid (K3.out.trans hs)
            clear hs
            go_wp2_with fail
            refine J4.out.toS.pgcap.mono ?_
            rintro e Y5 ⟨rfl, hs⟩
            have J5 := Lib.hid (J4.out.sees hs)
            have K5 := Lib.hid (K4.out.trans hs)
            clear hs
            go_wp2_with fail
            refine J5.out.toS.lines.mono ?_
            rintro e Y6 ⟨lv, rfl, ho, hs⟩
            have J6 := Lib.hid (J5.out.sees hs)
            have K6 := Lib.hid (K5.out.trans hs)
            have Ho := Lib.hid ho.rdl
            clear hs ho
            go_wp2_with fail
            refine (all_true _ _ _ _ _ _ _ Ho.out (TR.out.sees K6.out) (by have := J6.out.toS.len; omega) J6.out.toS.lenc rfl).mono ?_
            rintro e Y7 ⟨rfl, hs⟩
            have J7 := Lib.hid (J6.out.sees hs)
            have K7 := Lib.hid (K6.out.trans hs)
            clear hs Ho
            go_wp2
            refine ⟨⟨k + 1, by omega, by simp, fun b => F2 b ∧ b < X.heap.size, g2, ls2, tao, tcap, by rw [← TL.out], by rw [← TL.out]; exact TC.out, T.out.cut.sees K7.out, fun b hb => Nat.lt_of_lt_of_le hb.2 K7.out.size, ?_, T.out.see.trans K7.out⟩, by simp [intOf]; omega⟩
            exact (TR.out.sees K7.out).mono (fun b _ hb hx => hb hx.1)
        · have t2 : (z % 4 == 2) = false := beq_eq_false_iff_ne.2 hr2
          clear hr2
          by_cases hr3 : z % 4 = 3
          · have t3 : (z % 4 == 3) = true := beq_iff_eq.2 hr3
            clear hr3
            by_cases hn0 : nl = 0
            · have hz : ls = [] := List.eq_nil_of_length_eq_zero (by rw [← Hnl.out]; exact hn0)
              subst hz
              have t4 : decide ((nl : Int) > 0) = false := decide_eq_false (by omega)
              have t5 : decide (0 < nl) = false := decide_eq_false (by omega)
              have t6 : ¬ 0 < nl := by omega
              have HN := Lib.hid hn0
              clear hn0
              go_wp2_with fail
              refine (H1.out.toS.pop_none).mono ?_
              rintro e W2 ⟨rfl, hs⟩
              have H2 := Lib.hid (H1.out.sees hs)
              have HR2 := Lib.hid (HR1.out.sees hs)
              clear hs
              go_wp2_with fail
              refine calls_world (fun X hX => ?_)
              have hs : Sees W2 X := by subst hX; exact (Sees.refl W2).alloc _
              have T := Lib.hid (H2.out.sees hs)
              have TR := Lib.hid (HR2.out.sees hs)
              have TL := Hnl
              have TC := Htc
              clear hs hX
              obtain ⟨ls2, hls2⟩ : ∃ ls2 : List Ln, ls2 = [] := ⟨_, rfl⟩
              rw [← hls2] at T TR TL
              clear hls2
              generalize gone = g2 at *
              generalize nl = nl2 at *
              generalize F = F2 at *
              have htr := T.out.room
              rw [← TL.out] at htr
              obtain ⟨c, hc⟩ : ∃ c : Int, c = (n : Int) - g2 - nl2 := ⟨_, rfl⟩
              have c0 : 0 ≤ c := by omega
              have c1 : c ≤ 12 := by omega
              have hg0 : (0 : Int) ≤ g2 := by omega
              have hg1 : (g2 : Int) ≤ 12 := by omega
              have hn0 : (nl2 : Int) ≤ 12 := by omega
              have hs0 : (nl2 : Int) + c + g2 = (n : Int) := by omega
              have Hc := Lib.hid hc
              clear hc htr
              refine (T.out.toS.roomIs 0 (by rw [← TL.out]; have := Full.out; omega)).mono ?_
              rintro e Y0 ⟨rfl, hs⟩
              have J0 := Lib.hid (T.out.sees hs)
              have K0 := Lib.hid hs
              clear hs
              go_wp2_with fail
              refine (J0.out.toS.lenIs (nl2 : Int) (by rw [TL.out])).mono ?_
              rintro e Y1 ⟨rfl, hs⟩
              have J1 := Lib.hid (J0.out.sees hs)
              have K1 := Lib.hid (K0.out.trans hs)
              clear hs
              go_wp2_with fail
              refine (J1.out.toS.roomIs c (by rw [Hc.out, TL.out])).mono ?_
              rintro e Y2 ⟨rfl, hs⟩
              have J2 := Lib.hid (J1.out.sees hs)
              have K2 := Lib.hid (K1.out.trans hs)
              clear hs
              go_wp2_with fail
              refine (J2.out.toS.goneIs (g2 : Int) rfl).mono ?_
              rintro e Y3 ⟨rfl, hs⟩
              have J3 := Lib.hid (J2.out.sees hs)
              have K3 := Lib.hid (K2.out.trans hs)
              clear hs
              go_wp2_with fail
              refine J3.out.toS.pgcap.mono ?_
              rintro e Y4 ⟨rfl, hs⟩
              have J4 := Lib.hid (J3.out.sees hs)
              have K4 := Lib.hid (K3.out.trans hs)
              clear hs
              go_wp2_with fail
              refine J4.out.toS.pgcap.mono ?_
              rintro e Y5 ⟨rfl, hs⟩
              have J5 := Lib.hid (J4.out.sees hs)
              have K5 := Lib.hid (K4.out.trans hs)
              clear hs
              go_wp2_with fail
              refine J5.out.toS.lines.mono ?_
              rintro e Y6 ⟨lv, rfl, ho, hs⟩
              have J6 := Lib.hid (J5.out.sees hs)
              have K6 := Lib.hid (K5.out.trans hs)
              have Ho := Lib.hid ho.rdl
              clear hs ho
              go_wp2_with fail
              refine (all_true _ _ _ _ _ _ _ Ho.out (TR.out.sees K6.out) (by have := J6.out.toS.len; omega) J6.out.toS.lenc rfl).mono ?_
              rintro e Y7 ⟨rfl, hs⟩
              have J7 := Lib.hid (J6.out.sees hs)
              have K7 := Lib.hid (K6.out.trans hs)
              clear hs Ho
              go_wp2
              refine ⟨⟨k + 1, by omega, by simp, fun b => F2 b ∧ b < X.heap.size, g2, ls2, tao, tcap, by rw [← TL.out], by rw [← TL.out]; exact TC.out, T.out.cut.sees K7.out, fun b hb => Nat.lt_of_lt_of_le hb.2 K7.out.size, ?_, T.out.see.trans K7.out⟩, by simp [intOf]; omega⟩
              exact (TR.out.sees K7.out).mono (fun b _ hb hx => hb hx.1)
            · have t4 : decide ((nl : Int) > 0) = true := decide_eq_true (by omega)
              obtain ⟨l0, l, hl⟩ : ∃ l0 l, ls = l0 ++ [l] := by
                rcases ls.eq_nil_or_concat with h | ⟨l0, l, h⟩
                · subst h; exact absurd Hnl.out hn0
                · exact ⟨l0, l, by simpa using h⟩
              subst hl
              obtain ⟨nl2, hnl2⟩ : ∃ nl2, nl = nl2 + 1 := ⟨nl - 1, by omega⟩
              subst hnl2
              have hnl0 : nl2 = l0.length := by have := Hnl.out; simp at this; omega
              have Hnl0 := Lib.hid hnl0
              have HN := Lib.hid hn0
              clear hn0 hnl0
              go_wp2_with fail
              refine (PgF.pop l H1.out).mono ?_
              rintro e W2 ⟨v', rfl, ho, hob, hP2, hk2⟩
              have H2 := Lib.hid hP2
              have Ho := Lib.hid ho.rdc
              obtain ⟨pa, pc, hv'⟩ := ho.slice
              have hpF := H1.out.page.1
              have HR2 := Lib.hid (HR1.out.keeps hk2 (fun b hb e => by subst e; exact hb hpF))
              clear hP2 ho hob hk2 hpF
              subst hv'
              have hll : l.cells.length ≤ 1000000 := H1.out.toS.lenc l (by simp)
              have Hll := Lib.hid hll
              clear hll
              obtain ⟨pn, hpn⟩ : ∃ pn, pn = l.cells.length := ⟨_, rfl⟩
              rw [← hpn] at Ho H2 ⊢
              have Hpn := Lib.hid hpn
              clear hpn
              go_wp2_with fail
              have hrl : ∃ lb lo sx, tao = some ⟨lb, lo, none⟩ ∧ W2.cell? ⟨lb, lo + nl2 * 2, none⟩ = some sx ∧ W2.cell? ⟨lb, lo + nl2 * 2 + 1, none⟩ = some (.bool l.soft) ∧ RdC (fun b => ¬ F b) W2 sx l.cells := by
                obtain ⟨ao', cp, e, hh⟩ := HR2.out
                simp only [Value.slice.injEq] at e
                obtain ⟨rfl, _, rfl⟩ := e
                obtain ⟨b, o, e2, _, hl⟩ := hh (by simp)
                obtain ⟨sv, g1, g2, g3⟩ := hl nl2 l (by rw [Hnl0.out]; simp)
                exact ⟨b, o, sv, e2, g1, g2, g3⟩
              obtain ⟨lb, lo, sx, hta, y1, y2, y3⟩ := hrl
              subst hta
              obtain ⟨sxa, sxc, esx, _⟩ := id y3
              rw [← Hpn.out] at esx
              have Y1 := Lib.hid y1
              have Y2 := Lib.hid y2
              have Y3 := Lib.hid y3
              clear y1 y2 y3
              subst esx
              refine wpFrom_go (by kernel_rfl) (by kernel_rfl) (fun hB W3 hs3 => ?_)
              have XL : LnAt W3 W2.heap.size (.slice pa pn pc) l.soft := (LnAt.new rfl).sees hs3
              have hs23 : Sees W2 W3 := ((Sees.refl W2).alloc _).trans hs3
              have HXL := Lib.hid XL
              have Hs23 := Lib.hid hs23
              clear XL hs23 hs3
              have hval : ∀ x v, (Spec.is x).val v = x := fun _ _ => rfl
              have hst : segStay (Sees W3) [.is (.agg #[.slice pa pn pc, .bool l.soft]), .is (.slice (some ⟨lb, lo, none⟩) (nl2 + 1) tcap), .is (.slice (some ⟨lb, lo, none⟩) (nl2 + 1) tcap), .is (.int .i64 ((nl2 : Int) + 1)), .is (.int .i64 (nl2 : Int)), .is (.pointer (some ⟨lb, lo + nl2 * 2, none⟩)), .is (.agg #[.slice sxa pn sxc, .bool l.soft]), .is (.bool true), .is (.bool false)] := trivial
              have hnl12 : nl2 ≤ 12 := by omega
              have hwr := IntWalk.i64_in (nl2 : Int) (by omega)
              have hlt2 : (nl2 : Int) < (nl2 : Int) + 1 := by omega
              refine wpFrom_any 9 _ hB (by kernel_rfl) rfl hst (by simp only [List.cons_append, List.nil_append, List.drop_succ_cons, List.drop_zero, List.take_succ_cons, List.take_zero, Nat.reduceSub]; rfl) ?_
              refine ⟨fun vs W hI hV => .inl ⟨by go_simp, .inl (by have q := (HXL.out.sees hI).c; obtain ⟨g0, g1⟩ := q; clear hI hV; go_simp)⟩, ?_⟩
              refine ⟨fun vs W hI hV => .inl ⟨by go_simp, .inl (by go_simp)⟩, ?_⟩
              refine ⟨fun vs W hI hV => .inl ⟨by go_simp, .inl (by go_simp)⟩, ?_⟩
              refine ⟨fun vs W hI hV => .inl ⟨by go_simp, .inl (by go_simp)⟩, ?_⟩
              refine ⟨fun vs W hI hV => .inl ⟨by go_simp, .inl (by go_simp)⟩, ?_⟩
              refine ⟨fun vs W hI hV => .inl ⟨by go_simp, .inl (by go_simp)⟩, ?_⟩
              refine ⟨fun vs W hI hV => .inl ⟨by go_simp, .inl (by have q0 := Sees.cell (Hs23.out.trans hI) Y1.out; have q1 := Sees.cell (Hs23.out.trans hI) Y2.out; clear hI hV; go_simp)⟩, ?_⟩
              refine ⟨fun vs W hI hV => .inl ⟨by clear hV; go_simp, .inr (.inr ⟨22, #[.agg #[.slice pa pn pc, .bool l.soft], .agg #[.slice sxa pn sxc, .bool l.soft]], by clear hI hV; go_simp, ?_⟩)⟩, ?_⟩
              · refine (sameLine_any _ _ l l W (Ho.out.rd.sees (Hs23.out.trans hI)) (Y3.out.rd.sees (Hs23.out.trans hI)) Hll.out).mono ?_
                rintro e w' ⟨rfl, hs⟩
                exact ⟨by simp, hs⟩
              refine ⟨fun vs W hI hV => .inl ⟨by go_simp, .inl (by go_simp)⟩, ?_⟩
              intro vs W4 hI4 hV4
              clear hV4 hst
              have H4 := Lib.hid (H2.out.sees (Hs23.out.trans hI4))
              have HR4 := Lib.hid (HR2.out.sees (Hs23.out.trans hI4))
              clear hI4 hlt2
              go_simp
              refine wpFrom_end rfl ?_
              go_wp2_with fail
              obtain ⟨F2, hF2⟩ : ∃ F2 : Nat → Prop, F2 = fun b => F b ∧ (Value.slice pa pn pc).ownBlock ≠ some b := ⟨_, rfl⟩
              rw [← hF2] at H4
              have T := H4
              have TR : Hid (RdL (fun b => ¬ F2 b) W4 (.slice (some ⟨lb, lo, none⟩) nl2 tcap) l0) := Lib.hid (by
                have h := HR4.out.takeAt nl2 (by rw [Hnl0.out]; simp) tcap
                rw [Hnl0.out, List.take_left' rfl] at h
                rw [Hnl0.out]
                exact h.mono (fun b _ h1 h2 => by subst hF2; exact h1 h2.1))
              have TL := Hnl0
              have TC : Hid (nl2 ≤ tcap) := Lib.hid (by have := Htc.out; omega)
              obtain ⟨X, hX⟩ : ∃ X, X = W4 := ⟨_, rfl⟩
              rw [← hX] at T TR ⊢
              clear hX hF2
              generalize gone = g2 at *
              generalize l0 = ls2 at *
              have htr := T.out.room
              rw [← TL.out] at htr
              obtain ⟨c, hc⟩ : ∃ c : Int, c = (n : Int) - g2 - nl2 := ⟨_, rfl⟩
              have c0 : 0 ≤ c := by omega
              have c1 : c ≤ 12 := by omega
              have hg0 : (0 : Int) ≤ g2 := by omega
              have hg1 : (g2 : Int) ≤ 12 := by omega
              have hn0 : (nl2 : Int) ≤ 12 := by omega
              have hs0 : (nl2 : Int) + c + g2 = (n : Int) := by omega
              have Hc := Lib.hid hc
              clear hc htr
              have J0 := T
              have K0 := Lib.hid (Sees.refl X)
              refine (J0.out.toS.lenIs (nl2 : Int) (by rw [TL.out])).mono ?_
              rintro e Y1 ⟨rfl, hs⟩
              have J1 := Lib.hid (J0.out.sees hs)
              have K1 := Lib.hid (K0.out.trans hs)
              clear hs
              go_wp2_with fail
              refine (J1.out.toS.roomIs c (by rw [Hc.out, TL.out])).mono ?_
              rintro e Y2 ⟨rfl, hs⟩
              have J2 := Lib.hid (J1.out.sees hs)
              have K2 := Lib.hid (K1.out.trans hs)
              clear hs
              go_wp2_with fail
              refine (J2.out.toS.goneIs (g2 : Int) rfl).mono ?_
              rintro e Y3 ⟨rfl, hs⟩
              have J3 := Lib.hid (J2.out.sees hs)
              have K3 := Lib.hid (K2.out.trans hs)
              clear hs
              go_wp2_with fail
              refine J3.out.toS.pgcap.mono ?_
              rintro e Y4 ⟨rfl, hs⟩
              have J4 := Lib.hid (J3.out.sees hs)
              have K4 := Lib.hid (K3.out.trans hs)
              clear hs
              go_wp2_with fail
              refine J4.out.toS.pgcap.mono ?_
              rintro e Y5 ⟨rfl, hs⟩
              have J5 := Lib.hid (J4.out.sees hs)
              have K5 := Lib.hid (K4.out.trans hs)
              clear hs
              go_wp2_with fail
              refine J5.out.toS.lines.mono ?_
              rintro e Y6 ⟨lv, rfl, ho, hs⟩
              have J6 := Lib.hid (J5.out.sees hs)
              have K6 := Lib.hid (K5.out.trans hs)
              have Ho := Lib.hid ho.rdl
              clear hs ho
              go_wp2_with fail
              refine (all_true _ _ _ _ _ _ _ Ho.out (TR.out.sees K6.out) (by have := J6.out.toS.len; omega) J6.out.toS.lenc rfl).mono ?_
              rintro e Y7 ⟨rfl, hs⟩
              have J7 := Lib.hid (J6.out.sees hs)
              have K7 := Lib.hid (K6.out.trans hs)
              clear hs Ho
              go_wp2
              refine ⟨⟨k + 1, by omega, by simp, fun b => F2 b ∧ b < X.heap.size, g2, ls2, (some ⟨lb, lo, none⟩), tcap, by rw [← TL.out], by rw [← TL.out]; exact TC.out, T.out.cut.sees K7.out, fun b hb => Nat.lt_of_lt_of_le hb.2 K7.out.size, ?_, T.out.see.trans K7.out⟩, by simp [intOf]; omega⟩
              exact (TR.out.sees K7.out).mono (fun b _ hb hx => hb hx.1)
          · have t3 : (z % 4 == 3) = false := beq_eq_false_iff_ne.2 hr3
            clear hr3
            have hk60 : k < 60 := by omega
            go_wp2_with fail
            refine (text_any _ _).mono ?_
            rintro e W2 ⟨v', rfl, ho, hs⟩
            have H2 := Lib.hid (H1.out.sees hs)
            have HR2 := Lib.hid (HR1.out.sees hs)
            obtain ⟨xa, xc, rfl⟩ := ho.slice
            have Ho := Lib.hid ho
            have hz2 := Lib.hid hs.size
            clear ho hs
            go_wp2_with fail
            refine calls_world (fun W3 hW3 => ?_)
            have XL : LnAt W3 W2.heap.size (.slice xa 1 xc) false := by subst hW3; exact LnAt.new rfl
            have hs23 : Sees W2 W3 := by subst hW3; exact (Sees.refl W2).alloc _
            have H3 := Lib.hid (H2.out.sees hs23)
            have HR3 := Lib.hid (HR2.out.sees hs23)
            have Ho3 := Lib.hid (Ho.out.sees hs23)
            have hz3 := Lib.hid hs23.size
            have HXL := Lib.hid XL
            clear hW3 hs23 XL H2 HR2 Ho
            refine (H3.out.toS.push_full (Ht.out.sees H3.out.see) _ _ _ Ho3.out.rd (uni_ok k hk60) (by rw [← Hnl.out]; have := Full.out; omega)).mono ?_
            rintro e X ⟨rfl, hs⟩
            have T := Lib.hid (H3.out.sees hs)
            have TR := Lib.hid (HR3.out.sees hs)
            have TL := Hnl
            have TC := Htc
            clear hs
            go_wp2_with fail
            generalize gone = g2 at *
            generalize nl = nl2 at *
            generalize ls = ls2 at *
            generalize F = F2 at *
            have htr := T.out.room
            rw [← TL.out] at htr
            obtain ⟨c, hc⟩ : ∃ c : Int, c = (n : Int) - g2 - nl2 := ⟨_, rfl⟩
            have c0 : 0 ≤ c := by omega
            have c1 : c ≤ 12 := by omega
            have hg0 : (0 : Int) ≤ g2 := by omega
            have hg1 : (g2 : Int) ≤ 12 := by omega
            have hn0 : (nl2 : Int) ≤ 12 := by omega
            have hs0 : (nl2 : Int) + c + g2 = (n : Int) := by omega
            have Hc := Lib.hid hc
            clear hc htr
            refine (T.out.toS.roomIs 0 (by rw [← TL.out]; have := Full.out; omega)).mono ?_
            rintro e Y0 ⟨rfl, hs⟩
            have J0 := Lib.hid (T.out.sees hs)
            have K0 := Lib.hid hs
            clear hs
            go_wp2_with fail
            refine (J0.out.toS.lenIs (nl2 : Int) (by rw [TL.out])).mono ?_
            rintro e Y1 ⟨rfl, hs⟩
            have J1 := Lib.hid (J0.out.sees hs)
            have K1 := Lib.hid (K0.out.trans hs)
            clear hs
            go_wp2_with fail
            refine (J1.out.toS.roomIs c (by rw [Hc.out, TL.out])).mono ?_
            rintro e Y2 ⟨rfl, hs⟩
            have J2 := Lib.hid (J1.out.sees hs)
            have K2 := Lib.hid (K1.out.trans hs)
            clear hs
            go_wp2_with fail
            refine (J2.out.toS.goneIs (g2 : Int) rfl).mono ?_
            rintro e Y3 ⟨rfl, hs⟩
            have J3 := Lib.hid (J2.out.sees hs)
            have K3 := Lib.hid (K2.out.trans hs)
            clear hs
            go_wp2_with fail
            refine J3.out.toS.pgcap.mono ?_
            rintro e Y4 ⟨rfl, hs⟩
            have J4 := Lib.hid (J3.out.sees hs)
            have K4 := Lib.hid (K3.out.trans hs)
            clear hs
            go_wp2_with fail
            refine J4.out.toS.pgcap.mono ?_
            rintro e Y5 ⟨rfl, hs⟩
            have J5 := Lib.hid (J4.out.sees hs)
            have K5 := Lib.hid (K4.out.trans hs)
            clear hs
            go_wp2_with fail
            refine J5.out.toS.lines.mono ?_
            rintro e Y6 ⟨lv, rfl, ho, hs⟩
            have J6 := Lib.hid (J5.out.sees hs)
            have K6 := Lib.hid (K5.out.trans hs)
            have Ho := Lib.hid ho.rdl
            clear hs ho
            go_wp2_with fail
            refine (all_true _ _ _ _ _ _ _ Ho.out (TR.out.sees K6.out) (by have := J6.out.toS.len; omega) J6.out.toS.lenc rfl).mono ?_
            rintro e Y7 ⟨rfl, hs⟩
            have J7 := Lib.hid (J6.out.sees hs)
            have K7 := Lib.hid (K6.out.trans hs)
            clear hs Ho
            go_wp2
            refine ⟨⟨k + 1, by omega, by simp, fun b => F2 b ∧ b < X.heap.size, g2, ls2, tao, tcap, by rw [← TL.out], by rw [← TL.out]; exact TC.out, T.out.cut.sees K7.out, fun b hb => Nat.lt_of_lt_of_le hb.2 K7.out.size, ?_, T.out.see.trans K7.out⟩, by simp [intOf]; omega⟩
            exact (TR.out.sees K7.out).mono (fun b _ hb hx => hb hx.1)
      · have hfb : ((n : Int) - gone - nl == 0) = false := beq_eq_false_iff_ne.2 hful
        have Full := Lib.hid hful
        clear hful
        by_cases hr2 : z % 4 = 2
        · have t2 : (z % 4 == 2) = true := beq_iff_eq.2 hr2
          clear hr2
          obtain ⟨d, hd⟩ : ∃ d : Nat, z / 4 % 4 = d := Int.eq_ofNat_of_zero_le (Int.emod_nonneg _ (by omega))
          have hd4 : d < 4 := by omega
          by_cases hdl : d ≤ nl
          · have t3 : decide ((d : Int) ≤ nl) = true := decide_eq_true (by omega)
            go_wp2_with fail
            simp only [hd]
            refine (H1.out.drop d (by rw [← Hnl.out]; exact hdl)).mono ?_
            rintro e X ⟨rfl, hP2, hk2⟩
            obtain ⟨F2, hF2⟩ : ∃ F2 : Nat → Prop, F2 = fun b => F b ∨ W1.heap.size ≤ b := ⟨_, rfl⟩
            rw [← hF2, ← Int.natCast_add] at hP2
            have T := Lib.hid hP2
            have HR2 := Lib.hid ((HR1.out.mono (G := fun b => ¬ F b ∧ b < W1.heap.size) (fun b hb h => ⟨h, hb⟩)).keeps hk2 (fun b hb => hb.1))
            have hnF : Hid (∀ b : Nat, ¬ F b ∧ b < W1.heap.size → ¬ F2 b) := Lib.hid (by subst hF2; intro b h h2; rcases h2 with h2 | h2; exact h.1 h2; exact absurd h.2 (by omega))
            clear hP2 hk2 hd hF2
            by_cases hcd : tcap = d
            · have TR : Hid (RdL (fun b => ¬ F2 b) X (.slice tao (nl - d) 0) (ls.drop d)) := Lib.hid (by
                have hz : nl - d = 0 := by have := Htc.out; omega
                rw [hz]
                exact (HR2.out.mono (fun b _ h => hnF.out b h)).dropNil d (by rw [← Hnl.out]; have := Htc.out; omega) tao 0)
              have TL : Hid (nl - d = (ls.drop d).length) := Lib.hid (by rw [List.length_drop, Hnl.out])
              have TC : Hid (nl - d ≤ 0) := Lib.hid (by have := Htc.out; omega)
              clear HR2 hnF
              go_wp2_with fail
              generalize hg2 : gone + d = g2 at *
              have G2 : Hid (g2 = gone + d) := Lib.hid hg2.symm
              generalize hn2 : nl - d = nl2 at *
              have N2 : Hid (nl2 = nl - d) := Lib.hid hn2.symm
              clear hg2 hn2
              generalize ls.drop d = ls2 at *
              have htr := T.out.room
              rw [← TL.out] at htr
              obtain ⟨c, hc⟩ : ∃ c : Int, c = (n : Int) - g2 - nl2 := ⟨_, rfl⟩
              have c0 : 0 ≤ c := by omega
              have c1 : c ≤ 12 := by omega
              have hg0 : (0 : Int) ≤ g2 := by omega
              have hg1 : (g2 : Int) ≤ 12 := by omega
              have hn0 : (nl2 : Int) ≤ 12 := by omega
              have hs0 : (nl2 : Int) + c + g2 = (n : Int) := by omega
              have Hc := Lib.hid hc
              clear hc htr
              have J0 := T
              have K0 := Lib.hid (Sees.refl X)
              refine (J0.out.toS.lenIs (nl2 : Int) (by rw [TL.out])).mono ?_
              rintro e Y1 ⟨rfl, hs⟩
              have J1 := Lib.hid (J0.out.sees hs)
              have K1 := Lib.hid (K0.out.trans hs)
              clear hs
              go_wp2_with fail
              refine (J1.out.toS.roomIs c (by rw [Hc.out, TL.out])).mono ?_
              rintro e Y2 ⟨rfl, hs⟩
              have J2 := Lib.hid (J1.out.sees hs)
              have K2 := Lib.hid (K1.out.trans hs)
              clear hs
              go_wp2_with fail
              refine (J2.out.toS.goneIs (g2 : Int) rfl).mono ?_
              rintro e Y3 ⟨rfl, hs⟩
              have J3 := Lib.hid (J2.out.sees hs)
              have K3 := Lib.hid (K2.out.trans hs)
              clear hs
              go_wp2_with fail
              refine J3.out.toS.pgcap.mono ?_
              rintro e Y4 ⟨rfl, hs⟩
              have J4 := Lib.hid (J3.out.sees hs)
              have K4 := Lib.hid (K3.out.trans hs)
              clear hs
              go_wp2_with fail
              refine J4.out.toS.pgcap.mono ?_
              rintro e Y5 ⟨rfl, hs⟩
              have J5 := Lib.hid (J4.out.sees hs)
              have K5 := Lib.hid (K4.out.trans hs)
              clear hs
              go_wp2_with fail
              refine J5.out.toS.lines.mono ?_
              rintro e Y6 ⟨lv, rfl, ho, hs⟩
              have J6 := Lib.hid (J5.out.sees hs)
              have K6 := Lib.hid (K5.out.trans hs)
              have Ho := Lib.hid ho.rdl
              clear hs ho
              go_wp2_with fail
              refine (all_true _ _ _ _ _ _ _ Ho.out (TR.out.sees K6.out) (by have := J6.out.toS.len; omega) J6.out.toS.lenc rfl).mono ?_
              rintro e Y7 ⟨rfl, hs⟩
              have J7 := Lib.hid (J6.out.sees hs)
              have K7 := Lib.hid (K6.out.trans hs)
              clear hs Ho
              go_wp2
              refine ⟨⟨k + 1, by omega, by simp, fun b => F2 b ∧ b < X.heap.size, g2, ls2, tao, 0, by rw [← TL.out], by rw [← TL.out]; exact TC.out, T.out.cut.sees K7.out, fun b hb => Nat.lt_of_lt_of_le hb.2 K7.out.size, ?_, T.out.see.trans K7.out⟩, by simp [intOf]; omega⟩
              exact (TR.out.sees K7.out).mono (fun b _ hb hx => hb hx.1)
            · have TR : Hid (RdL (fun b => ¬ F2 b) X (.slice (Option.map (fun x => x.add (d * 2)) tao) (nl - d) (tcap - d)) (ls.drop d)) := Lib.hid (by
                exact (HR2.out.mono (fun b _ h => hnF.out b h)).cutAt d (by rw [← Hnl.out]; exact hdl) (tcap - d))
              have TL : Hid (nl - d = (ls.drop d).length) := Lib.hid (by rw [List.length_drop, Hnl.out])
              have TC : Hid (nl - d ≤ (tcap - d)) := Lib.hid (by have := Htc.out; omega)
              clear HR2 hnF
              go_wp2_with fail
              generalize hg2 : gone + d = g2 at *
              have G2 : Hid (g2 = gone + d) := Lib.hid hg2.symm
              generalize hn2 : nl - d = nl2 at *
              have N2 : Hid (nl2 = nl - d) := Lib.hid hn2.symm
              clear hg2 hn2
              generalize ls.drop d = ls2 at *
              have htr := T.out.room
              rw [← TL.out] at htr
              obtain ⟨c, hc⟩ : ∃ c : Int, c = (n : Int) - g2 - nl2 := ⟨_, rfl⟩
              have c0 : 0 ≤ c := by omega
              have c1 : c ≤ 12 := by omega
              have hg0 : (0 : Int) ≤ g2 := by omega
              have hg1 : (g2 : Int) ≤ 12 := by omega
              have hn0 : (nl2 : Int) ≤ 12 := by omega
              have hs0 : (nl2 : Int) + c + g2 = (n : Int) := by omega
              have Hc := Lib.hid hc
              clear hc htr
              have J0 := T
              have K0 := Lib.hid (Sees.refl X)
              refine (J0.out.toS.lenIs (nl2 : Int) (by rw [TL.out])).mono ?_
              rintro e Y1 ⟨rfl, hs⟩
              have J1 := Lib.hid (J0.out.sees hs)
              have K1 := Lib.hid (K0.out.trans hs)
              clear hs
              go_wp2_with fail
              refine (J1.out.toS.roomIs c (by rw [Hc.out, TL.out])).mono ?_
              rintro e Y2 ⟨rfl, hs⟩
              have J2 := Lib.hid (J1.out.sees hs)
              have K2 := Lib.hid (K1.out.trans hs)
              clear hs
              go_wp2_with fail
              refine (J2.out.toS.goneIs (g2 : Int) rfl).mono ?_
              rintro e Y3 ⟨rfl, hs⟩
              have J3 := Lib.hid (J2.out.sees hs)
              have K3 := Lib.hid (K2.out.trans hs)
              clear hs
              go_wp2_with fail
              refine J3.out.toS.pgcap.mono ?_
              rintro e Y4 ⟨rfl, hs⟩
              have J4 := Lib.hid (J3.out.sees hs)
              have K4 := Lib.hid (K3.out.trans hs)
              clear hs
              go_wp2_with fail
              refine J4.out.toS.pgcap.mono ?_
              rintro e Y5 ⟨rfl, hs⟩
              have J5 := Lib.hid (J4.out.sees hs)
              have K5 := Lib.hid (K4.out.trans hs)
              clear hs
              go_wp2_with fail
              refine J5.out.toS.lines.mono ?_
              rintro e Y6 ⟨lv, rfl, ho, hs⟩
              have J6 := Lib.hid (J5.out.sees hs)
              have K6 := Lib.hid (K5.out.trans hs)
              have Ho := Lib.hid ho.rdl
              clear hs ho
              go_wp2_with fail
              refine (all_true _ _ _ _ _ _ _ Ho.out (TR.out.sees K6.out) (by have := J6.out.toS.len; omega) J6.out.toS.lenc rfl).mono ?_
              rintro e Y7 ⟨rfl, hs⟩
              have J7 := Lib.hid (J6.out.sees hs)
              have K7 := Lib.hid (K6.out.trans hs)
              clear hs Ho
              go_wp2
              refine ⟨⟨k + 1, by omega, by simp, fun b => F2 b ∧ b < X.heap.size, g2, ls2, (Option.map (fun x => x.add (d * 2)) tao), (tcap - d), by rw [← TL.out], by rw [← TL.out]; exact TC.out, T.out.cut.sees K7.out, fun b hb => Nat.lt_of_lt_of_le hb.2 K7.out.size, ?_, T.out.see.trans K7.out⟩, by simp [intOf]; omega⟩
              exact (TR.out.sees K7.out).mono (fun b _ hb hx => hb hx.1)
          · have t3 : decide ((d : Int) ≤ nl) = false := decide_eq_false (by omega)
            go_wp2_with fail
            simp only [hd]
            refine (H1.out.toS.drop_range (d : Int) (.inr (by rw [← Hnl.out]; omega))).mono ?_
            rintro e X ⟨rfl, hs⟩
            have T := Lib.hid (H1.out.sees hs)
            have TR := Lib.hid (HR1.out.sees hs)
            have TL := Hnl
            have TC := Htc
            clear hs hd
            go_wp2_with fail
            generalize gone = g2 at *
            generalize nl = nl2 at *
            generalize ls = ls2 at *
            generalize F = F2 at *
            have htr := T.out.room
            rw [← TL.out] at htr
            obtain ⟨c, hc⟩ : ∃ c : Int, c = (n : Int) - g2 - nl2 := ⟨_, rfl⟩
            have c0 : 0 ≤ c := by omega
            have c1 : c ≤ 12 := by omega
            have hg0 : (0 : Int) ≤ g2 := by omega
            have hg1 : (g2 : Int) ≤ 12 := by omega
            have hn0 : (nl2 : Int) ≤ 12 := by omega
            have hs0 : (nl2 : Int) + c + g2 = (n : Int) := by omega
            have Hc := Lib.hid hc
            clear hc htr
            have J0 := T
            have K0 := Lib.hid (Sees.refl X)
            refine (J0.out.toS.lenIs (nl2 : Int) (by rw [TL.out])).mono ?_
            rintro e Y1 ⟨rfl, hs⟩
            have J1 := Lib.hid (J0.out.sees hs)
            have K1 := Lib.hid (K0.out.trans hs)
            clear hs
            go_wp2_with fail
            refine (J1.out.toS.roomIs c (by rw [Hc.out, TL.out])).mono ?_
            rintro e Y2 ⟨rfl, hs⟩
            have J2 := Lib.hid (J1.out.sees hs)
            have K2 := Lib.hid (K1.out.trans hs)
            clear hs
            go_wp2_with fail
            refine (J2.out.toS.goneIs (g2 : Int) rfl).mono ?_
            rintro e Y3 ⟨rfl, hs⟩
            have J3 := Lib.hid (J2.out.sees hs)
            have K3 := Lib.hid (K2.out.trans hs)
            clear hs
            go_wp2_with fail
            refine J3.out.toS.pgcap.mono ?_
            rintro e Y4 ⟨rfl, hs⟩
            have J4 := Lib.hid (J3.out.sees hs)
            have K4 := Lib.hid (K3.out.trans hs)
            clear hs
            go_wp2_with fail
            refine J4.out.toS.pgcap.mono ?_
            rintro e Y5 ⟨rfl, hs⟩
            have J5 := Lib.hid (J4.out.sees hs)
            have K5 := Lib.hid (K4.out.trans hs)
            clear hs
            go_wp2_with fail
            refine J5.out.toS.lines.mono ?_
            rintro e Y6 ⟨lv, rfl, ho, hs⟩
            have J6 := Lib.hid (J5.out.sees hs)
            have K6 := Lib.hid (K5.out.trans hs)
            have Ho := Lib.hid ho.rdl
            clear hs ho
            go_wp2_with fail
            refine (all_true _ _ _ _ _ _ _ Ho.out (TR.out.sees K6.out) (by have := J6.out.toS.len; omega) J6.out.toS.lenc rfl).mono ?_
            rintro e Y7 ⟨rfl, hs⟩
            have J7 := Lib.hid (J6.out.sees hs)
            have K7 := Lib.hid (K6.out.trans hs)
            clear hs Ho
            go_wp2
            refine ⟨⟨k + 1, by omega, by simp, fun b => F2 b ∧ b < X.heap.size, g2, ls2, tao, tcap, by rw [← TL.out], by rw [← TL.out]; exact TC.out, T.out.cut.sees K7.out, fun b hb => Nat.lt_of_lt_of_le hb.2 K7.out.size, ?_, T.out.see.trans K7.out⟩, by simp [intOf]; omega⟩
            exact (TR.out.sees K7.out).mono (fun b _ hb hx => hb hx.1)
        · have t2 : (z % 4 == 2) = false := beq_eq_false_iff_ne.2 hr2
          clear hr2
          by_cases hr3 : z % 4 = 3
          · have t3 : (z % 4 == 3) = true := beq_iff_eq.2 hr3
            clear hr3
            by_cases hn0 : nl = 0
            · have hz : ls = [] := List.eq_nil_of_length_eq_zero (by rw [← Hnl.out]; exact hn0)
              subst hz
              have t4 : decide ((nl : Int) > 0) = false := decide_eq_false (by omega)
              have t5 : decide (0 < nl) = false := decide_eq_false (by omega)
              have t6 : ¬ 0 < nl := by omega
              have HN := Lib.hid hn0
              clear hn0
              go_wp2_with fail
              refine (H1.out.toS.pop_none).mono ?_
              rintro e W2 ⟨rfl, hs⟩
              have H2 := Lib.hid (H1.out.sees hs)
              have HR2 := Lib.hid (HR1.out.sees hs)
              clear hs
              go_wp2_with fail
              refine calls_world (fun X hX => ?_)
              have hs : Sees W2 X := by subst hX; exact (Sees.refl W2).alloc _
              have T := Lib.hid (H2.out.sees hs)
              have TR := Lib.hid (HR2.out.sees hs)
              have TL := Hnl
              have TC := Htc
              clear hs hX
              obtain ⟨ls2, hls2⟩ : ∃ ls2 : List Ln, ls2 = [] := ⟨_, rfl⟩
              rw [← hls2] at T TR TL
              clear hls2
              generalize gone = g2 at *
              generalize nl = nl2 at *
              generalize F = F2 at *
              have htr := T.out.room
              rw [← TL.out] at htr
              obtain ⟨c, hc⟩ : ∃ c : Int, c = (n : Int) - g2 - nl2 := ⟨_, rfl⟩
              have c0 : 0 ≤ c := by omega
              have c1 : c ≤ 12 := by omega
              have hg0 : (0 : Int) ≤ g2 := by omega
              have hg1 : (g2 : Int) ≤ 12 := by omega
              have hn0 : (nl2 : Int) ≤ 12 := by omega
              have hs0 : (nl2 : Int) + c + g2 = (n : Int) := by omega
              have Hc := Lib.hid hc
              clear hc htr
              have J0 := T
              have K0 := Lib.hid (Sees.refl X)
              refine (J0.out.toS.lenIs (nl2 : Int) (by rw [TL.out])).mono ?_
              rintro e Y1 ⟨rfl, hs⟩
              have J1 := Lib.hid (J0.out.sees hs)
              have K1 := Lib.hid (K0.out.trans hs)
              clear hs
              go_wp2_with fail
              refine (J1.out.toS.roomIs c (by rw [Hc.out, TL.out])).mono ?_
              rintro e Y2 ⟨rfl, hs⟩
              have J2 := Lib.hid (J1.out.sees hs)
              have K2 := Lib.hid (K1.out.trans hs)
              clear hs
              go_wp2_with fail
              refine (J2.out.toS.goneIs (g2 : Int) rfl).mono ?_
              rintro e Y3 ⟨rfl, hs⟩
              have J3 := Lib.hid (J2.out.sees hs)
              have K3 := Lib.hid (K2.out.trans hs)
              clear hs
              go_wp2_with fail
              refine J3.out.toS.pgcap.mono ?_
              rintro e Y4 ⟨rfl, hs⟩
              have J4 := Lib.hid (J3.out.sees hs)
              have K4 := Lib.hid (K3.out.trans hs)
              clear hs
              go_wp2_with fail
              refine J4.out.toS.pgcap.mono ?_
              rintro e Y5 ⟨rfl, hs⟩
              have J5 := Lib.hid (J4.out.sees hs)
              have K5 := Lib.hid (K4.out.trans hs)
              clear hs
              go_wp2_with fail
              refine J5.out.toS.lines.mono ?_
              rintro e Y6 ⟨lv, rfl, ho, hs⟩
              have J6 := Lib.hid (J5.out.sees hs)
              have K6 := Lib.hid (K5.out.trans hs)
              have Ho := Lib.hid ho.rdl
              clear hs ho
              go_wp2_with fail
              refine (all_true _ _ _ _ _ _ _ Ho.out (TR.out.sees K6.out) (by have := J6.out.toS.len; omega) J6.out.toS.lenc rfl).mono ?_
              rintro e Y7 ⟨rfl, hs⟩
              have J7 := Lib.hid (J6.out.sees hs)
              have K7 := Lib.hid (K6.out.trans hs)
              clear hs Ho
              go_wp2
              refine ⟨⟨k + 1, by omega, by simp, fun b => F2 b ∧ b < X.heap.size, g2, ls2, tao, tcap, by rw [← TL.out], by rw [← TL.out]; exact TC.out, T.out.cut.sees K7.out, fun b hb => Nat.lt_of_lt_of_le hb.2 K7.out.size, ?_, T.out.see.trans K7.out⟩, by simp [intOf]; omega⟩
              exact (TR.out.sees K7.out).mono (fun b _ hb hx => hb hx.1)
            · have t4 : decide ((nl : Int) > 0) = true := decide_eq_true (by omega)
              obtain ⟨l0, l, hl⟩ : ∃ l0 l, ls = l0 ++ [l] := by
                rcases ls.eq_nil_or_concat with h | ⟨l0, l, h⟩
                · subst h; exact absurd Hnl.out hn0
                · exact ⟨l0, l, by simpa using h⟩
              subst hl
              obtain ⟨nl2, hnl2⟩ : ∃ nl2, nl = nl2 + 1 := ⟨nl - 1, by omega⟩
              subst hnl2
              have hnl0 : nl2 = l0.length := by have := Hnl.out; simp at this; omega
              have Hnl0 := Lib.hid hnl0
              have HN := Lib.hid hn0
              clear hn0 hnl0
              go_wp2_with fail
              refine (PgF.pop l H1.out).mono ?_
              rintro e W2 ⟨v', rfl, ho, hob, hP2, hk2⟩
              have H2 := Lib.hid hP2
              have Ho := Lib.hid ho.rdc
              obtain ⟨pa, pc, hv'⟩ := ho.slice
              have hpF := H1.out.page.1
              have HR2 := Lib.hid (HR1.out.keeps hk2 (fun b hb e => by subst e; exact hb hpF))
              clear hP2 ho hob hk2 hpF
              subst hv'
              have hll : l.cells.length ≤ 1000000 := H1.out.toS.lenc l (by simp)
              have Hll := Lib.hid hll
              clear hll
              obtain ⟨pn, hpn⟩ : ∃ pn, pn = l.cells.length := ⟨_, rfl⟩
              rw [← hpn] at Ho H2 ⊢
              have Hpn := Lib.hid hpn
              clear hpn
              go_wp2_with fail
              have hrl : ∃ lb lo sx, tao = some ⟨lb, lo, none⟩ ∧ W2.cell? ⟨lb, lo + nl2 * 2, none⟩ = some sx ∧ W2.cell? ⟨lb, lo + nl2 * 2 + 1, none⟩ = some (.bool l.soft) ∧ RdC (fun b => ¬ F b) W2 sx l.cells := by
                obtain ⟨ao', cp, e, hh⟩ := HR2.out
                simp only [Value.slice.injEq] at e
                obtain ⟨rfl, _, rfl⟩ := e
                obtain ⟨b, o, e2, _, hl⟩ := hh (by simp)
                obtain ⟨sv, g1, g2, g3⟩ := hl nl2 l (by rw [Hnl0.out]; simp)
                exact ⟨b, o, sv, e2, g1, g2, g3⟩
              obtain ⟨lb, lo, sx, hta, y1, y2, y3⟩ := hrl
              subst hta
              obtain ⟨sxa, sxc, esx, _⟩ := id y3
              rw [← Hpn.out] at esx
              have Y1 := Lib.hid y1
              have Y2 := Lib.hid y2
              have Y3 := Lib.hid y3
              clear y1 y2 y3
              subst esx
              refine wpFrom_go (by kernel_rfl) (by kernel_rfl) (fun hB W3 hs3 => ?_)
              have XL : LnAt W3 W2.heap.size (.slice pa pn pc) l.soft := (LnAt.new rfl).sees hs3
              have hs23 : Sees W2 W3 := ((Sees.refl W2).alloc _).trans hs3
              have HXL := Lib.hid XL
              have Hs23 := Lib.hid hs23
              clear XL hs23 hs3
              have hval : ∀ x v, (Spec.is x).val v = x := fun _ _ => rfl
              have hst : segStay (Sees W3) [.is (.agg #[.slice pa pn pc, .bool l.soft]), .is (.slice (some ⟨lb, lo, none⟩) (nl2 + 1) tcap), .is (.slice (some ⟨lb, lo, none⟩) (nl2 + 1) tcap), .is (.int .i64 ((nl2 : Int) + 1)), .is (.int .i64 (nl2 : Int)), .is (.pointer (some ⟨lb, lo + nl2 * 2, none⟩)), .is (.agg #[.slice sxa pn sxc, .bool l.soft]), .is (.bool true), .is (.bool false)] := trivial
              have hnl12 : nl2 ≤ 12 := by omega
              have hwr := IntWalk.i64_in (nl2 : Int) (by omega)
              have hlt2 : (nl2 : Int) < (nl2 : Int) + 1 := by omega
              refine wpFrom_any 9 _ hB (by kernel_rfl) rfl hst (by simp only [List.cons_append, List.nil_append, List.drop_succ_cons, List.drop_zero, List.take_succ_cons, List.take_zero, Nat.reduceSub]; rfl) ?_
              refine ⟨fun vs W hI hV => .inl ⟨by go_simp, .inl (by have q := (HXL.out.sees hI).c; obtain ⟨g0, g1⟩ := q; clear hI hV; go_simp)⟩, ?_⟩
              refine ⟨fun vs W hI hV => .inl ⟨by go_simp, .inl (by go_simp)⟩, ?_⟩
              refine ⟨fun vs W hI hV => .inl ⟨by go_simp, .inl (by go_simp)⟩, ?_⟩
              refine ⟨fun vs W hI hV => .inl ⟨by go_simp, .inl (by go_simp)⟩, ?_⟩
              refine ⟨fun vs W hI hV => .inl ⟨by go_simp, .inl (by go_simp)⟩, ?_⟩
              refine ⟨fun vs W hI hV => .inl ⟨by go_simp, .inl (by go_simp)⟩, ?_⟩
              refine ⟨fun vs W hI hV => .inl ⟨by go_simp, .inl (by have q0 := Sees.cell (Hs23.out.trans hI) Y1.out; have q1 := Sees.cell (Hs23.out.trans hI) Y2.out; clear hI hV; go_simp)⟩, ?_⟩
              refine ⟨fun vs W hI hV => .inl ⟨by clear hV; go_simp, .inr (.inr ⟨22, #[.agg #[.slice pa pn pc, .bool l.soft], .agg #[.slice sxa pn sxc, .bool l.soft]], by clear hI hV; go_simp, ?_⟩)⟩, ?_⟩
              · refine (sameLine_any _ _ l l W (Ho.out.rd.sees (Hs23.out.trans hI)) (Y3.out.rd.sees (Hs23.out.trans hI)) Hll.out).mono ?_
                rintro e w' ⟨rfl, hs⟩
                exact ⟨by simp, hs⟩
              refine ⟨fun vs W hI hV => .inl ⟨by go_simp, .inl (by go_simp)⟩, ?_⟩
              intro vs W4 hI4 hV4
              clear hV4 hst
              have H4 := Lib.hid (H2.out.sees (Hs23.out.trans hI4))
              have HR4 := Lib.hid (HR2.out.sees (Hs23.out.trans hI4))
              clear hI4 hlt2
              go_simp
              refine wpFrom_end rfl ?_
              go_wp2_with fail
              obtain ⟨F2, hF2⟩ : ∃ F2 : Nat → Prop, F2 = fun b => F b ∧ (Value.slice pa pn pc).ownBlock ≠ some b := ⟨_, rfl⟩
              rw [← hF2] at H4
              have T := H4
              have TR : Hid (RdL (fun b => ¬ F2 b) W4 (.slice (some ⟨lb, lo, none⟩) nl2 tcap) l0) := Lib.hid (by
                have h := HR4.out.takeAt nl2 (by rw [Hnl0.out]; simp) tcap
                rw [Hnl0.out, List.take_left' rfl] at h
                rw [Hnl0.out]
                exact h.mono (fun b _ h1 h2 => by subst hF2; exact h1 h2.1))
              have TL := Hnl0
              have TC : Hid (nl2 ≤ tcap) := Lib.hid (by have := Htc.out; omega)
              obtain ⟨X, hX⟩ : ∃ X, X = W4 := ⟨_, rfl⟩
              rw [← hX] at T TR ⊢
              clear hX hF2
              generalize gone = g2 at *
              generalize l0 = ls2 at *
              have htr := T.out.room
              rw [← TL.out] at htr
              obtain ⟨c, hc⟩ : ∃ c : Int, c = (n : Int) - g2 - nl2 := ⟨_, rfl⟩
              have c0 : 0 ≤ c := by omega
              have c1 : c ≤ 12 := by omega
              have hg0 : (0 : Int) ≤ g2 := by omega
              have hg1 : (g2 : Int) ≤ 12 := by omega
              have hn0 : (nl2 : Int) ≤ 12 := by omega
              have hs0 : (nl2 : Int) + c + g2 = (n : Int) := by omega
              have Hc := Lib.hid hc
              clear hc htr
              have J0 := T
              have K0 := Lib.hid (Sees.refl X)
              refine (J0.out.toS.lenIs (nl2 : Int) (by rw [TL.out])).mono ?_
              rintro e Y1 ⟨rfl, hs⟩
              have J1 := Lib.hid (J0.out.sees hs)
              have K1 := Lib.hid (K0.out.trans hs)
              clear hs
              go_wp2_with fail
              refine (J1.out.toS.roomIs c (by rw [Hc.out, TL.out])).mono ?_
              rintro e Y2 ⟨rfl, hs⟩
              have J2 := Lib.hid (J1.out.sees hs)
              have K2 := Lib.hid (K1.out.trans hs)
              clear hs
              go_wp2_with fail
              refine (J2.out.toS.goneIs (g2 : Int) rfl).mono ?_
              rintro e Y3 ⟨rfl, hs⟩
              have J3 := Lib.hid (J2.out.sees hs)
              have K3 := Lib.hid (K2.out.trans hs)
              clear hs
              go_wp2_with fail
              refine J3.out.toS.pgcap.mono ?_
              rintro e Y4 ⟨rfl, hs⟩
              have J4 := Lib.hid (J3.out.sees hs)
              have K4 := Lib.hid (K3.out.trans hs)
              clear hs
              go_wp2_with fail
              refine J4.out.toS.pgcap.mono ?_
              rintro e Y5 ⟨rfl, hs⟩
              have J5 := Lib.hid (J4.out.sees hs)
              have K5 := Lib.hid (K4.out.trans hs)
              clear hs
              go_wp2_with fail
              refine J5.out.toS.lines.mono ?_
              rintro e Y6 ⟨lv, rfl, ho, hs⟩
              have J6 := Lib.hid (J5.out.sees hs)
              have K6 := Lib.hid (K5.out.trans hs)
              have Ho := Lib.hid ho.rdl
              clear hs ho
              go_wp2_with fail
              refine (all_true _ _ _ _ _ _ _ Ho.out (TR.out.sees K6.out) (by have := J6.out.toS.len; omega) J6.out.toS.lenc rfl).mono ?_
              rintro e Y7 ⟨rfl, hs⟩
              have J7 := Lib.hid (J6.out.sees hs)
              have K7 := Lib.hid (K6.out.trans hs)
              clear hs Ho
              go_wp2
              refine ⟨⟨k + 1, by omega, by simp, fun b => F2 b ∧ b < X.heap.size, g2, ls2, (some ⟨lb, lo, none⟩), tcap, by rw [← TL.out], by rw [← TL.out]; exact TC.out, T.out.cut.sees K7.out, fun b hb => Nat.lt_of_lt_of_le hb.2 K7.out.size, ?_, T.out.see.trans K7.out⟩, by simp [intOf]; omega⟩
              exact (TR.out.sees K7.out).mono (fun b _ hb hx => hb hx.1)
          · have t3 : (z % 4 == 3) = false := beq_eq_false_iff_ne.2 hr3
            clear hr3
            have hk60 : k < 60 := by omega
            go_wp2_with fail
            refine (text_any _ _).mono ?_
            rintro e W2 ⟨v', rfl, ho, hs⟩
            have H2 := Lib.hid (H1.out.sees hs)
            have HR2 := Lib.hid (HR1.out.sees hs)
            obtain ⟨xa, xc, rfl⟩ := ho.slice
            have Ho := Lib.hid ho
            have hz2 := Lib.hid hs.size
            clear ho hs
            go_wp2_with fail
            refine calls_world (fun W3 hW3 => ?_)
            have XL : LnAt W3 W2.heap.size (.slice xa 1 xc) false := by subst hW3; exact LnAt.new rfl
            have hs23 : Sees W2 W3 := by subst hW3; exact (Sees.refl W2).alloc _
            have H3 := Lib.hid (H2.out.sees hs23)
            have HR3 := Lib.hid (HR2.out.sees hs23)
            have Ho3 := Lib.hid (Ho.out.sees hs23)
            have hz3 := Lib.hid hs23.size
            have HXL := Lib.hid XL
            clear hW3 hs23 XL H2 HR2 Ho
            have hFw : Hid (∀ b, F b → b < W1.heap.size) := Lib.hid (fun b hb => Nat.lt_of_lt_of_le (HF.out b hb) hz1.out)
            refine (H3.out.push (Ht.out.sees H3.out.see) (.slice xa 1 xc) [one (1024 + (k : Int))] false Ho3.out.rdc (fun b hb hx => by have := hFw.out b hx; omega) (uni_ok k hk60) (by rw [← Hnl.out]; have := Full.out; omega)).mono ?_
            rintro e W4 ⟨rfl, hP4, hk4⟩
            have H4 := Lib.hid hP4.cut
            have Hz34' := Lib.hid hk4.size
            have HR4 := Lib.hid ((HR3.out.mono (G := fun b => ¬ F b ∧ b < W3.heap.size) (fun b hb h => ⟨h, hb⟩)).keeps hk4 (fun b hb => hb.1))
            have Ho4 := Lib.hid ((Ho3.out.rdc.mono (G := fun b => ¬ F b ∧ b < W3.heap.size) (fun b hb h => ⟨fun hx => by have := hFw.out b hx; omega, hb⟩)).keeps hk4 (fun b hb => hb.1))
            have XL4 := Lib.hid (HXL.out.keeps hk4 (fun hx => by have := hFw.out _ hx; have := hz2.out; omega))
            clear hP4 hk4
            go_wp2_with fail
            refine wpFrom_go (by kernel_rfl) (by kernel_rfl) (fun hB W5 hs5 => ?_)
            have HR5 := Lib.hid (HR4.out.sees hs5)
            have Ho5 := Lib.hid (Ho4.out.sees hs5)
            have XL5 := Lib.hid (XL4.out.sees hs5)
            have Hs5 := Lib.hid hs5
            clear hs5
            have hval : ∀ x v, (Spec.is x).val v = x := fun _ _ => rfl
            have hval2 : ∀ V v, (Spec.so V).val v = v := fun _ _ => rfl
            have hst : segStay (Sees W5) [.is (.slice tao nl tcap), .so (fun x W => ∃ xs, W.ownsRow W5.heap.size 31 2 x ls.length xs ∧ LnVals (fun b => ¬ F b ∧ b < W3.heap.size) W xs ls), .is (.agg #[.slice xa 1 xc, .bool false]),
                .so (fun x W => ∃ b, x = .slice (some ⟨b, 0, none⟩) 1 1 ∧ W.heap[b]? = some (.cells #[.slice xa 1 xc, .bool false] 31 (0, 0)))] :=
              ⟨fun u W W' _ ⟨xs, g1, g2⟩ hs => ⟨xs, row_sees g1 hs, g2.sees hs⟩, fun u W W' _ ⟨b, g1, g2⟩ hs => ⟨b, g1, by rw [hs.block _ (Array.getElem?_eq_some_iff.1 g2).1]; exact g2⟩, trivial⟩
            refine wpFrom_any 4 _ hB (by kernel_rfl) rfl hst (by simp only [List.cons_append, List.nil_append, List.drop_succ_cons, List.drop_zero, List.take_succ_cons, List.take_zero, Nat.reduceSub]; rfl) ?_
            refine ⟨fun vs W hI hV => .inl ⟨by go_simp, .inl (by go_simp)⟩, ?_⟩
            refine ⟨fun vs W hI hV => ?_, ?_⟩
            · obtain ⟨v1, W', xs, hr, g1, g2, g3⟩ := run_append_copy (W := W) 39 _ ls (HR5.out.sees hI) (by rw [← Hnl.out]; omega)
              exact .inl ⟨by clear hV; go_simp, .inl ⟨v1, W', exec_append (s := .const (.slice none 0 0)) (x := .tmp 63) rfl rfl (by clear hI hV hr; go_simp) hr, rgGood_mk hst hI ⟨xs, row_base g1 hI.size, g2⟩ g3⟩⟩
            refine ⟨fun vs W hI hV => .inl ⟨by go_simp, .inl (by have q := (XL5.out.sees hI).c; obtain ⟨g0, g1⟩ := q; clear hI hV; go_simp)⟩, ?_⟩
            refine ⟨fun vs W hI hV => .inl ⟨by clear hV; go_simp, .inl ⟨.slice (some ⟨W.heap.size, 0, none⟩) 1 1, W.alloc (.cells #[.slice xa 1 xc, .bool false] 31), by clear hI hV; go_simp, rgGood_mk hst hI ⟨_, rfl, heap_alloc_new _ _⟩ ((Sees.refl W).alloc _)⟩⟩, ?_⟩
            intro vs W6 hI6 hV6
            obtain ⟨xs, gr, gl⟩ := hV6 1 _ rfl
            obtain ⟨b6, eb6, hrow6⟩ := hV6 3 _ rfl
            obtain ⟨g0, g1⟩ := cell_row2 hrow6
            obtain ⟨v2, W7, hr7, hown7, hk7⟩ := run_append_lns (W := W6) 39 W5.heap.size (vs 1) ls.length xs gr ⟨b6, 0, none⟩ 1 1 [.slice xa 1 xc, .bool false] rfl (by
              intro j u hu
              rcases j with _ | _ | j
              · cases hu; exact g0
              · cases hu; exact g1
              · cases hu) (by
              intro u hu
              simp only [List.mem_cons, List.not_mem_nil, or_false] at hu
              rcases hu with rfl | rfl <;> rfl) (by rw [← Hnl.out]; omega) hI6.size
            have Hz34 : Hid (W3.heap.size ≤ W4.heap.size) := Hz34'
            have hs57 : Sees W5 W7 := (Keeps.trans' (F := fun _ => False) (Keeps.of_sees hI6) hk7 (fun b hb e => by have := row_lo gr e; omega)).sees_end (fun _ _ h => h)
            have H7 := Lib.hid (H4.out.sees (Hs5.out.trans hs57))
            have hN := Lib.hid Hs5.out.size
            obtain ⟨a2, c2, hv2, hcap2⟩ := row_cap hown7
            have TR7 : Hid (RdL (fun b => ¬ ((F b ∨ W3.heap.size ≤ b) ∧ b < W4.heap.size)) W7 v2 (ls ++ [(⟨[one (1024 + (k : Int))], false⟩ : Ln)])) := Lib.hid (by
              refine rdl_own (base := W5.heap.size) (xs := xs ++ [.slice xa 1 xc, .bool false]) (by rw [List.length_append]; exact hown7) (fun b hb hx => by have := hN.out; omega) ?_
              refine LnVals.snoc (((gl.keeps hk7 (fun b hb e => by have := row_lo gr e; have := hN.out; have := hb.2; have := Hz34.out; omega)).mono ?_)) ((Ho5.out.sees hs57).mono ?_)
              · exact fun b _ hb hx => by rcases hx.1 with h | h; exact hb.1 h; exact absurd hb.2 (by omega)
              · exact fun b _ hb hx => by rcases hx.1 with h | h; exact hb.1 h; exact absurd hb.2 (by omega))
            subst hv2
            clear hI6 hV6 hst gl g0 g1 hrow6 hs57 hk7 gr
            have Hown7 := Lib.hid hown7
            clear hown7
            go_simp
            refine wpFrom_to 6 hB (fun _ _ _ _ _ h => h) (by kernel_rfl) (by simp only [List.cons_append, List.nil_append, List.drop_succ_cons, List.drop_zero, List.take_succ_cons, List.take_zero, Nat.reduceSub]; rfl) ?_
            refine wpList_val rfl (exec_append (s := .tmp 64) (x := .tmp 66) rfl (by clear hr7; go_simp) (by clear hr7; go_simp) hr7) (fun K hK => hK _ _ ?_)
            clear hr7 eb6
            go_wp2_with fail
            refine wpFrom_end rfl ?_
            go_wp2_with fail
            obtain ⟨F2, hF2⟩ : ∃ F2 : Nat → Prop, F2 = fun b => (F b ∨ W3.heap.size ≤ b) ∧ b < W4.heap.size := ⟨_, rfl⟩
            have T : Hid (PgF w F2 W7 w.heap.size n gone (ls ++ [(⟨[one (1024 + (k : Int))], false⟩ : Ln)])) := Lib.hid (by subst hF2; exact H7.out)
            have TR : Hid (RdL (fun b => ¬ F2 b) W7 (.slice a2 (ls.length + 1) c2) (ls ++ [(⟨[one (1024 + (k : Int))], false⟩ : Ln)])) := Lib.hid (by subst hF2; exact TR7.out)
            have TL : Hid (ls.length + 1 = (ls ++ [(⟨[one (1024 + (k : Int))], false⟩ : Ln)]).length) := Lib.hid (by simp)
            have TC : Hid (ls.length + 1 ≤ c2) := Lib.hid hcap2
            clear hF2 H7 TR7 hcap2
            obtain ⟨X, hX⟩ : ∃ X, X = W7 := ⟨_, rfl⟩
            rw [← hX] at T TR ⊢
            clear hX
            generalize gone = g2 at *
            generalize ls ++ [(⟨[one (1024 + (k : Int))], false⟩ : Ln)] = ls2 at *
            generalize ls.length + 1 = nl2 at *
            have htr := T.out.room
            rw [← TL.out] at htr
            obtain ⟨c, hc⟩ : ∃ c : Int, c = (n : Int) - g2 - nl2 := ⟨_, rfl⟩
            have c0 : 0 ≤ c := by omega
            have c1 : c ≤ 12 := by omega
            have hg0 : (0 : Int) ≤ g2 := by omega
            have hg1 : (g2 : Int) ≤ 12 := by omega
            have hn0 : (nl2 : Int) ≤ 12 := by omega
            have hs0 : (nl2 : Int) + c + g2 = (n : Int) := by omega
            have Hc := Lib.hid hc
            clear hc htr
            have J0 := T
            have K0 := Lib.hid (Sees.refl X)
            refine (J0.out.toS.lenIs (nl2 : Int) (by rw [TL.out])).mono ?_
            rintro e Y1 ⟨rfl, hs⟩
            have J1 := Lib.hid (J0.out.sees hs)
            have K1 := Lib.hid (K0.out.trans hs)
            clear hs
            go_wp2_with fail
            refine (J1.out.toS.roomIs c (by rw [Hc.out, TL.out])).mono ?_
            rintro e Y2 ⟨rfl, hs⟩
            have J2 := Lib.hid (J1.out.sees hs)
            have K2 := Lib.hid (K1.out.trans hs)
            clear hs
            go_wp2_with fail
            refine (J2.out.toS.goneIs (g2 : Int) rfl).mono ?_
            rintro e Y3 ⟨rfl, hs⟩
            have J3 := Lib.hid (J2.out.sees hs)
            have K3 := Lib.hid (K2.out.trans hs)
            clear hs
            go_wp2_with fail
            refine J3.out.toS.pgcap.mono ?_
            rintro e Y4 ⟨rfl, hs⟩
            have J4 := Lib.hid (J3.out.sees hs)
            have K4 := Lib.hid (K3.out.trans hs)
            clear hs
            go_wp2_with fail
            refine J4.out.toS.pgcap.mono ?_
            rintro e Y5 ⟨rfl, hs⟩
            have J5 := Lib.hid (J4.out.sees hs)
            have K5 := Lib.hid (K4.out.trans hs)
            clear hs
            go_wp2_with fail
            refine J5.out.toS.lines.mono ?_
            rintro e Y6 ⟨lv, rfl, ho, hs⟩
            have J6 := Lib.hid (J5.out.sees hs)
            have K6 := Lib.hid (K5.out.trans hs)
            have Ho := Lib.hid ho.rdl
            clear hs ho
            go_wp2_with fail
            refine (all_true _ _ _ _ _ _ _ Ho.out (TR.out.sees K6.out) (by have := J6.out.toS.len; omega) J6.out.toS.lenc rfl).mono ?_
            rintro e Y7 ⟨rfl, hs⟩
            have J7 := Lib.hid (J6.out.sees hs)
            have K7 := Lib.hid (K6.out.trans hs)
            clear hs Ho
            go_wp2
            refine ⟨⟨k + 1, by omega, by simp, fun b => F2 b ∧ b < X.heap.size, g2, ls2, a2, c2, by rw [← TL.out], by rw [← TL.out]; exact TC.out, T.out.cut.sees K7.out, fun b hb => Nat.lt_of_lt_of_le hb.2 K7.out.size, ?_, T.out.see.trans K7.out⟩, by simp [intOf]; omega⟩
            exact (TR.out.sees K7.out).mono (fun b _ hb hx => hb hx.1)
    · obtain rfl : k = m := by omega
      go_wp2_with fail
      refine (known07 _ (Ht.out.sees hS)).mono ?_
      rintro e w2 ⟨rfl, hs⟩
      go_wp2
      go_ret
      exact ⟨rfl, hS.trans hs⟩
end Go.Proofs.YtfeoejpbmpdkaaaDoor
