/- The law's parses (48). The tables hold what the program's text lays. -/
import Derived.Test.YthcndmchlpohpaaGreatDoorMpC
namespace Go.Proofs.YthcndmchlpohpaaGreatDoor
set_option linter.unusedVariables false
set_option linter.unusedSimpArgs false
open Go.RowKit Go.Shelf
attribute [local go_sem] Oper.semAt_some

theorem parseF_len (N : Int) : ∀ (xs : List (List UInt8)) (out : List Ln), (∀ x ∈ out, x.cells.length ≤ 1000000) → ∀ x ∈ (parseF N xs out).1, x.cells.length ≤ 1000000
  | [], out, h => h
  | x :: xs, out, h => by
    unfold parseF
    split
    · split
      · refine parseF_len N xs _ (fun y hy => ?_)
        rcases List.mem_append.1 hy with hy | hy
        · exact h y hy
        · obtain rfl := List.mem_singleton.1 hy
          exact Nat.le_trans (lineB_len _ _) (by decide)
      · intro y hy; cases hy
    · intro y hy; cases hy
theorem parseB_len (l : List UInt8) (N : Int) : ∀ x ∈ (parseB l N).1, x.cells.length ≤ 1000000 := by
  unfold parseB
  split
  · intro y hy; cases hy
  · split
    · intro y hy; cases hy
    · exact parseF_len N _ _ (fun y hy => by cases hy)
set_option maxHeartbeats 4000000 in
set_option maxRecDepth 100000 in
theorem parses_any (l : List UInt8) (N : Int) (G : Nat → Prop) (u : Value) (ws : List Ln) (no : Int) (w : World) (hw : Sd w) (hl : l.length ≤ 1000000000) (hb : lnEl.Rd G w u ws) (hwl : ws.length ≤ 1000000) :
    Calls Tryz.prog 10 #[.string (strL l), .int .i64 N, u, .int .i64 no] w fun e w' => e = .returned (.bool (decide ((parseB l N).1 = ws) && ((parseB l N).2 == no))) ∧ Sees w w' := by
  have KP := Lib.hid (fun W (hs : Sees w W) => parse_any l N W (hw.sees hs) hl)
  have hlen := parseB_len l N
  obtain ⟨R, hR⟩ : ∃ R, R = parseB l N := ⟨_, rfl⟩
  rw [← hR] at KP hlen ⊢
  obtain ⟨xs, er⟩ := R
  simp only at hlen ⊢
  obtain ⟨bo, cb, rfl, hcb⟩ := hb.slice'
  obtain ⟨m, hm⟩ : ∃ m, m = ws.length := ⟨_, rfl⟩
  rw [← hm] at hb hwl ⊢
  have HB := Lib.hid hb
  have HM := Lib.hid hm
  have HLEN := Lib.hid hlen
  clear hR hm hb hw hlen
  go_enter Tryz.func10, Tryz.ntmps10
  go_wp2_with fail
  refine (KP.out _ (Sees.refl _)).mono ?_
  rintro e W2 ⟨vv, rfl, ho, s2⟩
  simp only at ho
  obtain ⟨a2, c2, rfl, hc2⟩ := ho.slice'
  have HA := Lib.hid ho
  have HS := Lib.hid s2
  have HB2 := Lib.hid (HB.out.sees HS.out)
  obtain ⟨q, hq⟩ : ∃ q, q = xs.length := ⟨_, rfl⟩
  rw [← hq] at HA hc2 ⊢
  have HQ := Lib.hid hq
  clear ho s2 KP hq HB
  by_cases hlen : q = m
  · subst hlen
    rcases boolWays (er == no) with hno | hno
    · go_wp2
      go_loopw [11] (fun i wr => ∃ k : Nat, k ≤ q ∧ i = .int .i64 k ∧ xs.take k = ws.take k ∧ Sees W2 wr) (fun i _ => q - (intOf i).toNat)
      case atStart => exact ⟨0, by omega, rfl, by simp, Sees.refl _⟩
      case round =>
        obtain ⟨k, hk, rfl, hm, hS⟩ := hrel
        have Hm := Lib.hid hm; clear hm
        have hw := Sees.refl wr
        by_cases hlt : k < q
        · obtain ⟨b1, o1, r, a3, m3, rfl, _, hr, hc3, r0, r1, hrr⟩ := (HA.out.sees hS).line hlt
          obtain ⟨b2, o2, s, a4, m4, rfl, _, hs, hc4, s0, s1, hss⟩ := (HB2.out.sees hS).line hlt
          have Hr := Lib.hid hr
          have Hs := Lib.hid hs
          have KL : Hid (∀ W, Sees wr W → Calls Tryz.prog 19 #[.agg #[.slice a3 r.cells.length m3, .bool r.soft], .agg #[.slice a4 s.cells.length m4, .bool s.soft]] W fun e w' => e = .returned (.bool (decide (r = s))) ∧ Sees W w') := Lib.hid (fun W hsw => lines48_any _ _ _ _ r s W (hrr.sees hsw) (hss.sees hsw) (HLEN.out r (List.mem_of_getElem? hr)))
          obtain ⟨z, hz⟩ : ∃ z, z = decide (r = s) := ⟨_, rfl⟩
          rw [← hz] at KL
          have HZ := Lib.hid hz
          clear hr hs hrr hss hz
          have g1 := fun d os => (sees_grow wr d os).cell r0
          have g2 := fun d os => (sees_grow wr d os).cell r1
          have g3 := fun d os => (sees_grow wr d os).cell s0
          have g4 := fun d os => (sees_grow wr d os).cell s1
          clear r0 r1 s0 s1 hc3 hc4
          cases z
          · go_wp2
            refine wp_region_quiet_below (by kernel_rfl) (by kernel_rfl) ?_
            repeat (first | go_big_quiet_skip | (go_big_quiet_want; go_big_quiet_op; go_big_quiet_on))
            (go_big_quiet_want; go_big_quiet_op; apply Exists.intro; refine ⟨fun p => Calls.regrown_of (KL.out _ (sees_grow wr _ _)), ?_⟩; go_big_quiet_on)
            repeat (first | go_big_quiet_skip | (go_big_quiet_want; go_big_quiet_op; go_big_quiet_on))
            refine wpQuiet_nil ?_; intro w2 hw2'; have hw2 := regrown_sees hw2'; clear hw2'
            have Hf : Hid (xs ≠ ws) := Lib.hid (fun e => by
              have h1 := Hr.out
              rw [e, Hs.out] at h1
              exact of_decide_eq_false HZ.out.symm (Option.some.inj h1).symm)
            go_wp2
            go_ret
            exact ⟨by rw [decide_eq_false Hf.out]; rfl, HS.out.trans (hS.trans hw2)⟩
          · go_wp2
            refine wp_region_quiet_below (by kernel_rfl) (by kernel_rfl) ?_
            repeat (first | go_big_quiet_skip | (go_big_quiet_want; go_big_quiet_op; go_big_quiet_on))
            (go_big_quiet_want; go_big_quiet_op; apply Exists.intro; refine ⟨fun p => Calls.regrown_of (KL.out _ (sees_grow wr _ _)), ?_⟩; go_big_quiet_on)
            repeat (first | go_big_quiet_skip | (go_big_quiet_want; go_big_quiet_op; go_big_quiet_on))
            refine wpQuiet_nil ?_; intro w2 hw2'; have hw2 := regrown_sees hw2'; clear hw2'
            go_wp2
            go_roundw
            case rel => exact ⟨k + 1, by omega, by go_num, take_more Hm.out Hr.out (by rw [Hs.out, of_decide_eq_true HZ.out.symm]), hS.trans hw2⟩
            case measure => simp [intOf]; omega
        · obtain rfl : k = q := by omega
          have hall : xs = ws := by
            have := Hm.out
            rwa [List.take_of_length_le (by rw [← HQ.out]; exact Nat.le_refl _), List.take_of_length_le (by rw [← HM.out]; exact Nat.le_refl _)] at this
          have Hf := Lib.hid hall
          have HNO := Lib.hid hno
          clear hall hno
          go_wp2
          go_ret
          exact ⟨by rw [decide_eq_true Hf.out, HNO.out]; rfl, HS.out.trans hS⟩
    · have hne2 : (er != no) = true := by simpa [bne] using hno
      have HNO := Lib.hid hno
      clear hno
      go_wp2
      go_ret
      exact ⟨by rw [HNO.out, Bool.and_false]; rfl, HS.out⟩
  · have hf : xs ≠ ws := fun e => hlen (by
      have := congrArg List.length e
      rw [HQ.out, HM.out]; exact this)
    have Hf := Lib.hid hf
    have hne : ((q : Int) != (m : Int)) = true := by rw [bne_iff_ne]; omega
    clear hf hlen
    go_wp2
    go_ret
    exact ⟨by rw [decide_eq_false Hf.out]; rfl, HS.out⟩
end Go.Proofs.YthcndmchlpohpaaGreatDoor
