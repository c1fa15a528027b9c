/- SearchHolds (42): its walk. The tables hold what the program's text lays. -/
import Derived.Test.YtfdolhppbimbmaaDoorShC
namespace Go.Proofs.YtfdolhppbimbmaaDoor
set_option linter.unusedVariables false
set_option linter.unusedSimpArgs false
open Go.RowKit Go.Shelf
attribute [local go_sem] Oper.semAt_some

def lastL (ls : List Ln) (i : Nat) (x : Ln) : Bool := !x.soft || decide (i + 1 = ls.length)
set_option maxHeartbeats 16000000 in
set_option maxRecDepth 100000 in
theorem holds_good (v : Value) (ls : List Ln) (first : Int) (p : ByteArray) (C : Nat) (w : World) (hst : Std w) (ht : Tabs w) (ha : lnEl.Rd (fun b => b < w.heap.size) w v ls) (hsm : smallB ls = true) (hp30 : p.size ≤ 30) (hc1 : 1 ≤ C) (hc2 : C ≤ 20) :
    Calls Tryd.prog 3 #[v, .int .i64 first, .string p, .int .i64 C] w fun e w' => e = .returned (.bool true) ∧ Sees w w' := by
  obtain ⟨a, n, cp, rfl⟩ : ∃ a n cp, v = .slice a n cp := by obtain ⟨a, c, rfl⟩ := ha.slice; exact ⟨_, _, _, rfl⟩
  have KN := Lib.hid (fun W (hs : Sees w W) => known_any W (hst.sees hs) (ht.sees hs))
  have KS := Lib.hid (small_any _ _ ls w ha p)
  rw [hsm, decide_eq_true hp30] at KS
  have HA := Lib.hid ha
  have HT := Lib.hid ht
  have HST := Lib.hid hst
  obtain ⟨hl1, hcell⟩ := smallB_ok hsm
  have HC := Lib.hid hcell
  have hp : p.size ≤ 1000000000 := by omega
  have HLM : Hid (ls.length ≤ 1000000) := by unfold RowKit.Hid; omega
  have HCM : Hid (∀ x ∈ ls, x.cells.length ≤ 1000000) := fun x hx => by have := hcell x hx; omega
  have hna : n = ls.length := ha.len
  have HN := Lib.hid hna
  have hn10 : n ≤ 10 := by omega
  have g1 : decide ((C : Int) < 1) = false := decide_eq_false (by omega)
  have g2 : decide ((C : Int) > 20) = false := decide_eq_false (by omega)
  clear ha hst ht hsm hcell hna
  go_enter Tryd.func3, Tryd.ntmps3
  go_wp2_with fail
  refine KS.out.mono ?_
  rintro e W1 ⟨rfl, s⟩
  have HS1 := Lib.hid s
  clear s KS
  rcases ckR_two ls first p with hk | hk
  case inr =>
    have HCK := Lib.hid hk
    clear hk
    go_wp2_with fail
    refine (all_err (HT.out.sees HS1.out) (rd_up HA.out HS1.out) HLM.out HCM.out hp false HCK.out).mono ?_
    rintro e W2 ⟨rfl, s⟩
    have HS2 := Lib.hid (HS1.out.trans s)
    clear s
    go_wp2_with fail
    refine (all_err (HT.out.sees HS2.out) (rd_up HA.out HS2.out) HLM.out HCM.out hp true HCK.out).mono ?_
    rintro e W3 ⟨rfl, s⟩
    have HS3 := Lib.hid (HS2.out.trans s)
    clear s
    go_wp2_with fail
    refine (KN.out _ HS3.out).mono ?_
    rintro e Wk ⟨rfl, sk⟩
    have HSk := Lib.hid (Sees.trans HS3.out sk)
    clear sk
    go_wp2
    go_ret
    exact ⟨rfl, HSk.out⟩
  have hlow : patOk p = true := (ckR_zero (by rw [hk]; rfl)).2.2
  have HPAT := Lib.hid hlow
  have hpn := ne_of_pat hlow
  obtain ⟨hro, _⟩ := ckR_zero (ls := ls) (first := first) (p := p) (by rw [hk]; rfl)
  obtain ⟨hq0, hq3, hq4⟩ := rowsOk_ok hro
  have HQ0 := Lib.hid hq0
  have HCK := Lib.hid hk
  clear hk hlow hro hq0
  have hfew : ∀ fold, (allM ls first p.data.toList fold).length ≤ 3200 := fun fold => by
    have := allM_few HC.out first p.data.toList fold
    have h3 : ls.length * (20 * 16) ≤ 10 * (20 * 16) := Nat.mul_le_mul_right _ hl1
    omega
  obtain ⟨ms, hms⟩ : ∃ ms, ms = allM ls first p.data.toList false := ⟨_, rfl⟩
  obtain ⟨ms2, hms2⟩ : ∃ ms2, ms2 = allM ls first p.data.toList true := ⟨_, rfl⟩
  have hf1 := hfew false
  have hf2 := hfew true
  rw [← hms] at hf1
  rw [← hms2] at hf2
  have HTK1 : Hid ((allM ls first p.data.toList false).take 10000 = ms) := by unfold RowKit.Hid; rw [← hms]; exact List.take_of_length_le (by omega)
  have HTK2 : Hid ((allM ls first p.data.toList true).take 10000 = ms2) := by unfold RowKit.Hid; rw [← hms2]; exact List.take_of_length_le (by omega)
  obtain ⟨M, hM⟩ : ∃ M, M = ms.length := ⟨_, rfl⟩
  obtain ⟨M2, hM2⟩ : ∃ M2, M2 = ms2.length := ⟨_, rfl⟩
  have HMM : Hid (0 < M → 0 < M2) := fun h => by
    rw [hM2, hms2]
    rw [hM, hms] at h
    exact List.length_pos_iff.2 (allM_fold hpn (List.length_pos_iff.1 h))
  have HSO : Hid (ms.Pairwise mtLe) := by unfold RowKit.Hid; rw [hms]; exact allM_sorted ls first hpn false
  have HGA : Hid (ms.Pairwise mtLt) := by unfold RowKit.Hid; rw [hms]; exact allM_gap ls first hpn false
  have HIN : Hid (∀ m ∈ ms, foR ls first p m.l0 m.c0 = 0) := fun m hm => by
    rw [hms] at hm
    obtain ⟨e1, e2, e3, e4, _⟩ := allM_in hpn (k := cols ls) (fun x hx => (HQ0.out x hx).1) hm
    unfold foR
    rw [if_pos HCK.out, if_neg]
    unfold foB
    rw [decide_eq_false (by omega), decide_eq_false (by omega), decide_eq_false (by omega), decide_eq_false (by omega)]
    simp
  have HMS := Lib.hid hms
  have hM3 : M ≤ 3200 := by omega
  have HM := Lib.hid hM
  have HM2 := Lib.hid hM2
  clear hms hms2 hM hM2 hf1 hf2 hfew hpn
  go_wp2_with fail
  refine (sall_ok (HST.out.sees HS1.out) (HT.out.sees HS1.out) (rd_up HA.out HS1.out) false HCK.out).mono ?_
  rintro e W2 ⟨v1, rfl, ho, s⟩
  rw [HTK1.out] at ho
  obtain ⟨a1, c1, rfl, _⟩ := ho.slice
  rw [← HM.out] at ho ⊢
  have HS2 := Lib.hid (HS1.out.trans s)
  have HO1 := Lib.hid ho.rd
  clear ho s
  go_wp2_with fail
  refine (sall_ok (HST.out.sees HS2.out) (HT.out.sees HS2.out) (rd_up HA.out HS2.out) true HCK.out).mono ?_
  rintro e W0 ⟨v2, rfl, ho, s⟩
  rw [HTK2.out] at ho
  obtain ⟨a2, c2, rfl, _⟩ := ho.slice
  rw [← HM2.out] at ho ⊢
  have HS3 := Lib.hid (HS2.out.trans s)
  have HO := Lib.hid (HO1.out.sees s)
  clear ho s HO1 HTK1 HTK2 HS1 HS2
  have KX : Hid (∀ (x y : Mt) W, Sees w W → foR ls first p x.l0 x.c0 = 0 → ms ≠ [] → nextR ms x.l0 x.c0 = y → Calls Tryd.prog 19 #[.slice a n cp, .int .i64 first, .string p, .bool false, .agg #[.int .i64 x.l0, .int .i64 x.c0], .agg #[.int .i64 y.l0, .int .i64 y.c0, .int .i64 y.l1, .int .i64 y.c1], .int .i64 0] W fun e w' => e = .returned (.bool true) ∧ Sees W w') :=
    fun x y W hs hf hne hn => nexts_any (HST.out.sees hs) (HT.out.sees hs) (rd_up HA.out hs) HLM.out HCM.out hp false x.l0 x.c0 y 0 (by rw [nxt_in hf, ← HMS.out, hn]; unfold noneE; rw [if_neg hne])
  go_wp2_with fail
  go_loopw [13] (fun jj W => ∃ (z : Nat) (j : Int), j = (z : Int) + 1 ∧ jj = .int .i64 j ∧ (z < M ∨ z = 0) ∧ Sees W0 W) (fun jj _ => M - (intOf jj).toNat)
  case atStart => exact ⟨0, 1, rfl, rfl, .inr rfl, Sees.refl _⟩
  case round =>
    obtain ⟨z, j, hj, rfl, hz, hS⟩ := hrel
    have HS := Lib.hid hS
    clear hS
    by_cases hlt : j < M
    · as_aux_lemma =>
      have hzM : z + 1 < M := by omega
      obtain ⟨b3, o3, x, rfl, hx, p0, p1, p2, p3⟩ := mt_at (HO.out.sees HS.out) (show z < M by omega)
      obtain ⟨b4, o4, y, e4, hy, q0, q1, _, _⟩ := mt_at (HO.out.sees HS.out) hzM
      obtain ⟨rfl, rfl⟩ : b3 = b4 ∧ o3 = o4 := by cases e4; exact ⟨rfl, rfl⟩
      have h1 : befB y.l0 y.c0 x.l0 x.c0 = false := befB_not (pair_at HSO.out hx hy).1
      have h2 : befB y.l0 y.c0 x.l1 x.c1 = false := befB_not (pair_at HGA.out hx hy)
      have KA1 := fun W => after_at h1 W
      have KA2 := fun W => after_at h2 W
      have hj0 : 0 ≤ j := by omega
      have hj2 : j.toNat = z + 1 := by omega
      have hj3 : j - 1 = (z : Int) := by omega
      have hj4 : IntKind.i64.wrap (j - 1) = (z : Int) := by rw [hj3]; exact IntWalk.i64_in _ (by omega)
      have hz1 : (z : Int) < M := by omega
      have HJ := Lib.hid hj
      have gp0 := fun d os => (sees_grow wr d os).cell p0
      have gp1 := fun d os => (sees_grow wr d os).cell p1
      have gp2 := fun d os => (sees_grow wr d os).cell p2
      have gp3 := fun d os => (sees_grow wr d os).cell p3
      have gq0 := fun d os => (sees_grow wr d os).cell q0
      have gq1 := fun d os => (sees_grow wr d os).cell q1
      clear p0 p1 p2 p3 q0 q1 hx hy h1 h2 e4 hj hz
      go_wp2
      refine wp_region_quiet_below (by kernel_rfl) (by kernel_rfl) ?_
      repeat (first | go_big_quiet_skip | (go_big_quiet_want; go_big_quiet_op; go_big_quiet_on))
      (go_big_quiet_want; go_big_quiet_op; apply Exists.intro; refine ⟨fun p => Calls.regrown_of (KA1 _), ?_⟩; go_big_quiet_on)
      repeat (first | go_big_quiet_skip | (go_big_quiet_want; go_big_quiet_op; go_big_quiet_on))
      (go_big_quiet_want; go_big_quiet_op; apply Exists.intro; refine ⟨fun p => Calls.regrown_of (KA2 _), ?_⟩; go_big_quiet_on)
      repeat (first | go_big_quiet_skip | (go_big_quiet_want; go_big_quiet_op; go_big_quiet_on))
      refine wpQuiet_nil ?_; intro w2 hw2'; have hw2 := regrown_sees hw2'; clear hw2'
      have hw3 : IntKind.i64.wrap (j + 1) = j + 1 := IntWalk.i64_in _ (by omega)
      clear hj2 hj3 hj4
      go_wp2
      exact ⟨⟨z + 1, j + 1, by have := HJ.out; omega, by go_num, .inl hzM, HS.out.trans hw2⟩, by simp [intOf]; omega⟩
    · clear hj hz
      go_upto_region 12 with fail
      go_cut [105] from 98 to 105 (fun v105 wx => v105 = .bool false ∧ wx = wr)
      case first =>
        rcases Nat.eq_zero_or_pos M with h0 | h0
        · have k1 : decide ((M : Int) > 0) = false := decide_eq_false (by omega)
          have k2 : ¬ ((0 : Int) < M) := by omega
          have k3 : ¬ (0 < M) := by omega
          clear h0 hlt
          go_wp2_with fail
          go_meet
          exact ⟨rfl, rfl⟩
        · have k1 : decide ((M : Int) > 0) = true := decide_eq_true (by omega)
          have k2 : (0 : Int) < M := by omega
          have k4 := HMM.out h0
          have k3 : ((M2 : Int) == 0) = false := by rw [beq_eq_false_iff_ne]; omega
          clear h0 hlt k4
          go_wp2_with fail
          go_meet
          exact ⟨rfl, rfl⟩
      case rest =>
        obtain ⟨rfl, rfl⟩ := hcut
        clear hlt
        go_wp2_with fail
        go_loopw [14] (fun ii W => ∃ i : Nat, i ≤ M ∧ ii = .int .i64 i ∧ Sees W0 W) (fun ii _ => M - (intOf ii).toNat)
        case atStart => exact ⟨0, by omega, rfl, HS.out⟩
        case round =>
          obtain ⟨i, hi, rfl, hS⟩ := hrel
          have HS2 := Lib.hid hS
          clear hS HS
          by_cases hlt : i < M
          · as_aux_lemma =>
            obtain ⟨kk, hkk⟩ : ∃ kk, kk = (i + 1) % M := ⟨_, rfl⟩
            have hkM : kk < M := by rw [hkk]; exact Nat.mod_lt _ (by omega)
            obtain ⟨b3, o3, x, rfl, hx, p0, p1, p2, p3⟩ := mt_at (HO.out.sees HS2.out) hlt
            obtain ⟨b4, o4, y, e4, hy, q0, q1, q2, q3⟩ := mt_at (HO.out.sees HS2.out) hkM
            obtain ⟨rfl, rfl⟩ : b3 = b4 ∧ o3 = o4 := by cases e4; exact ⟨rfl, rfl⟩
            obtain ⟨b5, o5, d, e5, hd, r0, r1, _, _⟩ := mt_at (HO.out.sees HS2.out) (show 0 < M by omega)
            obtain ⟨rfl, rfl⟩ : b3 = b5 ∧ o3 = o5 := by cases e5; exact ⟨rfl, rfl⟩
            rw [Nat.zero_mul, Nat.add_zero] at r0 r1
            have hne : ms ≠ [] := by intro e; rw [e] at hx; cases hx
            have HNE := Lib.hid hne
            have HFX := Lib.hid (HIN.out x (List.mem_iff_getElem?.2 ⟨_, hx⟩))
            have HLE : Hid ((M < 2 ∨ y.beh x.l0 x.c0 = true ∨ (kk = 0 ∧ x.beh d.l0 d.c0 = true)) → nextR ms x.l0 x.c0 = y) := fun h => by
              obtain ⟨d2, r, hdr⟩ := List.exists_cons_of_ne_nil hne
              have hdd : d2 = d := by rw [hdr] at hd; exact Option.some.inj hd
              have q := next_leads HSO.out hx (by rw [← HM.out, ← hkk]; exact hy) (by
                rcases h with h | h | ⟨h3, h4⟩
                · exact .inl (by rw [← HM.out]; exact h)
                · exact .inr (.inl h)
                · exact .inr (.inr ⟨by rw [← HM.out, ← hkk]; exact h3, d, hd, h4⟩)) d (by rw [List.head?_eq_getElem?]; exact hd)
              unfold nextR
              rw [hdr, hdd] at *
              exact q
            obtain ⟨B1, hB1⟩ : ∃ B1, B1 = y.beh x.l0 x.c0 := ⟨_, rfl⟩
            obtain ⟨B3, hB3⟩ : ∃ B3, B3 = x.beh d.l0 d.c0 := ⟨_, rfl⟩
            have h1 : befB x.l0 x.c0 y.l0 y.c0 = B1 := by rw [befB_beh]; exact hB1.symm
            have h3 : befB d.l0 d.c0 x.l0 x.c0 = B3 := by rw [befB_beh]; exact hB3.symm
            rw [← hB1, ← hB3] at HLE
            have KA1 := fun W => after_at h1 W
            have KA3 := fun W => after_at h3 W
            have htm : ((i : Int) + 1).tmod (M : Int) = (kk : Int) := by rw [hkk]; rfl
            have hm1 : (i : Int) < M := by omega
            have hm2 : (kk : Int) < M := by omega
            have hm3 : ((M : Int) == 0) = false := by rw [beq_eq_false_iff_ne]; omega
            have hm4 : (0 : Int) < M := by omega
            have hm5 : ¬ ((M : Int) = 0) := by omega
            have HK0 : Hid (((kk : Int) == 0) = true → kk = 0) := fun h => by have := beq_iff_eq.1 h; omega
            have HK2 : Hid (decide ((M : Int) < 2) = true → M < 2) := fun h => by have := of_decide_eq_true h; omega
            have hu1 : wrap64 (kk : Int) = (kk : Int) := by unfold wrap64; omega
            have gp0 := fun d os => (sees_grow wr d os).cell p0
            have gp1 := fun d os => (sees_grow wr d os).cell p1
            have gq0 := fun d os => (sees_grow wr d os).cell q0
            have gq1 := fun d os => (sees_grow wr d os).cell q1
            have gr0 := fun d os => (sees_grow wr d os).cell r0
            have gr1 := fun d os => (sees_grow wr d os).cell r1
            have P0 := Lib.hid p0
            have P1 := Lib.hid p1
            have Q0 := Lib.hid q0
            have Q1 := Lib.hid q1
            have Q2 := Lib.hid q2
            have Q3 := Lib.hid q3
            clear p0 p1 p2 p3 q0 q1 q2 q3 r0 r1 hx hy hd e4 e5 h1 h3 hB1 hB3 hkk hne
            go_upto_region 18 with fail
            go_cut [152] from 117 to 152 (fun v152 wx => ∃ B : Bool, v152 = .bool B ∧ (B = true → nextR ms x.l0 x.c0 = y) ∧ Sees wr wx)
            case first =>
              rcases Bool.eq_false_or_eq_true (decide ((M : Int) < 2)) with f1 | f1
              · have HB : Hid (nextR ms x.l0 x.c0 = y) := HLE.out (.inl (HK2.out f1))
                refine wp_region_quiet_below (by kernel_rfl) (by kernel_rfl) ?_
                repeat (first | go_big_quiet_skip | (go_big_quiet_want; go_big_quiet_op; go_big_quiet_on))
                refine wpQuiet_nil ?_; intro w2 hw2'; have hw2 := regrown_sees hw2'; clear hw2'
                go_wp2_with fail
                go_meet
                exact ⟨true, rfl, fun _ => HB.out, hw2⟩
              cases B1
              · rcases Bool.eq_false_or_eq_true ((kk : Int) == 0) with f2 | f2
                · cases B3
                  · refine wp_region_quiet_below (by kernel_rfl) (by kernel_rfl) ?_
                    repeat (first | go_big_quiet_skip | (go_big_quiet_want; go_big_quiet_op; go_big_quiet_on))
                    (go_big_quiet_want; go_big_quiet_op; apply Exists.intro; refine ⟨fun p => Calls.regrown_of (KA1 _), ?_⟩; go_big_quiet_on)
                    repeat (first | go_big_quiet_skip | (go_big_quiet_want; go_big_quiet_op; go_big_quiet_on))
                    (go_big_quiet_want; go_big_quiet_op; apply Exists.intro; refine ⟨fun p => Calls.regrown_of (KA3 _), ?_⟩; go_big_quiet_on)
                    repeat (first | go_big_quiet_skip | (go_big_quiet_want; go_big_quiet_op; go_big_quiet_on))
                    refine wpQuiet_nil ?_; intro w2 hw2'; have hw2 := regrown_sees hw2'; clear hw2'
                    go_wp2_with fail
                    go_meet
                    exact ⟨false, rfl, fun e => (by cases e), hw2⟩
                  · have HB : Hid (nextR ms x.l0 x.c0 = y) := HLE.out (.inr (.inr ⟨HK0.out f2, rfl⟩))
                    refine wp_region_quiet_below (by kernel_rfl) (by kernel_rfl) ?_
                    repeat (first | go_big_quiet_skip | (go_big_quiet_want; go_big_quiet_op; go_big_quiet_on))
                    (go_big_quiet_want; go_big_quiet_op; apply Exists.intro; refine ⟨fun p => Calls.regrown_of (KA1 _), ?_⟩; go_big_quiet_on)
                    repeat (first | go_big_quiet_skip | (go_big_quiet_want; go_big_quiet_op; go_big_quiet_on))
                    (go_big_quiet_want; go_big_quiet_op; apply Exists.intro; refine ⟨fun p => Calls.regrown_of (KA3 _), ?_⟩; go_big_quiet_on)
                    repeat (first | go_big_quiet_skip | (go_big_quiet_want; go_big_quiet_op; go_big_quiet_on))
                    refine wpQuiet_nil ?_; intro w2 hw2'; have hw2 := regrown_sees hw2'; clear hw2'
                    go_wp2_with fail
                    go_meet
                    exact ⟨true, rfl, fun _ => HB.out, hw2⟩
                · refine wp_region_quiet_below (by kernel_rfl) (by kernel_rfl) ?_
                  repeat (first | go_big_quiet_skip | (go_big_quiet_want; go_big_quiet_op; go_big_quiet_on))
                  (go_big_quiet_want; go_big_quiet_op; apply Exists.intro; refine ⟨fun p => Calls.regrown_of (KA1 _), ?_⟩; go_big_quiet_on)
                  repeat (first | go_big_quiet_skip | (go_big_quiet_want; go_big_quiet_op; go_big_quiet_on))
                  refine wpQuiet_nil ?_; intro w2 hw2'; have hw2 := regrown_sees hw2'; clear hw2'
                  go_wp2_with fail
                  go_meet
                  exact ⟨false, rfl, fun e => (by cases e), hw2⟩
              · have HB : Hid (nextR ms x.l0 x.c0 = y) := HLE.out (.inr (.inl rfl))
                refine wp_region_quiet_below (by kernel_rfl) (by kernel_rfl) ?_
                repeat (first | go_big_quiet_skip | (go_big_quiet_want; go_big_quiet_op; go_big_quiet_on))
                (go_big_quiet_want; go_big_quiet_op; apply Exists.intro; refine ⟨fun p => Calls.regrown_of (KA1 _), ?_⟩; go_big_quiet_on)
                repeat (first | go_big_quiet_skip | (go_big_quiet_want; go_big_quiet_op; go_big_quiet_on))
                refine wpQuiet_nil ?_; intro w2 hw2'; have hw2 := regrown_sees hw2'; clear hw2'
                go_wp2_with fail
                go_meet
                exact ⟨true, rfl, fun _ => HB.out, hw2⟩
            case rest =>
              obtain ⟨B, rfl, hB, hsc⟩ := hcut
              have HSc := Lib.hid hsc
              have HBB := Lib.hid hB
              clear hsc hB gp0 gp1 gq0 gq1 gr0 gr1 KA1 KA3 htm hm3 hm4 hm5
              cases B
              · go_wp2
                exact ⟨⟨i + 1, by omega, by go_num, HS2.out.trans HSc.out⟩, by simp [intOf]; omega⟩
              · have HNX := Lib.hid (HBB.out rfl)
                have p0 := HSc.out.cell P0.out
                have p1 := HSc.out.cell P1.out
                have q0 := HSc.out.cell Q0.out
                have q1 := HSc.out.cell Q1.out
                have q2 := HSc.out.cell Q2.out
                have q3 := HSc.out.cell Q3.out
                go_upto_region 19 with fail
                have gp0 := fun d os => (sees_grow wc d os).cell p0
                have gp1 := fun d os => (sees_grow wc d os).cell p1
                have gq0 := fun d os => (sees_grow wc d os).cell q0
                have gq1 := fun d os => (sees_grow wc d os).cell q1
                have gq2 := fun d os => (sees_grow wc d os).cell q2
                have gq3 := fun d os => (sees_grow wc d os).cell q3
                clear p0 p1 q0 q1 q2 q3
                refine wp_region_quiet_below (by kernel_rfl) (by kernel_rfl) ?_
                repeat (first | go_big_quiet_skip | (go_big_quiet_want; go_big_quiet_op; go_big_quiet_on))
                (go_big_quiet_want; go_big_quiet_op; apply Exists.intro; refine ⟨fun p => Calls.regrown_of (KX.out x y _ (HS3.out.trans ((HS2.out.trans HSc.out).trans (sees_grow wc _ _))) HFX.out HNE.out HNX.out), ?_⟩; go_big_quiet_on)
                repeat (first | go_big_quiet_skip | (go_big_quiet_want; go_big_quiet_op; go_big_quiet_on))
                refine wpQuiet_nil ?_; intro w2 hw2'; have hw2 := regrown_sees hw2'; clear hw2'
                have HSe := Lib.hid ((HS2.out.trans HSc.out).trans hw2)
                clear hw2
                go_wp2
                exact ⟨⟨i + 1, by omega, by go_num, HSe.out⟩, by simp [intOf]; omega⟩
          · obtain rfl : M = i := by omega
            clear hi
            have HS4 := Lib.hid (HS3.out.trans HS2.out)
            clear HS2 HS3 KX HIN HGA HSO HMM
            go_wp2_with fail
            go_loopw [16, 17, 18] (fun vc vo ii W => ∃ (i : Nat) (acc : List Cell) (os : List Ln) (dn : List (List Cell)), i ≤ n ∧ ii = .int .i64 i ∧ acc.length ≤ i * 20 ∧ Hid (segsC [] ls = dn ++ segsC acc (ls.drop i)) ∧ Hid (os = dn.flatMap fun cs => wrapRows C (cs.length + 1) cs) ∧ Hid (∀ cs ∈ dn, endsFull cs) ∧ Hid (∀ x ∈ ls.take i, ∀ d ∈ x.cells, d.width = 1) ∧ ShI w acc os vc vo W) (fun _ _ ii _ => n - (intOf ii).toNat)
            case atStart => exact ⟨0, [], [], [], by omega, rfl, by simp, (by unfold RowKit.Hid; simp), rfl, (fun _ h => by cases h), (fun x h => by simp at h), ShI.start HS4.out⟩
            case round =>
              obtain ⟨i, acc, os, dn, hi, rfl, hal, hA1, hOS, hEF, hW1, hS⟩ := hrel
              have HS := Lib.hid hS
              clear hS HS4
              by_cases hlt : i < n
              · obtain ⟨b1, o1, x, a3, m1, rfl, _, hx, hcap, x1, x2, x3⟩ := HA.out.line hlt
                have hxl := HC.out x (List.mem_iff_getElem?.2 ⟨_, hx⟩)
                have HX := Lib.hid hx
                have X1 := Lib.hid x1
                have X2 := Lib.hid x2
                have X3 := Lib.hid x3
                replace x1 := HS.out.s.cell x1
                replace x2 := HS.out.s.cell x2
                have hL : Hid (lastL ls i x = (!x.soft || decide (i + 1 = ls.length))) := rfl
                obtain ⟨L, hLL⟩ : ∃ L, L = lastL ls i x := ⟨_, rfl⟩
                rw [← hLL] at hL
                have HSEG := Lib.hid (segsC_here (acc := acc) hx)
                rw [← hL.out] at HSEG
                clear hx x3 hLL
                generalize hcl : x.cells.length = m at *
                have HCL := Lib.hid hcl
                clear hcl
                go_upto_region 26 with fail
                go_cut [19] from 173 to 185 (fun v19 wx => v19 = .bool L ∧ wx = wr)
                case first =>
                  have hnn := HN.out
                  rcases Bool.eq_false_or_eq_true x.soft with e1 | e1
                  · rw [e1] at x2
                    rcases Nat.lt_or_ge (i + 1) n with e2 | e2
                    · have e3 : ((i : Int) == (n : Int) - 1) = false := by rw [beq_eq_false_iff_ne]; omega
                      have e4 : L = false := by rw [hL.out, e1]; simp; omega
                      clear hnn
                      go_wp2_with fail
                      go_meet
                      exact ⟨by rw [e4], rfl⟩
                    · have e3 : ((i : Int) == (n : Int) - 1) = true := by rw [beq_iff_eq]; omega
                      have e4 : L = true := by rw [hL.out, e1]; simp; omega
                      clear hnn
                      go_wp2_with fail
                      go_meet
                      exact ⟨by rw [e4], rfl⟩
                  · rw [e1] at x2
                    have e4 : L = true := by rw [hL.out, e1]; simp
                    clear hnn
                    go_wp2_with fail
                    go_meet
                    exact ⟨by rw [e4], rfl⟩
                case rest =>
                  obtain ⟨rfl, rfl⟩ := hcut
                  clear x1 x2
                  have hpl : (x.part L).length ≤ m := by rw [← HCL.out]; exact x.part_len L
                  have hal2 : (acc ++ x.part L).length ≤ (i + 1) * 20 := by rw [List.length_append]; omega
                  have HPL := Lib.hid hpl
                  have HAL2 := Lib.hid hal2
                  clear hpl hal2
                  go_wp2_with fail
                  go_loopw [16, 20] (fun vc kk W => ∃ k : Nat, k ≤ m ∧ kk = .int .i64 k ∧ Hid (∀ d ∈ x.cells.take k, d.width = 1) ∧ ShI w (acc ++ (x.part L).take k) os vc u17 W) (fun _ kk _ => m - (intOf kk).toNat)
                  case atStart => exact ⟨0, by omega, rfl, (fun d h => by simp at h), by simpa using HS.out⟩
                  case round =>
                    obtain ⟨k, hk, rfl, HWD, hS2⟩ := hrel
                    have HS2 := Lib.hid hS2
                    clear hS2
                    have y1 := HS2.out.s.cell X1.out
                    have y2 := HS2.out.s.cell X2.out
                    by_cases hkm : k < m
                    · obtain ⟨b2, o2, c, rfl, _, hcc, hat0⟩ := X3.out.cell hkm
                      have hat := hat0.sees HS2.out.s
                      have HPS := Lib.hid (part_step (L := L) hcc)
                      have HWD2 : Hid (c.width = 1 → ∀ d ∈ x.cells.take (k + 1), d.width = 1) := fun h d hd => by
                        rw [List.take_add_one, hcc] at hd
                        rcases List.mem_append.1 hd with hd | hd
                        · exact HWD.out d hd
                        · have : d = c := by simpa using hd
                          rw [this]; exact h
                      clear hcc hat0
                      go_upto_region 31 with (first
                        | (guard_target = wpList _ _ _ ({ dst := _, op := Op.load 46 _, type := _, pos := _, after := _, guard := _ } :: _) _ _; refine wpList_val rfl (exec_load (v := c.val) rfl rfl (run_loadCell hat)) (fun K hK => ?_); go_simp; refine hK _ _ ?_; clear hK K)
                        | (guard_target = wpList _ _ _ ({ dst := _, op := Op.store 46 _ _, type := _, pos := _, after := _, guard := _ } :: _) _ _; refine wpList_skip rfl (exec_store (v := c.val) rfl rfl rfl (run_storeNew c _ rfl _ rfl)) (fun K hK => ?_); go_simp; refine hK _ _ ?_; clear hK K))
                      refine wp_world fun W2 hW2 => ?_
                      have C2 : Hid (CellAt W2 wr.heap.size 0 c) := by subst hW2; exact cellAt_new _ c _
                      have HS3 : Hid (ShI w (acc ++ (x.part L).take k) os u16 u17 W2) := by subst hW2; exact HS2.out.sees ((Sees.refl _).alloc _)
                      clear hW2 hat HS2 y1 y2
                      have cw : W2.cell? ⟨wr.heap.size, 4, none⟩ = some (.int .i64 c.width) := C2.out.all.2.2.2.2.1
                      rcases Bool.eq_false_or_eq_true (c.width == 1) with e1 | e1
                      · have hne : (c.width != 1) = false := by rw [bne, e1]; rfl
                        have HW2 := Lib.hid (HWD2.out (beq_iff_eq.1 e1))
                        clear e1 HWD2
                        have z1 := HS3.out.s.cell X1.out
                        have z2 := HS3.out.s.cell X2.out
                        obtain ⟨D, hD⟩ : ∃ D, D = !(L && decide (usedN x.cells ≤ k)) := ⟨_, rfl⟩
                        have HD := Lib.hid hD
                        clear hD
                        go_upto_region 33 with fail
                        go_cut [218] from 208 to 218 (fun v218 wx => v218 = .bool D ∧ Sees W2 wx)
                        case first =>
                          clear cw hne
                          cases L
                          · go_wp2_with fail
                            go_meet
                            exact ⟨by rw [HD.out]; rfl, Sees.refl _⟩
                          · have KU := Lib.hid (used_any _ x _ _ (X3.out.sees HS3.out.s) (by rw [HCL.out]; omega))
                            have hgN : decide (k < usedN x.cells) = D := by
                              rw [HD.out]
                              rcases Nat.lt_or_ge k (usedN x.cells) with h | h
                              · rw [decide_eq_true h, decide_eq_false (by omega)]; rfl
                              · rw [decide_eq_false (by omega), decide_eq_true h]; rfl
                            have hg : decide ((k : Int) < (usedN x.cells : Int)) = D := by
                              rw [HD.out]
                              rcases Nat.lt_or_ge k (usedN x.cells) with h | h
                              · rw [decide_eq_true (by omega), decide_eq_false (by omega)]; rfl
                              · rw [decide_eq_false (by omega), decide_eq_true (by omega)]; rfl
                            go_wp2_with fail
                            refine KU.out.mono ?_
                            rintro e W3 ⟨rfl, s⟩
                            go_wp2_with fail
                            go_meet
                            exact ⟨by first | rfl | exact congrArg Value.bool hgN, s⟩
                        case rest =>
                          obtain ⟨rfl, hsc⟩ := hcut
                          have HS4 := Lib.hid (HS3.out.sees hsc)
                          have C3 := Lib.hid (C2.out.sees hsc)
                          clear hsc cw hne z1 z2 C2 HS3
                          cases D
                          · have hn1 : L = true ∧ usedN x.cells ≤ k := by
                              have := HD.out
                              cases L
                              · cases this
                              · exact ⟨rfl, by simpa using this⟩
                            have HPS2 := HPS.out
                            rw [if_pos hn1] at HPS2
                            have HP2 := Lib.hid HPS2
                            clear HPS2 hn1
                            go_wp2_with fail
                            exact ⟨⟨k + 1, by omega, by go_num, HW2.out, by rw [HP2.out]; exact HS4.out⟩, by simp [intOf]; omega⟩
                          · have hn1 : ¬ (L = true ∧ usedN x.cells ≤ k) := by
                              have := HD.out
                              cases L
                              · simp
                              · simpa using this
                            have HPS2 := HPS.out
                            rw [if_neg hn1, ] at HPS2
                            have HP2 := Lib.hid HPS2
                            clear HPS2 hn1
                            have sA : Sees wc (wc.alloc (.cells #[.int .i32 c.rune, .int .i32 c.m0, .int .i32 c.m1, .int .i32 c.m2, .int .i64 c.width, .int .i64 c.f0, .int .u8 c.f1, .int .u8 c.f2, .int .u8 c.f3, .int .u8 c.f4, .int .i64 c.b0, .int .u8 c.b1, .int .u8 c.b2, .int .u8 c.b3, .int .u8 c.b4, .int .u8 c.flags] 46)) := (Sees.refl wc).alloc _
                            have HSA := Lib.hid sA
                            have HB := Lib.hid (HS4.out.sees sA)
                            have Hrow := Lib.hid (heap_alloc_new wc (.cells #[.int .i32 c.rune, .int .i32 c.m0, .int .i32 c.m1, .int .i32 c.m2, .int .i64 c.width, .int .i64 c.f0, .int .u8 c.f1, .int .u8 c.f2, .int .u8 c.f3, .int .u8 c.f4, .int .i64 c.b0, .int .u8 c.b1, .int .u8 c.b2, .int .u8 c.b3, .int .u8 c.b4, .int .u8 c.flags] 46))
                            have HL2 : Hid ((acc ++ (x.part L).take k).length + [c].length ≤ 100000000) := by
                              unfold RowKit.Hid
                              rw [List.length_append, List.length_take, List.length_singleton]
                              omega
                            have hat3 := C3.out
                            clear sA
                            go_wp2_with (first
                              | (guard_target = wpList _ _ _ ({ dst := _, op := Op.load 46 _, type := _, pos := _, after := _, guard := _ } :: _) _ _; refine wpList_val rfl (exec_load (v := .agg #[.int .i32 c.rune, .int .i32 c.m0, .int .i32 c.m1, .int .i32 c.m2, .int .i64 c.width, .int .i64 c.f0, .int .u8 c.f1, .int .u8 c.f2, .int .u8 c.f3, .int .u8 c.f4, .int .i64 c.b0, .int .u8 c.b1, .int .u8 c.b2, .int .u8 c.b3, .int .u8 c.b4, .int .u8 c.flags]) rfl rfl (run_loadCell hat3)) (fun K hK => ?_); go_simp; refine hK _ _ ?_; clear hK K)
                              | (at_builtin; refine El.wpList_append_own (v := u16) typedCell rfl (.tmp 219) (.tmp 221) rfl (by go_simp) HB.out.c ⟨wc.heap.size, 0, none⟩ 1 1 (by go_simp) [.int .i32 c.rune, .int .i32 c.m0, .int .i32 c.m1, .int .i32 c.m2, .int .i64 c.width, .int .i64 c.f0, .int .u8 c.f1, .int .u8 c.f2, .int .u8 c.f3, .int .u8 c.f4, .int .i64 c.b0, .int .u8 c.b1, .int .u8 c.b2, .int .u8 c.b3, .int .u8 c.b4, .int .u8 c.flags] [c] (fun _ => False) (El.ownIn_one (E := cellEl) rfl) rfl (fun j u hu => El.row_cells Hrow.out j u hu) (fun b hb => (HB.out.c.base hb).2) (fun b hb => hb.elim) HL2.out ?_; intro v7 w7 ho7 hk7; have HD7 := Lib.hid (HS4.out.addC HSA.out ho7 hk7); clear ho7 hk7))
                            exact ⟨⟨k + 1, by omega, by go_num, HW2.out, by rw [HP2.out, ← List.append_assoc]; exact HD7.out⟩, by simp [intOf]; omega⟩
                      · have hne : (c.width != 1) = true := by rw [bne, e1]; rfl
                        clear e1
                        have HSw := Lib.hid HS3.out.s
                        go_wp2_with fail
                        refine (KN.out _ HSw.out).mono ?_
                        rintro e Wk ⟨rfl, sk⟩
                        have HSk := Lib.hid (Sees.trans HSw.out sk)
                        clear sk cw
                        go_wp2
                        go_ret
                        exact ⟨rfl, HSk.out⟩
                    · obtain rfl : k = m := by omega
                      rw [List.take_of_length_le HPL.out] at HS2
                      clear hkm hk
                      cases L
                      · rw [if_neg (by decide)] at HSEG
                        have e1 : (x.part false) = x.cells := rfl
                        rw [e1] at HS2 HAL2
                        clear e1
                        have HW3 : Hid (∀ y ∈ ls.take (i + 1), ∀ d ∈ y.cells, d.width = 1) := fun y hy d hd => by
                          rw [List.take_add_one, HX.out] at hy
                          rcases List.mem_append.1 hy with hy | hy
                          · exact hW1.out y hy d hd
                          · have : y = x := by simpa using hy
                            rw [this] at hd
                            exact HWD.out d (by rw [List.take_of_length_le (by rw [HCL.out]; exact Nat.le_refl _)]; exact hd)
                        go_wp2_with fail
                        exact ⟨⟨i + 1, acc ++ x.cells, os, dn, by omega, by go_num, HAL2.out, (by unfold RowKit.Hid; rw [hA1.out, HSEG.out]), hOS, hEF, HW3.out, HS2.out⟩, by simp [intOf]; omega⟩
                      · rw [if_pos rfl] at HSEG
                        obtain ⟨T, hT⟩ : ∃ T, T = acc ++ x.part true := ⟨_, rfl⟩
                        rw [← hT] at HS2 HSEG HAL2
                        clear hT
                        have HW3 : Hid (∀ y ∈ ls.take (i + 1), ∀ d ∈ y.cells, d.width = 1) := fun y hy d hd => by
                          rw [List.take_add_one, HX.out] at hy
                          rcases List.mem_append.1 hy with hy | hy
                          · exact hW1.out y hy d hd
                          · have : y = x := by simpa using hy
                            rw [this] at hd
                            exact HWD.out d (by rw [List.take_of_length_le (by rw [HCL.out]; exact Nat.le_refl _)]; exact hd)
                        have hTl : T.length ≤ 220 := by
                          have h1 := HAL2.out
                          have : (i + 1) * 20 ≤ 11 * 20 := Nat.mul_le_mul_right _ (by omega)
                          omega
                        have HTOT : Hid ((os ++ wrapRows C (T.length + 1) T).length ≤ 210) := by
                          have h1 := wraps_len hc1 (ls := ls) (m := 20) HC.out
                          have h2 : ls.length * (20 + 1) ≤ 10 * 21 := Nat.mul_le_mul_right _ hl1
                          rw [hA1.out, HSEG.out, List.flatMap_append, ← hOS.out, List.flatMap_cons, ← List.append_assoc, List.length_append] at h1
                          unfold RowKit.Hid
                          omega
                        obtain ⟨aT, cT, h16, _⟩ := HS2.out.c.slice
                        have e16 := h16
                        subst e16
                        clear h16
                        generalize hNN : T.length = N at *
                        have HNN := Lib.hid hNN
                        clear hNN
                        go_upto_region 37 with fail
                        go_cut [236] from 227 to 236 (fun v236 wx => ∃ E : Bool, v236 = .bool E ∧ (E = false → endsFull T) ∧ Sees wr wx)
                        case first =>
                          rcases Nat.eq_zero_or_pos N with h0 | h0
                          · have hE : Hid (endsFull T) := .inl (List.eq_nil_of_length_eq_zero (by rw [HNN.out]; exact h0))
                            have k1 : decide ((N : Int) > 0) = false := decide_eq_false (by omega)
                            have k2 : ¬ ((0 : Int) < N) := by omega
                            have k3 : ¬ (0 < N) := by omega
                            clear h0
                            go_wp2_with fail
                            go_meet
                            exact ⟨false, rfl, fun _ => hE.out, Sees.refl _⟩
                          · obtain ⟨b5, o5, c5, rfl, _, hc5, hat5⟩ := HS2.out.c.rd.cell (show N - 1 < N by omega)
                            have hE : Hid (decide (c5 = blankC) = false → endsFull T) := fun h => .inr (by
                              rw [List.getLast?_eq_getElem?, HNN.out, hc5]
                              intro e
                              exact of_decide_eq_false h (Option.some.inj e))
                            have KE : Hid (∀ W, Calls Tryd.prog 21 #[.agg #[.int .i32 c5.rune, .int .i32 c5.m0, .int .i32 c5.m1, .int .i32 c5.m2, .int .i64 c5.width, .int .i64 c5.f0, .int .u8 c5.f1, .int .u8 c5.f2, .int .u8 c5.f3, .int .u8 c5.f4, .int .i64 c5.b0, .int .u8 c5.b1, .int .u8 c5.b2, .int .u8 c5.b3, .int .u8 c5.b4, .int .u8 c5.flags]] W fun e w' => e = .returned (.bool (decide (c5 = blankC))) ∧ Sees W w') := fun W => empty_any c5 W
                            obtain ⟨E, hEE⟩ : ∃ E, E = decide (c5 = blankC) := ⟨_, rfl⟩
                            rw [← hEE] at hE KE
                            have k1 : decide ((N : Int) > 0) = true := decide_eq_true (by omega)
                            have k2 : (0 : Int) < N := by omega
                            have hm0 : (0 : Int) ≤ (N : Int) - 1 := by omega
                            have hm1 : (N : Int) - 1 < N := by omega
                            have hm2 : ((N : Int) - 1).toNat = N - 1 := by omega
                            have hm3 : ¬ ((N : Int) < 1) := by omega
                            have hm5 : IntKind.i64.wrap ((N : Int) - 1) = (N : Int) - 1 := IntWalk.i64_in _ (by omega)
                            obtain ⟨f0, f1, f2, f3, f4, f5, f6, f7, f8, f9, f10, f11, f12, f13, f14, f15⟩ := hat5.all
                            clear hat5 hc5 hEE h0
                            go_wp2_with fail
                            refine (KE.out _).mono ?_
                            rintro e W3 ⟨rfl, s⟩
                            clear f0 f1 f2 f3 f4 f5 f6 f7 f8 f9 f10 f11 f12 f13 f14 f15
                            go_wp2_with fail
                            go_meet
                            exact ⟨E, rfl, fun h => hE.out h, s⟩
                        case rest =>
                          obtain ⟨E, rfl, hE, hsc⟩ := hcut
                          have HS3 := Lib.hid (HS2.out.sees hsc)
                          have HE := Lib.hid hE
                          clear hsc hE HS2
                          cases E
                          case true =>
                            have HSw := Lib.hid HS3.out.s
                            go_wp2_with fail
                            refine (KN.out _ HSw.out).mono ?_
                            rintro e Wk ⟨rfl, sk⟩
                            have HSk := Lib.hid (Sees.trans HSw.out sk)
                            clear sk
                            go_wp2
                            go_ret
                            exact ⟨rfl, HSk.out⟩
                          have HEN := Lib.hid (HE.out rfl)
                          clear HE
                          go_wp2_with fail
                          refine rows_loop w _ C N cT aT T os hc1 hc2 hTl HNN HTOT _ _ _ _ _ _ _ _ _ _ _ _ _ _ _ _ _ _ _ _ _ _ _ _ _ _ _ _ _ _ _ _ _ _ _ _ _ _ _ _ _ _ _ _ _ _ _ _ _ _ _ _ _ _ _ _ _ _ _ _ _ _ _ _ _ _ _ _ _ _ _ _ _ _ _ _ _ _ _ _ _ _ _ _ _ _ _ _ _ _ _ _ _ _ _ _ _ _ _ _ _ _ _ _ _ _ _ _ _ _ _ _ _ _ _ _ _ _ _ _ _ _ _ _ _ _ _ _ _ _ _ _ _ _ _ _ _ _ _ _ _ _ _ _ _ _ _ _ _ _ _ _ _ _ _ _ _ _ _ _ _ _ _ _ _ _ _ _ _ _ _ _ _ _ _ _ _ _ _ _ _ _ _ _ _ _ _ _ _ _ _ _ _ _ _ _ _ _ _ _ _ _ _ _ _ _ _ _ _ _ _ _ _ _ _ _ _ _ _ _ _ _ _ _ _ _ _ _ _ _ _ _ _ _ _ _ _ _ _ _ _ _ _ _ _ _ _ _ _ _ _ _ _ _ _ _ _ _ _ _ _ _ _ _ _ _ _ _ _ _ _ _ _ _ _ _ _ _ _ _ _ _ _ _ _ _ _ _ _ _ _ _ _ _ _ _ _ _ _ _ _ _ HS3 _ (Lib.hid (fun _ _ _ _ _ h => h)) (Lib.hid ?_)
                          intro v17 v23 v24 v25 v238 v239 v240 v241 v242 v243 v244 v245 v246 v247 v248 v249 v250 v251 v252 v253 v254 v255 v256 v257 v258 v259 v260 v261 v262 v263 v264 v265 v266 v267 v268 v269 v270 v271 v272 v273 v274 v275 v276 v277 v278 v279 v280 v281 v282 v283 v284 v285 v286 v287 W7 hw7
                          have HZ := Lib.hid hw7.clear
                          clear hw7 HS3
                          go_wp2_with fail
                          exact ⟨⟨i + 1, [], os ++ wrapRows C (N + 1) T, dn ++ [T], by omega, by go_num, by simp, (by unfold RowKit.Hid; rw [hA1.out, HSEG.out, List.append_assoc]; rfl), (by unfold RowKit.Hid; rw [List.flatMap_append, ← hOS.out, List.flatMap_singleton, HNN.out]), (fun cs hcs => by
                            rcases List.mem_append.1 hcs with h | h
                            · exact hEF.out cs h
                            · rw [List.mem_singleton.1 h]; exact HEN.out), HW3.out, HZ.out⟩, by simp [intOf]; omega⟩
              · obtain rfl : i = n := by omega
                have hd1 : ls.drop i = [] := by rw [HN.out, List.drop_length]
                have hAll : segsC [] ls = dn := by rw [hA1.out, hd1, segsC, List.append_nil]
                have hos : os = (segsC [] ls).flatMap fun cs => wrapRows C (cs.length + 1) cs := by rw [hOS.out, hAll]
                have hend : ∀ cs ∈ segsC [] ls, endsFull cs := by rw [hAll]; exact hEF.out
                have hv : ∀ x ∈ ls, ∀ d ∈ x.cells, d.valid = true ∧ d.width = 1 := fun x hx d hd => ⟨ok_valid (HQ0.out x hx).2.1 hd, hW1.out x (by rw [HN.out, List.take_length]; exact hx) d hd⟩
                have hrows : rowsOk os 0 = true := by rw [hos]; exact wraps_ok hc1 (by omega) hv
                have hlen : os.length ≤ 210 := by
                  rw [hos]
                  have h1 := wraps_len hc1 (ls := ls) (m := 20) HC.out
                  have h2 : ls.length * (20 + 1) ≤ 10 * 21 := Nat.mul_le_mul_right _ hl1
                  omega
                have HCK2 := Lib.hid (ckR_ok hrows (by omega) HPAT.out)
                have HCNT : Hid (M = (allM os 0 p.data.toList false).length) := by unfold RowKit.Hid; rw [hos, wrap_count hc1 ls first p.data.toList hend, ← HMS.out]; exact HM.out
                obtain ⟨aO, cO, h17, _⟩ := HS.out.o.slice
                have e17 := h17
                subst e17
                have HSw := Lib.hid HS.out.s
                have HOr := Lib.hid (HS.out.o.rd.mono (G := fun b => b < wr.heap.size) (fun b hb _ => hb))
                clear hd1 hAll hos hend hv hrows hlen h17 hA1 hOS hEF hW1 HS hi hlt hal
                go_wp2_with fail
                refine (count_ok (HST.out.sees HSw.out) (HT.out.sees HSw.out) HOr.out false HCK2.out M HCNT.out (by omega)).mono ?_
                rintro e W8 ⟨rfl, s⟩
                have HS8 := Lib.hid (HSw.out.trans s)
                clear s
                go_wp2_with fail
                refine (KN.out _ HS8.out).mono ?_
                rintro e Wk ⟨rfl, sk⟩
                have HSk := Lib.hid (Sees.trans HS8.out sk)
                clear sk
                go_wp2
                go_ret
                exact ⟨rfl, HSk.out⟩
end Go.Proofs.YtfdolhppbimbmaaDoor
