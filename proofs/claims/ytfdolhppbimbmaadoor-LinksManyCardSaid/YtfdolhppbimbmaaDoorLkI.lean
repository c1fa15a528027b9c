/- links.All (43). The tables hold what the program's text lays. links.At (43). The tables hold what the program's text lays. The statements' tests of All and At (43). The tables hold what the program's text lays. No condition. -/
import Derived.Test.YtfdolhppbimbmaaDoorLkQ
import Derived.Test.YtfdolhppbimbmaaDoorLkE
import Derived.Test.YtfdolhppbimbmaaDoorGaL
import Derived.Deep.CutRange
namespace Go.Proofs.YtfdolhppbimbmaaDoor
set_option linter.unusedVariables false
set_option linter.unusedSimpArgs false
open Go.RowKit Go.Shelf

section
variable {w : World} {a : Option Addr} {n cp : Nat} {ls : List Ln} {first : Int}
theorem lall_err (ht : Tabs w) (ha : lnEl.Rd (fun b => b < w.heap.size) w (.slice a n cp) ls) (hn : ls.length ≤ 1000000) (hc : ∀ x ∈ ls, x.cells.length ≤ 1000000) (h : ofE ls first = 2) :
    Calls Tryd.prog 35 #[.slice a n cp, .int .i64 first] w fun e w' => e = .returned (.tuple #[.slice none 0 0, .int .i64 2]) ∧ Sees w w' := by
  have K := Lib.hid (count_err (first := first) (p := ⟨#[58, 47, 47]⟩) ht ha hn hc (by decide) false (by rw [ck_of]; exact h))
  clear h ht ha hn hc
  go_enter Tryd.func35, Tryd.ntmps35
  go_wp2_with fail
  refine K.out.mono ?_
  rintro e W1 ⟨rfl, hs⟩
  have HS := Lib.hid hs
  clear hs K
  go_wp2
  go_ret2
  exact ⟨rfl, HS.out⟩
set_option maxHeartbeats 16000000 in
set_option maxRecDepth 1000000 in
theorem lall_ok (hst : Std w) (ht : Tabs w) (ha : lnEl.Rd (fun b => b < w.heap.size) w (.slice a n cp) ls) (h : ofE ls first = 0) :
    Calls Tryd.prog 35 #[.slice a n cp, .int .i64 first] w fun e w' => ∃ v, e = .returned (.tuple #[v, .int .i64 0]) ∧ lkEl.Own (fun b => w.heap.size ≤ b) w' v ((allK ls first).take 10000) ∧ Sees w w' := by
  obtain ⟨hro, hl⟩ := ofE_zero h
  obtain ⟨hrow, f0, f1⟩ := rowsOk_ok hro
  have hna : n = ls.length := ha.len
  have hcap : n ≤ cp := by obtain ⟨_, _, e, h⟩ := ha.slice'; cases e; rw [hna]; exact h
  have HA := Lib.hid ha
  have HN := Lib.hid hna
  have HE := Lib.hid h
  have HCN : Hid (∀ x ∈ ls, x.cells.length ≤ 1000) := fun x hx => by have := (hrow x hx).2.1; unfold lnOk at this; simp at this; exact this.1
  obtain ⟨M, hM⟩ : ∃ M, M = (allM ls first (⟨#[58, 47, 47]⟩ : ByteArray).data.toList false).length := ⟨_, rfl⟩
  have hM2 : M ≤ 1000000000 := by
    have h1 := allM_few (m := 1000) (fun x hx => HCN.out x hx) first (⟨#[58, 47, 47]⟩ : ByteArray).data.toList false
    have h2 : ls.length * (1000 * 16) ≤ 1000 * (1000 * 16) := Nat.mul_le_mul_right _ hl
    omega
  have K := Lib.hid (count_ok (first := first) (p := ⟨#[58, 47, 47]⟩) hst ht ha false (by rw [ck_of]; exact h) M hM hM2)
  have KL : Hid (∀ W k, Sees w W → k < n → Calls Tryd.prog 57 #[.slice a n cp, .int .i64 first, .agg #[.int .i64 (first + (k : Int)), .int .i64 0]] W fun e w' => e = .returned (.tuple #[.int .i64 (first + topI ls k), .int .i64 (first + botI ls k), .int .i64 0]) ∧ Sees W w') := fun W k hs hk =>
    logical_ok _ _ ls W (ht.sees hs) (ha.sees hs) (by omega) (fun x hx => by have := HCN.out x hx; omega) first h k (by omega) 0 _ rfl (Int.le_refl _) (by
      obtain ⟨x, hx⟩ : ∃ x, ls[k]? = some x := ⟨_, List.getElem?_eq_getElem (by omega)⟩
      have := hrow x (List.mem_iff_getElem?.2 ⟨_, hx⟩)
      omega)
  have hn1 : n ≤ 1000 := by omega
  clear hro hrow ht hst ha hna h hM hM2 hl
  go_enter Tryd.func35, Tryd.ntmps35
  go_wp2_with fail
  refine K.out.mono ?_
  rintro e W1 ⟨rfl, hs⟩
  have HI1 := Lib.hid (LkSt.start hs)
  clear hs K
  go_wp2_with fail
  go_loopw [8, 9] (fun uo i W => ∃ (k : Nat) (ks : List Lk), k ≤ n ∧ i = .int .i64 k ∧ ks.length ≤ 10000 ∧ Hid (allK ls first = ks ++ (segs (first + (k : Nat)) [] (ls.drop k)).flatMap linkS) ∧ LkSt w ks [] [] uo (.slice none 0 0) (.slice none 0 0) W) (fun _ i _ => n - (intOf i).toNat)
  case atStart => exact ⟨0, [], Nat.zero_le _, rfl, Nat.zero_le _, (by unfold RowKit.Hid allK; simp), HI1.out⟩
  case round =>
    obtain ⟨k, ks, hk, rfl, hkl, hK, hI⟩ := hrel
    have HI := Lib.hid hI
    clear hI HI1
    by_cases hlt : k < n
    · obtain ⟨b, o, x0, ax0, mx0, rfl, _, _, _, _, _, _⟩ := HA.out.line hlt
      obtain ⟨r, hr⟩ : ∃ r, r = runL (ls.drop k) := ⟨_, rfl⟩
      have hr1 : 1 ≤ r := by
        rw [hr]
        refine runL_pos (fun e => ?_)
        have := congrArg List.length e
        rw [List.length_drop, List.length_nil] at this
        have := HN.out
        omega
      have hr2 : k + r ≤ n := by
        have := runL_le (ls.drop k)
        rw [List.length_drop, ← hr] at this
        have := HN.out
        omega
      have hbr := bot_run (ls := ls) ls.length k (by have := HN.out; omega) (by omega)
      rw [← hr] at hbr
      obtain ⟨q, hq0⟩ : ∃ q, q = botI ls k := ⟨_, rfl⟩
      rw [← hq0] at hbr
      have hq : q + 1 = k + r := hbr
      obtain ⟨seg, hseg⟩ : ∃ seg, seg = segAt ls first k r := ⟨_, rfl⟩
      have hsl : seg.length ≤ 16000000 := by rw [hseg]; exact segAt_len HCN.out (by rw [← HN.out]; exact hn1) first k r
      have HKS : Hid (allK ls first = ks ++ (linkS seg ++ (segs (first + ((k + r : Nat) : Int)) [] (ls.drop (k + r))).flatMap linkS)) := by
        unfold RowKit.Hid
        rw [hK.out, segs_run (first + (k : Nat)) [] (ls.drop k) (by intro e; have := congrArg List.length e; rw [List.length_drop, List.length_nil] at this; have := HN.out; omega), List.flatMap_cons, List.nil_append, List.drop_drop, ← hr, hseg]
        unfold segAt
        congr 3
        push_cast
        rw [Int.add_assoc]
      obtain ⟨X, hX⟩ : ∃ X : ByteArray, X = ⟨(seg.map Bp.b).toArray⟩ := ⟨_, rfl⟩
      have hXd : X.data.toList = seg.map Bp.b := by rw [hX]
      have hXs : X.size = seg.length := by rw [Lib.size_eq, hXd, List.length_map]
      obtain ⟨Y, hY⟩ : ∃ Y : Int, Y = first + (q : Int) := ⟨_, rfl⟩
      obtain ⟨Z, hZ⟩ : ∃ Z : Int, Z = first + (k : Int) := ⟨_, rfl⟩
      obtain ⟨V, hV⟩ : ∃ V : Int, V = first + topI ls k := ⟨_, rfl⟩
      have KLk := Lib.hid (fun W hs => KL.out W k hs hlt)
      rw [← hq0, ← hY, ← hZ, ← hV] at KLk
      have e1 : first + (k : Int) = Z := hZ.symm
      have e2 : Y - first = (q : Int) := by omega
      have hYr : Y ≤ 1099511628776 ∧ 0 ≤ Y := by omega
      have hZr : Z ≤ 1099511628776 ∧ 0 ≤ Z := by omega
      have hq5 : (0 : Int) ≤ (q : Int) + 1 := by omega
      have hq6 : (q : Int) + 1 ≤ (cp : Int) := by omega
      have hq7 : ¬ cp = k := by omega
      have KG : Hid (∀ W, Sees w W → Calls Tryd.prog 83 #[.slice (some ⟨b, o + k * 2, none⟩) r (cp - k), .int .i64 Z] W fun e w' => ∃ u, e = .returned (.tuple #[.string X, u]) ∧ plEl.Own (fun b => W.heap.size < b) w' u (seg.map Bp.pl) ∧ Sees W w') := fun W hW => by
        have hr' := ((HA.out.sees hW).drop k (by rw [← HN.out]; omega) (cp - k) (by omega)).take r (by rw [List.length_drop, ← HN.out]; omega) (cp - k) (by omega)
        have h := lgathered_any _ _ Z _ W hr' (by rw [List.length_take]; have := HN.out; omega) (fun x hx => HCN.out x (List.mem_of_mem_drop (List.mem_of_mem_take hx))) (by omega)
        rw [hZ, show gath (first + (k : Int)) ((ls.drop k).take r) = seg from hseg.symm, ← hX, ← hZ] at h
        exact h
      have KS : Hid (∀ W, Calls Tryd.prog 84 #[.string X] W fun e w' => ∃ v, e = .returned v ∧ spEl.Own (fun b => W.heap.size ≤ b) w' v (spotsL (seg.map Bp.b)) ∧ Sees W w') := fun W => by
        have h := spots_any X (by omega) W
        rw [hXd] at h
        exact h
      have HXD := Lib.hid hXd
      clear hq0 hr hbr hseg hX hXd hY hZ hV hK
      go_wp2_with fail
      refine (KLk.out _ HI.out.s).mono ?_
      rintro e W2 ⟨rfl, hs⟩
      have HI2 := Lib.hid (HI.out.sees hs)
      clear hs HI KLk
      go_wp2_with fail
      refine (KG.out _ HI2.out.s).mono ?_
      rintro e W3 ⟨u, rfl, hown, hs⟩
      obtain ⟨au, cu, rfl, _⟩ := hown.slice
      have HI3 := Lib.hid ((HI2.out.sees hs).setP hown)
      clear hs hown HI2 KG
      go_wp2_with fail
      refine (KS.out _).mono ?_
      rintro e W4 ⟨v, rfl, hown, hs⟩
      obtain ⟨av, cv, rfl, _⟩ := hown.slice
      have HI4 := Lib.hid ((HI3.out.sees hs).setM hown)
      clear hs hown HI3 KS
      obtain ⟨ms, hms⟩ : ∃ ms, ms = spotsL (seg.map Bp.b) := ⟨_, rfl⟩
      obtain ⟨m, hm⟩ : ∃ m, m = ms.length := ⟨_, rfl⟩
      rw [← hms] at HI4
      rw [List.length_map] at HI4
      rw [← hms, ← hm]
      rw [← hm] at HI4
      have HML : Hid ((linkS seg).length = m) := by rw [hm, hms]; exact linkS_len seg
      have hm2 : m ≤ 16000000 := by
        have h1 := spots_len (seg.map Bp.b) false 0 0
        rw [show spotsR false 0 0 (seg.map Bp.b) = spotsL (seg.map Bp.b) from rfl, ← hms, List.length_map, ← hm] at h1
        omega
      have HMS := Lib.hid hms
      clear hm hms
      go_wp2_with fail
      go_loopw [8, 61] (fun uo i W => ∃ j : Nat, j ≤ m ∧ i = .int .i64 j ∧ (ks ++ (linkS seg).take j).length ≤ 10000 ∧ LkSt w (ks ++ (linkS seg).take j) (seg.map Bp.pl) ms uo (.slice au seg.length cu) (.slice av m cv) W) (fun _ i _ => m - (intOf i).toNat)
      case atStart => exact ⟨0, Nat.zero_le _, rfl, by simpa using hkl, by rw [List.take_zero, List.append_nil]; exact HI4.out⟩
      case round =>
        obtain ⟨j, hj, rfl, hjl, hI⟩ := hrel
        have HI5 := Lib.hid hI
        clear hI HI4
        by_cases hjm : j < m
        · obtain ⟨b1, o1, ⟨p, z⟩, rfl, hx, y0, y1⟩ := sp_cell HI5.out.m.rd hjm
          simp only [] at y0 y1
          have hin := spots_in (seg.map Bp.b) false 0 0 (p, z) (by rw [show spotsR false 0 0 (seg.map Bp.b) = spotsL (seg.map Bp.b) from rfl, ← HMS.out]; exact List.mem_iff_getElem?.2 ⟨_, hx⟩)
          simp only [List.length_map] at hin
          have hpz : p < z := hin.2.1
          have hzl : z ≤ seg.length := by omega
          obtain ⟨z1, hz1⟩ : ∃ z1, z = z1 + 1 := ⟨z - 1, by omega⟩
          subst hz1
          obtain ⟨b2, o2, ⟨l0, c0⟩, rfl, hp0, u0, u1⟩ := pl_cell HI5.out.p.rd (show p < seg.length by omega)
          obtain ⟨b3, o3, ⟨l1, c1⟩, e3, hp1, v0, v1⟩ := pl_cell HI5.out.p.rd (show z1 < seg.length by omega)
          obtain ⟨rfl, rfl⟩ : b2 = b3 ∧ o2 = o3 := by cases e3; exact ⟨rfl, rfl⟩
          simp only [] at u0 u1 v0 v1
          obtain ⟨A, hA⟩ : ∃ A : ByteArray, A = strL (cutL (seg.map Bp.b) (p, z1 + 1)) := ⟨_, rfl⟩
          have hAe : X.extract p (z1 + 1) = A := by rw [hA, ← HXD.out]; exact ext_cut X (p, z1 + 1)
          have hlk : (linkS seg)[j]? = some ⟨l0, c0, l1, c1, A⟩ := by
            unfold linkS
            rw [← HMS.out, List.getElem?_map, hx]
            simp only [Option.map_some, lkOf, Nat.add_sub_cancel]
            have g0 : seg.getD p default = ((seg[p]?).getD default) := List.getD_eq_getElem?_getD
            have g1 : seg.getD z1 default = ((seg[z1]?).getD default) := List.getD_eq_getElem?_getD
            rw [List.getElem?_map] at hp0 hp1
            obtain ⟨s0, hs0⟩ : ∃ s0, seg[p]? = some s0 := ⟨_, List.getElem?_eq_getElem (by omega)⟩
            obtain ⟨s1, hs1⟩ : ∃ s1, seg[z1]? = some s1 := ⟨_, List.getElem?_eq_getElem (by omega)⟩
            rw [hs0] at hp0 g0
            rw [hs1] at hp1 g1
            have e0 : s0.pl = (l0, c0) := Option.some.inj hp0
            have e1 : s1.pl = (l1, c1) := Option.some.inj hp1
            have e0a : s0.line = l0 := congrArg Prod.fst e0
            have e0b : s0.col = c0 := congrArg Prod.snd e0
            have e1a : s1.line = l1 := congrArg Prod.fst e1
            have e1b : s1.col = c1 := congrArg Prod.snd e1
            rw [g0, g1, hA]
            simp only [Option.getD_some, e0a, e0b, e1a, e1b]
          have HTK : Hid (ks ++ (linkS seg).take (j + 1) = (ks ++ (linkS seg).take j) ++ [⟨l0, c0, l1, c1, A⟩]) := by
            unfold RowKit.Hid
            rw [List.take_add_one, hlk, List.append_assoc]
            rfl
          obtain ⟨ao, co, e8, _⟩ := HI5.out.o.slice
          subst e8
          obtain ⟨L, hL⟩ : ∃ L, L = (ks ++ (linkS seg).take j).length := ⟨_, rfl⟩
          rw [← hL] at HI5 hjl ⊢
          have HLN := Lib.hid hL
          have hpz2 : (p : Int) ≤ (z1 : Int) + 1 := by omega
          have hpz3 : p ≤ z1 + 1 := by omega
          have hzX : z1 + 1 ≤ X.size := by omega
          clear hx hin hp0 hp1 hA hlk e3 hL
          go_upto_region 14 with fail
          refine wp_world fun W5 hW5 => ?_
          have t0 : W5.cell? ⟨wr.heap.size, 0, none⟩ = some (.int .i64 p) := by subst hW5; rw [cell_of_row _ _ _ _ _ _ (heap_alloc_new wr _)]; rfl
          have t1 : W5.cell? ⟨wr.heap.size, 1, none⟩ = some (.int .i64 ((z1 + 1 : Nat) : Int)) := by subst hW5; rw [cell_of_row _ _ _ _ _ _ (heap_alloc_new wr _)]; rfl
          have s5 : Sees wr W5 := by subst hW5; exact (Sees.refl wr).alloc _
          have HI6 := Lib.hid (HI5.out.sees s5)
          have T0 := Lib.hid t0
          have T1 := Lib.hid t1
          have U0 := Lib.hid (s5.cell u0)
          have U1 := Lib.hid (s5.cell u1)
          have V0 := Lib.hid (s5.cell v0)
          have V1 := Lib.hid (s5.cell v1)
          clear hW5 y0 y1 u0 u1 v0 v1 HI5 t0 t1 s5
          obtain ⟨g, hg⟩ : ∃ g, g = wr.heap.size := ⟨_, rfl⟩
          rw [← hg] at T0 T1 ⊢
          clear hg
          by_cases hL2 : L = 10000
          · have g1 : ((L : Int) == 10000) = true := by rw [beq_iff_eq]; omega
            have HF : Hid ((allK ls first).take 10000 = ks ++ (linkS seg).take j) := by
              have hl := HLN.out
              unfold RowKit.Hid
              rw [HKS.out, ← List.take_append_drop j (linkS seg), List.append_assoc, ← List.append_assoc ks, List.take_left' (by rw [← hl, hL2]), List.take_append_drop]
            have HS := Lib.hid HI6.out.s
            have HO := Lib.hid (HI6.out.o.mono (G := fun b => w.heap.size ≤ b) (fun b _ hb => HI6.out.a b hb))
            clear hL2 HI6 T0 T1 U0 U1 V0 V1
            go_wp2
            go_ret2
            exact ⟨_, rfl, by rw [HF.out]; exact HO.out, HS.out⟩
          · have g1 : ((L : Int) == 10000) = false := by rw [beq_eq_false_iff_ne]; omega
            have hL3 : L + 1 ≤ 10000 := by omega
            have hb1 : p < seg.length := by omega
            have hb2 : z1 < seg.length := by omega
            have hb3 : (z1 : Int) + 1 ≤ (seg.length : Int) := by omega
            have hb4 : (0 : Int) ≤ (z1 : Int) + 1 := by omega
            have hb5 : ¬ ((seg.length : Int) < (z1 : Int) + 1) := by omega
            have hwz : IntKind.i64.wrap (z1 : Int) = (z1 : Int) := IntWalk.i64_in _ (by omega)
            clear hL2
            go_upto_region 16 with fail
            refine wpFrom_go (by kernel_rfl) (by kernel_rfl) (fun hRB w9 hw9 => ?_)
            have HI9 := Lib.hid (HI6.out.sees hw9)
            replace T0 := Lib.hid (hw9.cell T0.out)
            replace T1 := Lib.hid (hw9.cell T1.out)
            replace U0 := Lib.hid (hw9.cell U0.out)
            replace U1 := Lib.hid (hw9.cell U1.out)
            replace V0 := Lib.hid (hw9.cell V0.out)
            replace V1 := Lib.hid (hw9.cell V1.out)
            clear hw9 HI6
            have hst : segStay (Sees w9) [.is (.slice ao L co), .is (.slice (some ⟨b2, o2, none⟩) seg.length cu), .is (.pointer (some ⟨g, 0, none⟩)), .is (.int .i64 p), .is (.pointer (some ⟨b2, o2 + p * 2, none⟩)), .is (.agg #[.int .i64 l0, .int .i64 c0]), .is (.slice (some ⟨b2, o2, none⟩) seg.length cu), .is (.pointer (some ⟨g, 1, none⟩)), .is (.int .i64 ((z1 + 1 : Nat) : Int)), .is (.int .i64 (z1 : Int)), .is (.pointer (some ⟨b2, o2 + z1 * 2, none⟩)), .is (.agg #[.int .i64 l1, .int .i64 c1]), .is (.string X), .is (.pointer (some ⟨g, 0, none⟩)), .is (.int .i64 p), .is (.pointer (some ⟨g, 1, none⟩)), .is (.int .i64 ((z1 + 1 : Nat) : Int)), .is (.string A), .is (.agg #[.int .i64 l0, .int .i64 c0, .int .i64 l1, .int .i64 c1, .string A]), .so (fun x W => ∃ b, x = .slice (some ⟨b, 0, none⟩) 1 1 ∧ W.heap[b]? = some (.cells #[.int .i64 l0, .int .i64 c0, .int .i64 l1, .int .i64 c1, .string A] 67 (0, 0)))] :=
              ⟨fun u W W' _ ⟨b, h1, h2⟩ hs => ⟨b, h1, by rw [hs.block _ (Array.getElem?_eq_some_iff.1 h2).1]; exact h2⟩, trivial⟩
            have hval : ∀ x v, (Spec.is x).val v = x := fun _ _ => rfl
            have hval2 : ∀ V v, (Spec.so V).val v = v := fun _ _ => rfl
            refine wpFrom_any 20 _ hRB (by kernel_rfl) rfl hst (by simp only [List.cons_append, List.nil_append, List.drop_succ_cons, List.drop_zero, List.take_succ_cons, List.take_zero, Nat.reduceSub]; rfl) ?_
            refine ⟨fun vs W hI hV => .inl ⟨by clear hI hV hst; go_simp, .inl (by clear hI hV hst; (try simp only [Act.put, hval, hval2, List.setIfInBounds_toArray, List.set_cons_zero, List.set_cons_succ]); go_simp)⟩, ?_⟩
            refine ⟨fun vs W hI hV => .inl ⟨by clear hI hV hst; go_simp, .inl (by clear hI hV hst; (try simp only [Act.put, hval, hval2, List.setIfInBounds_toArray, List.set_cons_zero, List.set_cons_succ]); go_simp)⟩, ?_⟩
            refine ⟨fun vs W hI hV => .inl ⟨by clear hI hV hst; go_simp, .inl (by clear hI hV hst; (try simp only [Act.put, hval, hval2, List.setIfInBounds_toArray, List.set_cons_zero, List.set_cons_succ]); go_simp)⟩, ?_⟩
            refine ⟨fun vs W hI hV => .inl ⟨by clear hI hV hst; go_simp, .inl (by have q1 := hI.cell T0.out; clear hI hV hst; (try simp only [Act.put, hval, hval2, List.setIfInBounds_toArray, List.set_cons_zero, List.set_cons_succ]); go_simp)⟩, ?_⟩
            refine ⟨fun vs W hI hV => .inl ⟨by clear hI hV hst; go_simp, .inl (by clear hI hV hst; (try simp only [Act.put, hval, hval2, List.setIfInBounds_toArray, List.set_cons_zero, List.set_cons_succ]); go_simp)⟩, ?_⟩
            refine ⟨fun vs W hI hV => .inl ⟨by clear hI hV hst; go_simp, .inl (by have q1 := hI.cell U0.out; have q2 := hI.cell U1.out; clear hI hV hst; (try simp only [Act.put, hval, hval2, List.setIfInBounds_toArray, List.set_cons_zero, List.set_cons_succ]); go_simp)⟩, ?_⟩
            refine ⟨fun vs W hI hV => .inl ⟨by clear hI hV hst; go_simp, .inl (by clear hI hV hst; (try simp only [Act.put, hval, hval2, List.setIfInBounds_toArray, List.set_cons_zero, List.set_cons_succ]); go_simp)⟩, ?_⟩
            refine ⟨fun vs W hI hV => .inl ⟨by clear hI hV hst; go_simp, .inl (by clear hI hV hst; (try simp only [Act.put, hval, hval2, List.setIfInBounds_toArray, List.set_cons_zero, List.set_cons_succ]); go_simp)⟩, ?_⟩
            refine ⟨fun vs W hI hV => .inl ⟨by clear hI hV hst; go_simp, .inl (by have q1 := hI.cell T1.out; clear hI hV hst; (try simp only [Act.put, hval, hval2, List.setIfInBounds_toArray, List.set_cons_zero, List.set_cons_succ]); go_simp)⟩, ?_⟩
            refine ⟨fun vs W hI hV => .inl ⟨by clear hI hV hst; go_simp, .inl (by clear hI hV hst; (try simp only [Act.put, hval, hval2, List.setIfInBounds_toArray, List.set_cons_zero, List.set_cons_succ]); go_simp)⟩, ?_⟩
            refine ⟨fun vs W hI hV => .inl ⟨by clear hI hV hst; go_simp, .inl (by clear hI hV hst; (try simp only [Act.put, hval, hval2, List.setIfInBounds_toArray, List.set_cons_zero, List.set_cons_succ]); go_simp)⟩, ?_⟩
            refine ⟨fun vs W hI hV => .inl ⟨by clear hI hV hst; go_simp, .inl (by have q1 := hI.cell V0.out; have q2 := hI.cell V1.out; clear hI hV hst; (try simp only [Act.put, hval, hval2, List.setIfInBounds_toArray, List.set_cons_zero, List.set_cons_succ]); go_simp)⟩, ?_⟩
            refine ⟨fun vs W hI hV => .inl ⟨by clear hI hV hst; go_simp, .inl (by clear hI hV hst; (try simp only [Act.put, hval, hval2, List.setIfInBounds_toArray, List.set_cons_zero, List.set_cons_succ]); go_simp)⟩, ?_⟩
            refine ⟨fun vs W hI hV => .inl ⟨by clear hI hV hst; go_simp, .inl (by clear hI hV hst; (try simp only [Act.put, hval, hval2, List.setIfInBounds_toArray, List.set_cons_zero, List.set_cons_succ]); go_simp)⟩, ?_⟩
            refine ⟨fun vs W hI hV => .inl ⟨by clear hI hV hst; go_simp, .inl (by have q1 := hI.cell T0.out; clear hI hV hst; (try simp only [Act.put, hval, hval2, List.setIfInBounds_toArray, List.set_cons_zero, List.set_cons_succ]); go_simp)⟩, ?_⟩
            refine ⟨fun vs W hI hV => .inl ⟨by clear hI hV hst; go_simp, .inl (by clear hI hV hst; (try simp only [Act.put, hval, hval2, List.setIfInBounds_toArray, List.set_cons_zero, List.set_cons_succ]); go_simp)⟩, ?_⟩
            refine ⟨fun vs W hI hV => .inl ⟨by clear hI hV hst; go_simp, .inl (by have q1 := hI.cell T1.out; clear hI hV hst; (try simp only [Act.put, hval, hval2, List.setIfInBounds_toArray, List.set_cons_zero, List.set_cons_succ]); go_simp)⟩, ?_⟩
            refine ⟨fun vs W hI hV => .inl ⟨by clear hI hV hst; go_simp, .inl (by clear hI hV hst; (try simp only [Act.put, hval, hval2, List.setIfInBounds_toArray, List.set_cons_zero, List.set_cons_succ]); go_simp)⟩, ?_⟩
            refine ⟨fun vs W hI hV => .inl ⟨by clear hI hV hst; go_simp, .inl (by clear hI hV hst; (try simp only [Act.put, hval, hval2, List.setIfInBounds_toArray, List.set_cons_zero, List.set_cons_succ]); go_simp)⟩, ?_⟩
            refine ⟨fun vs W hI hV => ?_, ?_⟩
            · have hs : Sees W (W.alloc (.cells #[.int .i64 l0, .int .i64 c0, .int .i64 l1, .int .i64 c1, .string A] 67)) := (Sees.refl W).alloc _
              exact .inl ⟨by clear hI hV hst hs; go_simp, .inl ⟨.slice (some ⟨W.heap.size, 0, none⟩) 1 1, W.alloc (.cells #[.int .i64 l0, .int .i64 c0, .int .i64 l1, .int .i64 c1, .string A] 67), by clear hI hV hst hs; (try simp only [Act.put, hval, hval2, List.setIfInBounds_toArray, List.set_cons_zero, List.set_cons_succ]); go_simp, rgGood_mk hst hI ⟨_, rfl, heap_alloc_new _ _⟩ hs⟩⟩
            intro vs w6 hI hV
            obtain ⟨b6, hv6, hr6⟩ : ∃ b, vs 19 = .slice (some ⟨b, 0, none⟩) 1 1 ∧ w6.heap[b]? = some (.cells #[.int .i64 l0, .int .i64 c0, .int .i64 l1, .int .i64 c1, .string A] 67 (0, 0)) := hV 19 _ rfl
            have HIa := Lib.hid (HI9.out.sees hI)
            have HSI := Lib.hid hI
            have HRW := Lib.hid hr6
            have HLL : Hid ((ks ++ (linkS seg).take j).length + [(⟨l0, c0, l1, c1, A⟩ : Lk)].length ≤ 100000000) := by have := HLN.out; unfold RowKit.Hid; rw [List.length_singleton]; omega
            clear hI hV hst hr6
            (try simp only [Act.put, hval, hval2, List.setIfInBounds_toArray, List.set_cons_zero, List.set_cons_succ])
            go_simp
            clear hv6
            refine wpFrom_to 22 hRB (fun _ _ _ _ _ h => h) (by kernel_rfl) (by simp only [List.cons_append, List.nil_append, List.drop_succ_cons, List.drop_zero, List.take_succ_cons, List.take_zero, Nat.reduceSub]; rfl) ?_
            go_wp2_with (at_builtin; refine El.wpList_append_own (v := .slice ao L co) typedLk rfl (.tmp 69) (.tmp 88) rfl (by go_simp) HIa.out.o ⟨b6, 0, none⟩ 1 1 (by go_simp) [.int .i64 l0, .int .i64 c0, .int .i64 l1, .int .i64 c1, .string A] [⟨l0, c0, l1, c1, A⟩] (fun _ => False) (lk_news (m := ⟨l0, c0, l1, c1, A⟩) HRW.out).1 rfl (lk_news (m := ⟨l0, c0, l1, c1, A⟩) HRW.out).2 (fun b hb => HIa.out.olt hb) (fun b hb => hb.elim) HLL.out ?_; intro v7 w7 ho7 hk7; have HI7 := Lib.hid (HIa.out.add (Sees.refl _) ho7 hk7); clear ho7 hk7)
            refine wpFrom_end rfl ?_
            go_wp2_with fail
            exact ⟨⟨j + 1, by omega, by go_num, by rw [HTK.out, List.length_append, ← HLN.out, List.length_singleton]; exact hL3, by rw [HTK.out]; exact HI7.out⟩, by simp [intOf]; omega⟩
        · obtain rfl : j = m := by omega
          have hfull : (linkS seg).take j = linkS seg := List.take_of_length_le (by rw [HML.out]; exact Nat.le_refl _)
          rw [hfull] at HI5 hjl
          have HI6 := Lib.hid HI5.out.clear
          have HFIN : Hid (allK ls first = (ks ++ linkS seg) ++ (segs (first + ((k + r : Nat) : Int)) [] (ls.drop (k + r))).flatMap linkS) := by unfold RowKit.Hid; rw [HKS.out, List.append_assoc]
          clear hfull HI5
          obtain ⟨y, hy⟩ : ∃ y, y = k + r := ⟨_, rfl⟩
          rw [← hy] at HFIN hq hr2
          have c9 : (q : Int) + 1 = (y : Int) := by omega
          have hky : k < y := by omega
          clear hy hq
          go_wp2_with fail
          exact ⟨⟨y, ks ++ linkS seg, hr2, rfl, hjl, HFIN, HI6.out⟩, by simp [intOf]; omega⟩
    · obtain rfl : k = n := by omega
      have HF : Hid ((allK ls first).take 10000 = ks) := by
        unfold RowKit.Hid
        rw [hK.out, HN.out, List.drop_length]
        show (ks ++ []).take 10000 = ks
        rw [List.append_nil, List.take_of_length_le hkl]
      have HS := Lib.hid HI.out.s
      have HO := Lib.hid (HI.out.o.mono (G := fun b => w.heap.size ≤ b) (fun b _ hb => HI.out.a b hb))
      clear HI hK
      go_wp2
      go_ret2
      exact ⟨_, rfl, by rw [HF.out]; exact HO.out, HS.out⟩
end
end Go.Proofs.YtfdolhppbimbmaaDoor

namespace Go.Proofs.YtfdolhppbimbmaaDoor
set_option linter.unusedVariables false
set_option linter.unusedSimpArgs false
open Go.RowKit Go.Shelf
attribute [local go_sem] Oper.semAt_some

def Lk.val (m : Lk) : Value := .agg #[.int .i64 m.l0, .int .i64 m.c0, .int .i64 m.l1, .int .i64 m.c1, .string m.a]
def zeroLk : Lk := ⟨0, 0, 0, 0, ⟨#[]⟩⟩
/-- A variable that holds a link. -/
def LkAt (W : World) (b : Nat) (m : Lk) : Prop := W.heap[b]? = some (.cells #[.int .i64 m.l0, .int .i64 m.c0, .int .i64 m.l1, .int .i64 m.c1, .string m.a] 67 (0, 0))
namespace LkAt
variable {W W' : World} {b : Nat} {m : Lk}
theorem lt (h : LkAt W b m) : b < W.heap.size := (Array.getElem?_eq_some_iff.1 h).1
theorem keeps {F : Nat → Prop} (h : LkAt W b m) (hk : Keeps F W W') (hF : ¬ F b) : LkAt W' b m := by
  unfold LkAt; rw [hk.block _ h.lt hF]; exact h
theorem sees (h : LkAt W b m) (hs : Sees W W') : LkAt W' b m := h.keeps (Keeps.of_sees (F := fun _ => False) hs) (fun h => h)
theorem c (h : LkAt W b m) : W.cell? ⟨b, 0, none⟩ = some (.int .i64 m.l0) ∧ W.cell? ⟨b, 1, none⟩ = some (.int .i64 m.c0) ∧ W.cell? ⟨b, 2, none⟩ = some (.int .i64 m.l1) ∧ W.cell? ⟨b, 3, none⟩ = some (.int .i64 m.c1) ∧ W.cell? ⟨b, 4, none⟩ = some (.string m.a) := by
  rw [cell_of_row _ _ _ _ _ _ h, cell_of_row _ _ _ _ _ _ h, cell_of_row _ _ _ _ _ _ h, cell_of_row _ _ _ _ _ _ h, cell_of_row _ _ _ _ _ _ h]; exact ⟨rfl, rfl, rfl, rfl, rfl⟩
theorem fr (h : LkAt W b m) : ∀ i, W.frozen? ⟨b, i, none⟩ = false := fun i => frozen_of_row W b i _ _ h
end LkAt
/-- A link is stored. -/
def put5 (W : World) (b : Nat) (x : Lk) : World := ((((W.setCell ⟨b, 0, none⟩ (.int .i64 x.l0)).setCell ⟨b, 1, none⟩ (.int .i64 x.c0)).setCell ⟨b, 2, none⟩ (.int .i64 x.l1)).setCell ⟨b, 3, none⟩ (.int .i64 x.c1)).setCell ⟨b, 4, none⟩ (.string x.a)
theorem put5_at {W : World} {b : Nat} {m : Lk} (h : LkAt W b m) (x : Lk) : LkAt (put5 W b x) b x := by
  have h1 := heap_setCell_same W b 0 _ _ (.int .i64 x.l0) h
  have h2 := heap_setCell_same _ b 1 _ _ (.int .i64 x.c0) h1
  have h3 := heap_setCell_same _ b 2 _ _ (.int .i64 x.l1) h2
  have h4 := heap_setCell_same _ b 3 _ _ (.int .i64 x.c1) h3
  exact heap_setCell_same _ b 4 _ _ (.string x.a) h4
theorem sees_put5 {w W : World} {b : Nat} (h : Sees w W) (hb : w.heap.size ≤ b) (x : Lk) : Sees w (put5 W b x) :=
  ((((h.setCell (p := ⟨b, 0, none⟩) hb _).setCell (p := ⟨b, 1, none⟩) hb _).setCell (p := ⟨b, 2, none⟩) hb _).setCell (p := ⟨b, 3, none⟩) hb _).setCell (p := ⟨b, 4, none⟩) hb _
theorem lk_isAgg : ∀ W, (isAgg 67).run Tryd.prog W = .ok true W := fun _ => by kernel_rfl
theorem lk_sizeOf : ∀ W, (sizeOf 67).run Tryd.prog W = .ok 5 W := fun _ => by kernel_rfl
theorem run_loadLk {W : World} {b : Nat} {m : Lk} (h : LkAt W b m) : (Instr.loadAt 67 (.pointer (some ⟨b, 0, none⟩))).run Tryd.prog W = .ok m.val W :=
  run_load_agg 67 b 0 [.int .i64 m.l0, .int .i64 m.c0, .int .i64 m.l1, .int .i64 m.c1, .string m.a] lk_isAgg lk_sizeOf fun j x hx => by
    rw [Nat.zero_add, Go.cell_of_row W b _ _ _ _ h]
    simpa using hx
theorem results_lt {fn : Func} {tmps : Array Value} {W : World} {i j b : Nat} {m : Lk} {v : Value} (hr : fn.results = #[.cell i 67, .tmp j]) (hi : tmps[i]?.getD undef = .pointer (some ⟨b, 0, none⟩)) (hj : tmps[j]?.getD undef = v) (h : LkAt W b m) :
    (results fn tmps).run Tryd.prog W = .ok (.tuple #[m.val, v]) W := by
  have h1 : (loadVar 67 ⟨b, 0, none⟩).run Tryd.prog W = .ok m.val W := run_loadLk h
  unfold results
  rw [hr]
  simp [hi, hj, asAddr, h1]
set_option maxHeartbeats 1000000 in
theorem lbefore_any (l c l' c' : Int) (w : World) :
    Calls Tryd.prog 121 #[.agg #[.int .i64 l, .int .i64 c], .agg #[.int .i64 l', .int .i64 c']] w fun e w' => e = .returned (.bool (befB l c l' c')) ∧ Sees w w' := by
  have hs : Sees w ((w.alloc (.cells #[.int .i64 l, .int .i64 c] 31)).alloc (.cells #[.int .i64 l', .int .i64 c'] 31)) := ((Sees.refl w).alloc _).alloc _
  have HS := Lib.hid hs
  clear hs
  go_enter Tryd.func121, Tryd.ntmps121
  rcases Bool.eq_false_or_eq_true (decide (l < l')) with h1 | h1
  · go_wp2
    go_ret
    exact ⟨ret_bool (by unfold befB; rw [h1]; rfl), HS.out⟩
  rcases Bool.eq_false_or_eq_true (l == l') with h2 | h2
  · rcases Bool.eq_false_or_eq_true (decide (c < c')) with h3 | h3
    all_goals
      go_wp2
      go_ret
      exact ⟨ret_bool (by unfold befB; rw [h1, h2, h3]; rfl), HS.out⟩
  · go_wp2
    go_ret
    exact ⟨ret_bool (by unfold befB; rw [h1, h2]; rfl), HS.out⟩
/-- Does a link have this place? -/
def lkHas (l c : Int) (x : Lk) : Bool := !befB l c x.l0 x.c0 && !befB x.l1 x.c1 l c
theorem find_first {α : Type} {p : α → Bool} : ∀ {xs : List α} {j : Nat} {x : α}, (∀ q y, q < j → xs[q]? = some y → p y = false) → xs[j]? = some x → p x = true → xs.find? p = some x
  | [], j, x, _, h, _ => by simp at h
  | y :: ys, 0, x, _, h, hp => by
    have e : y = x := by simpa using h
    rw [List.find?_cons, e, hp]
  | y :: ys, j + 1, x, hn, h, hp => by
    rw [List.find?_cons, hn 0 y (by omega) rfl]
    exact find_first (j := j) (fun q z hq hz => hn (q + 1) z (by omega) (by simpa using hz)) (by simpa using h) hp
theorem find_no {α : Type} {p : α → Bool} {xs : List α} (h : ∀ q y, q < xs.length → xs[q]? = some y → p y = false) : xs.find? p = none := by
  rw [List.find?_eq_none]
  intro y hy
  obtain ⟨q, hq⟩ := List.mem_iff_getElem?.1 hy
  rw [h q y (List.getElem?_eq_some_iff.1 hq).1 hq]
  decide
/-- What At answers where lines are rows. -/
def atP (ks : List Lk) (b : Bool) (l c : Int) : Lk × Int := if b then (zeroLk, 3) else match ks.find? (lkHas l c) with
  | some x => (x, 0)
  | none => (zeroLk, 9)
section
variable {w : World} {a : Option Addr} {n cp : Nat} {ls : List Ln} {first : Int}
set_option maxHeartbeats 4000000 in
set_option maxRecDepth 100000 in
theorem lat_err (ht : Tabs w) (ha : lnEl.Rd (fun b => b < w.heap.size) w (.slice a n cp) ls) (hn : ls.length ≤ 1000000) (hc : ∀ x ∈ ls, x.cells.length ≤ 1000000) (l c : Int) (h : ofE ls first = 2) :
    Calls Tryd.prog 82 #[.slice a n cp, .int .i64 first, .agg #[.int .i64 l, .int .i64 c]] w fun e w' => e = .returned (.tuple #[zeroLk.val, .int .i64 2]) ∧ Sees w w' := by
  have K := Lib.hid (fun W (hs : Sees w W) => lall_err (first := first) (ht.sees hs) (rd_up ha hs) hn hc h)
  clear h ht ha
  go_enter Tryd.func82, Tryd.ntmps82
  go_wp2_with fail
  refine calls_world fun W1 hW1 => ?_
  have s1 : Sees w W1 := by subst hW1; exact ((Sees.refl w).alloc _).alloc _
  have r1 : LkAt W1 (w.heap.size + 1) zeroLk := by
    subst hW1
    have q := heap_alloc_new (w.alloc (.cells #[.int .i64 l, .int .i64 c] 31)) (.cells #[.int .i64 0, .int .i64 0, .int .i64 0, .int .i64 0, .string ⟨#[]⟩] 67)
    rw [World.size_alloc] at q
    exact q
  clear hW1
  refine (K.out W1 s1).mono ?_
  rintro e W2 ⟨rfl, s2⟩
  have HM := Lib.hid (r1.sees s2)
  have HS := Lib.hid (s1.trans s2)
  have m2 := HM.out.fr
  obtain ⟨m11, m12, m13, m14, m15⟩ := HM.out.c
  clear r1 s1 s2
  go_wp2
  exact bodyPost_ret (results_lt rfl rfl rfl (put5_at HM.out zeroLk)) rfl ⟨rfl, sees_put5 HS.out (by omega) zeroLk⟩
set_option maxHeartbeats 16000000 in
set_option maxRecDepth 100000 in
theorem lat_ok (hst : Std w) (ht : Tabs w) (ha : lnEl.Rd (fun b => b < w.heap.size) w (.slice a n cp) ls) (h : ofE ls first = 0) (l c : Int) (m : Lk) (k : Int) (hm : atP ((allK ls first).take 10000) (foB ls first l c) l c = (m, k)) :
    Calls Tryd.prog 82 #[.slice a n cp, .int .i64 first, .agg #[.int .i64 l, .int .i64 c]] w fun e w' => e = .returned (.tuple #[m.val, .int .i64 k]) ∧ Sees w w' := by
  have K := Lib.hid (fun W (hs : Sees w W) => lall_ok (first := first) (hst.sees hs) (ht.sees hs) (rd_up ha hs) h)
  obtain ⟨hro, hl⟩ := ofE_zero h
  obtain ⟨hrow, f0, f1⟩ := rowsOk_ok hro
  have hna : n = ls.length := ha.len
  have HA := Lib.hid ha
  have HN := Lib.hid hna
  have HM := Lib.hid hm
  have hn1 : n ≤ 1000 := by omega
  obtain ⟨B, hB⟩ : ∃ B, B = foB ls first l c := ⟨_, rfl⟩
  have HB : Hid (B = (decide (l < first) || decide (l ≥ first + (n : Int)) || decide (c < 0) || decide (c ≥ (cols ls : Int)))) := by unfold RowKit.Hid; rw [hB, hna]; rfl
  have HBF := Lib.hid hB
  have HROW := Lib.hid hrow
  clear hm hro hl hrow hna ht hst ha h hB
  go_enter Tryd.func82, Tryd.ntmps82
  go_wp2_with fail
  refine calls_world fun W1 hW1 => ?_
  have s1 : Sees w W1 := by subst hW1; exact ((Sees.refl w).alloc _).alloc _
  have r1 : PlAt W1 w.heap.size l c ∧ LkAt W1 (w.heap.size + 1) zeroLk := by
    subst hW1
    refine ⟨PlAt.sees (heap_alloc_new w _) ((Sees.refl _).alloc _), ?_⟩
    have q := heap_alloc_new (w.alloc (.cells #[.int .i64 l, .int .i64 c] 31)) (.cells #[.int .i64 0, .int .i64 0, .int .i64 0, .int .i64 0, .string ⟨#[]⟩] 67)
    rw [World.size_alloc] at q
    exact q
  clear hW1
  refine (K.out W1 s1).mono ?_
  rintro e W2 ⟨v, rfl, ho, s2⟩
  obtain ⟨av, cv, rfl, _⟩ := ho.slice
  obtain ⟨ks, hks⟩ : ∃ ks, ks = (allK ls first).take 10000 := ⟨_, rfl⟩
  obtain ⟨N, hN⟩ : ∃ N, N = ks.length := ⟨_, rfl⟩
  rw [← hks] at ho
  rw [← hks, ← hN]
  rw [← hN] at ho
  have hNl : N ≤ 10000 := by rw [hN, hks, List.length_take]; omega
  rw [← hks, ← HBF.out] at HM
  have HO := Lib.hid ho.rd
  have HL := Lib.hid (r1.2.sees s2)
  have HP := Lib.hid (r1.1.sees s2)
  have HS := Lib.hid (s1.trans s2)
  have HNE := Lib.hid hN
  clear r1 s1 s2 ho hks hN K
  obtain ⟨b1, hb1⟩ : ∃ b1, b1 = w.heap.size := ⟨_, rfl⟩
  have HBW : Hid (w.heap.size ≤ b1) := by unfold RowKit.Hid; omega
  rw [← hb1] at HP HL ⊢
  clear hb1
  go_upto_region 4 with fail
  go_cut [49] from 22 to 49 (fun v49 wx => v49 = .bool B ∧ Sees W2 wx)
  case first =>
    obtain ⟨d0, d1⟩ := HP.out.cells
    have g0 := fun d os => (sees_grow W2 d os).cell d0
    have g1 := fun d os => (sees_grow W2 d os).cell d1
    clear d0 d1
    rcases Nat.eq_zero_or_pos n with hz | hz
    · subst hz
      rcases Bool.eq_false_or_eq_true (decide (l < first)) with e1 | e1
      · obtain rfl : B = true := by rw [HB.out, e1]; simp
        refine wp_region_quiet_below (by kernel_rfl) (by kernel_rfl) ?_
        repeat (first | go_big_quiet_skip | (go_big_quiet_want; go_big_quiet_op; go_big_quiet_on))
        refine wpQuiet_nil ?_; intro w2 hw2'; have hw2 := regrown_sees hw2'; clear hw2'
        go_wp2_with fail
        go_meet
        exact ⟨rfl, hw2⟩
      · have e2 : decide (l ≥ first + ((0 : Nat) : Int)) = true := by have := of_decide_eq_false e1; rw [decide_eq_true_eq]; omega
        have e2' : decide (l ≥ first + 0) = true := by simpa using e2
        have e2'' : decide (l ≥ first) = true := by simpa using e2
        obtain rfl : B = true := by rw [HB.out, e1, e2]; simp
        refine wp_region_quiet_below (by kernel_rfl) (by kernel_rfl) ?_
        repeat (first | go_big_quiet_skip | (go_big_quiet_want; go_big_quiet_op; go_big_quiet_on))
        refine wpQuiet_nil ?_; intro w2 hw2'; have hw2 := regrown_sees hw2'; clear hw2'
        go_wp2_with fail
        go_meet
        exact ⟨rfl, hw2⟩
    · obtain ⟨b2, o2, y, a2, m2, rfl, _, hy, _, y1, _, _⟩ := HA.out.line hz
      have hcols : cols ls = y.cells.length := cols_of hy
      rw [Nat.zero_mul, Nat.add_zero, ← hcols] at y1
      have y1' := HS.out.cell y1
      have g3 := fun d os => (sees_grow W2 d os).cell y1'
      clear hy hcols y1 y1'
      generalize cols ls = n0 at *
      have k1 : (0 : Int) < n := by omega
      rcases ways4 (!decide (l < first)) (!decide (l ≥ first + (n : Int))) (!decide (c < 0)) (!decide (c ≥ (n0 : Int))) with ⟨e1, e2, e3, e4⟩ | ⟨e1, e2, e3, e4⟩ | ⟨e1, e2, e3⟩ | ⟨e1, e2⟩ | e1
      all_goals
        (try replace e1 := Bool.not_eq_eq_eq_not.1 e1)
        (try replace e2 := Bool.not_eq_eq_eq_not.1 e2)
        (try replace e3 := Bool.not_eq_eq_eq_not.1 e3)
        (try replace e4 := Bool.not_eq_eq_eq_not.1 e4)
        try simp only [Bool.not_true, Bool.not_false] at e1
        try simp only [Bool.not_true, Bool.not_false] at e2
        try simp only [Bool.not_true, Bool.not_false] at e3
        try simp only [Bool.not_true, Bool.not_false] at e4
      · obtain rfl : B = false := by rw [HB.out, e1, e2, e3, e4]; rfl
        refine wp_region_quiet_below (by kernel_rfl) (by kernel_rfl) ?_
        repeat (first | go_big_quiet_skip | (go_big_quiet_want; go_big_quiet_op; go_big_quiet_on))
        refine wpQuiet_nil ?_; intro w2 hw2'; have hw2 := regrown_sees hw2'; clear hw2'
        go_wp2_with fail
        go_meet
        exact ⟨rfl, hw2⟩
      · obtain rfl : B = true := by rw [HB.out, e1, e2, e3, e4]; rfl
        refine wp_region_quiet_below (by kernel_rfl) (by kernel_rfl) ?_
        repeat (first | go_big_quiet_skip | (go_big_quiet_want; go_big_quiet_op; go_big_quiet_on))
        refine wpQuiet_nil ?_; intro w2 hw2'; have hw2 := regrown_sees hw2'; clear hw2'
        go_wp2_with fail
        go_meet
        exact ⟨rfl, hw2⟩
      · obtain rfl : B = true := by rw [HB.out, e1, e2, e3]; rfl
        refine wp_region_quiet_below (by kernel_rfl) (by kernel_rfl) ?_
        repeat (first | go_big_quiet_skip | (go_big_quiet_want; go_big_quiet_op; go_big_quiet_on))
        refine wpQuiet_nil ?_; intro w2 hw2'; have hw2 := regrown_sees hw2'; clear hw2'
        go_wp2_with fail
        go_meet
        exact ⟨rfl, hw2⟩
      · obtain rfl : B = true := by rw [HB.out, e1, e2]; rfl
        refine wp_region_quiet_below (by kernel_rfl) (by kernel_rfl) ?_
        repeat (first | go_big_quiet_skip | (go_big_quiet_want; go_big_quiet_op; go_big_quiet_on))
        refine wpQuiet_nil ?_; intro w2 hw2'; have hw2 := regrown_sees hw2'; clear hw2'
        go_wp2_with fail
        go_meet
        exact ⟨rfl, hw2⟩
      · obtain rfl : B = true := by rw [HB.out, e1]; rfl
        refine wp_region_quiet_below (by kernel_rfl) (by kernel_rfl) ?_
        repeat (first | go_big_quiet_skip | (go_big_quiet_want; go_big_quiet_op; go_big_quiet_on))
        refine wpQuiet_nil ?_; intro w2 hw2'; have hw2 := regrown_sees hw2'; clear hw2'
        go_wp2_with fail
        go_meet
        exact ⟨rfl, hw2⟩
  case rest =>
    obtain ⟨rfl, hsc⟩ := hcut
    have HLc := Lib.hid (HL.out.sees hsc)
    have HPc := Lib.hid (HP.out.sees hsc)
    have HOc := Lib.hid (HO.out.sees hsc)
    have HSc := Lib.hid (HS.out.trans hsc)
    clear hsc HL HP HO HS
    cases B
    case true =>
      have hmk : zeroLk = m ∧ (3 : Int) = k := by have := HM.out; unfold atP at this; rw [if_pos rfl] at this; cases this; exact ⟨rfl, rfl⟩
      obtain ⟨rfl, rfl⟩ := hmk
      have m2 := HLc.out.fr
      obtain ⟨m11, m12, m13, m14, m15⟩ := HLc.out.c
      go_wp2
      exact bodyPost_ret (results_lt rfl rfl rfl (put5_at HLc.out zeroLk)) rfl ⟨rfl, sees_put5 HSc.out (by have := HBW.out; omega) zeroLk⟩
    have HMF : Hid ((match ks.find? (lkHas l c) with | some x => (x, (0 : Int)) | none => (zeroLk, 9)) = (m, k)) := by have := HM.out; unfold atP at this; rw [if_neg (by decide)] at this; exact this
    clear HM HB HBF
    go_wp2_with fail
    go_loopw [53] (fun i W => ∃ j : Nat, j ≤ N ∧ i = .int .i64 j ∧ Hid (∀ q x, q < j → ks[q]? = some x → lkHas l c x = false) ∧ Sees wc W) (fun i _ => N - (intOf i).toNat)
    case atStart => exact ⟨0, Nat.zero_le _, rfl, (fun q x h => by omega), Sees.refl _⟩
    case round =>
      obtain ⟨j, hj, rfl, hno, hS⟩ := hrel
      have HS2 := Lib.hid hS
      clear hS
      by_cases hjn : j < N
      · obtain ⟨b3, o3, x, rfl, hx, y0, y1, y2, y3, y4⟩ := lk_cell (HOc.out.sees HS2.out) hjn
        obtain ⟨B1, hB1⟩ : ∃ B1, B1 = befB l c x.l0 x.c0 := ⟨_, rfl⟩
        obtain ⟨B2, hB2⟩ : ∃ B2, B2 = befB x.l1 x.c1 l c := ⟨_, rfl⟩
        have KB1 : Hid (∀ W, Calls Tryd.prog 121 #[.agg #[.int .i64 l, .int .i64 c], .agg #[.int .i64 x.l0, .int .i64 x.c0]] W fun e w' => e = .returned (.bool B1) ∧ Sees W w') := fun W => by rw [hB1]; exact lbefore_any l c x.l0 x.c0 W
        have KB2 : Hid (∀ W, Calls Tryd.prog 121 #[.agg #[.int .i64 x.l1, .int .i64 x.c1], .agg #[.int .i64 l, .int .i64 c]] W fun e w' => e = .returned (.bool B2) ∧ Sees W w') := fun W => by rw [hB2]; exact lbefore_any x.l1 x.c1 l c W
        have HXX := Lib.hid hx
        have hhas : lkHas l c x = (!B1 && !B2) := by unfold lkHas; rw [hB1, hB2]
        have HNX : Hid (lkHas l c x = false → ∀ q y, q < j + 1 → ks[q]? = some y → lkHas l c y = false) := fun h q y hq hy => by
          rcases Nat.lt_or_ge q j with hh | hh
          · exact hno.out q y hh hy
          · obtain rfl : q = j := by omega
            rw [HXX.out] at hy
            cases hy
            exact h
        have HYX : Hid (lkHas l c x = true → x = m ∧ (0 : Int) = k) := fun h => by
          have := HMF.out
          rw [find_first hno.out HXX.out h] at this
          cases this
          exact ⟨rfl, rfl⟩
        have HH := Lib.hid hhas
        clear hB1 hB2 hx hhas
        go_upto_region 9 with fail
        refine wp_world fun W5 hW5 => ?_
        have s5 : Sees wr W5 := by subst hW5; exact (Sees.refl wr).alloc _
        have HX5 : Hid (LkAt W5 wr.heap.size x) := by subst hW5; exact heap_alloc_new wr _
        have HS5 := Lib.hid (HS2.out.trans s5)
        obtain ⟨d0, d1⟩ := (HPc.out.sees HS5.out).cells
        obtain ⟨x0, x1, x2, x3, x4⟩ := HX5.out.c
        clear hW5 s5 y0 y1 y2 y3 y4
        obtain ⟨g, hg⟩ : ∃ g, g = wr.heap.size := ⟨_, rfl⟩
        rw [← hg] at HX5 x0 x1 x2 x3 x4 ⊢
        clear hg
        go_wp2_with fail
        refine (KB1.out _).mono ?_
        rintro e W6 ⟨rfl, s6⟩
        have HX6 := Lib.hid (HX5.out.sees s6)
        have HS6 := Lib.hid (HS5.out.trans s6)
        clear s6 d0 d1 x0 x1 x2 x3 x4 HX5
        obtain ⟨d0, d1⟩ := (HPc.out.sees HS6.out).cells
        obtain ⟨x0, x1, x2, x3, x4⟩ := HX6.out.c
        cases B1
        · go_wp2_with fail
          refine (KB2.out _).mono ?_
          rintro e W7 ⟨rfl, s7⟩
          have HX7 := Lib.hid (HX6.out.sees s7)
          have HS7 := Lib.hid (HS6.out.trans s7)
          clear s7 d0 d1 x0 x1 x2 x3 x4 HX6
          cases B2
          · obtain ⟨rfl, rfl⟩ := HYX.out (by rw [HH.out]; rfl)
            have HL7 := Lib.hid (HLc.out.sees HS7.out)
            have m2 := HL7.out.fr
            obtain ⟨m11, m12, m13, m14, m15⟩ := HL7.out.c
            obtain ⟨x0, x1, x2, x3, x4⟩ := HX7.out.c
            go_wp2
            exact bodyPost_ret (results_lt rfl rfl rfl (put5_at HL7.out x)) rfl ⟨rfl, sees_put5 (HSc.out.trans HS7.out) (by have := HBW.out; omega) x⟩
          · have HNE2 := Lib.hid (HNX.out (by rw [HH.out]; rfl))
            go_wp2
            exact ⟨⟨j + 1, by omega, by go_num, HNE2, HS7.out⟩, by simp [intOf]; omega⟩
        · have HNE2 := Lib.hid (HNX.out (by rw [HH.out]; rfl))
          go_wp2
          exact ⟨⟨j + 1, by omega, by go_num, HNE2, HS6.out⟩, by simp [intOf]; omega⟩
      · obtain rfl : j = N := by omega
        have hmk : zeroLk = m ∧ (9 : Int) = k := by
          have := HMF.out
          rw [find_no (fun q y hq hy => hno.out q y (by rw [HNE.out]; exact hq) hy)] at this
          cases this
          exact ⟨rfl, rfl⟩
        obtain ⟨rfl, rfl⟩ := hmk
        have HL7 := Lib.hid (HLc.out.sees HS2.out)
        have m2 := HL7.out.fr
        obtain ⟨m11, m12, m13, m14, m15⟩ := HL7.out.c
        go_wp2
        exact bodyPost_ret (results_lt rfl rfl rfl (put5_at HL7.out zeroLk)) rfl ⟨rfl, sees_put5 (HSc.out.trans HS2.out) (by have := HBW.out; omega) zeroLk⟩
end
end Go.Proofs.YtfdolhppbimbmaaDoor

namespace Go.Proofs.YtfdolhppbimbmaaDoor
set_option linter.unusedVariables false
set_option linter.unusedSimpArgs false
open Go.RowKit Go.Shelf
attribute [local go_sem] Oper.semAt_some

set_option maxHeartbeats 4000000 in
set_option maxRecDepth 100000 in
theorem ats_true (v : Value) (first l c : Int) (m : Lk) (k : Int) (w : World) (K : ∀ W, Sees w W → Calls Tryd.prog 82 #[v, .int .i64 first, .agg #[.int .i64 l, .int .i64 c]] W fun e w' => e = .returned (.tuple #[m.val, .int .i64 k]) ∧ Sees W w') :
    Calls Tryd.prog 31 #[v, .int .i64 first, .agg #[.int .i64 l, .int .i64 c], .agg #[.int .i64 m.l0, .int .i64 m.c0, .int .i64 m.l1, .int .i64 m.c1, .string m.a], .int .i64 k] w fun e w' => e = .returned (.bool true) ∧ Sees w w' := by
  have HK := Lib.hid K
  clear K
  go_enter Tryd.func31, Tryd.ntmps31
  go_wp2_with fail
  refine calls_world fun W1 hW1 => ?_
  have s1 : Sees w W1 := by subst hW1; exact ((Sees.refl w).alloc _).alloc _
  have h1 : LkAt W1 (w.heap.size + 1) m := by
    subst hW1
    have q := heap_alloc_new (w.alloc (.cells #[.int .i64 l, .int .i64 c] 31)) (.cells #[.int .i64 m.l0, .int .i64 m.c0, .int .i64 m.l1, .int .i64 m.c1, .string m.a] 67)
    rw [World.size_alloc] at q
    exact q
  clear hW1
  refine (HK.out W1 s1).mono ?_
  rintro e W2 ⟨rfl, s2⟩
  have hmv : Lk.val m = .agg #[.int .i64 m.l0, .int .i64 m.c0, .int .i64 m.l1, .int .i64 m.c1, .string m.a] := rfl
  show (_ : Prop)
  dsimp only
  rw [hmv]
  clear hmv
  go_upto_region 2 with fail
  refine wp_world fun W3 hW3 => ?_
  have r3 : LkAt W3 W2.heap.size m ∧ LkAt W3 (w.heap.size + 1) m ∧ Sees w W3 := by subst hW3; exact ⟨heap_alloc_new W2 _, (h1.sees s2).sees ((Sees.refl _).alloc _), (s1.trans s2).alloc _⟩
  obtain ⟨m0, m1, m2, m3, m4⟩ := r3.1.c
  obtain ⟨n0, n1, n2, n3, n4⟩ := r3.2.1.c
  have S2 := Lib.hid r3.2.2
  clear s1 s2 h1 HK hW3 r3
  go_wp2
  go_ret
  exact ⟨by first | rfl | simp, S2.out⟩
set_option maxHeartbeats 4000000 in
set_option maxRecDepth 100000 in
theorem alls_true (v u : Value) (first k : Int) (xs : List Lk) (F : Nat → Prop) (w : World) (hu : lkEl.Rd F w u xs) (hn : xs.length ≤ 10000)
    (K : Calls Tryd.prog 35 #[v, .int .i64 first] w fun e w' => ∃ v', e = .returned (.tuple #[v', .int .i64 k]) ∧ lkEl.Rd (fun _ => True) w' v' xs ∧ Sees w w') :
    Calls Tryd.prog 30 #[v, .int .i64 first, u, .int .i64 k] w fun e w' => e = .returned (.bool true) ∧ Sees w w' := by
  have H := Lib.hid K
  obtain ⟨ao, c, rfl, _⟩ := hu.slice'
  obtain ⟨n, hnn⟩ : ∃ n, n = xs.length := ⟨_, rfl⟩
  rw [← hnn] at hu hn ⊢
  have HU := Lib.hid hu
  have HN := Lib.hid hnn
  clear K hu hnn
  go_enter Tryd.func30, Tryd.ntmps30
  go_wp2_with fail
  refine H.out.mono ?_
  rintro e W2 ⟨v2, rfl, hr, s⟩
  obtain ⟨a2, c2, rfl, _⟩ := hr.slice'
  rw [← HN.out] at hr ⊢
  have HR := Lib.hid hr
  have HS := Lib.hid s
  have hkk : (k != k) = false := by simp
  clear s H hr
  go_wp2_with fail
  go_loopw [11] (fun i W => ∃ j : Nat, j ≤ n ∧ i = .int .i64 j ∧ Sees W2 W) (fun i _ => n - (intOf i).toNat)
  case atStart => exact ⟨0, Nat.zero_le _, rfl, Sees.refl _⟩
  case round =>
    obtain ⟨j, hj, rfl, hS⟩ := hrel
    have HS3 := Lib.hid hS
    clear hS
    by_cases hlt : j < n
    · obtain ⟨b1, o1, x, rfl, hx1, y0, y1, y2, y3, y4⟩ := lk_cell (HR.out.sees HS3.out) hlt
      obtain ⟨b2, o2, x2, rfl, hx2, z0, z1, z2, z3, z4⟩ := lk_cell (HU.out.sees (HS.out.trans HS3.out)) hlt
      obtain rfl : x = x2 := Option.some.inj (hx1.symm.trans hx2)
      clear hx1 hx2
      go_upto_region 7 with fail
      have g0 := fun d os => (sees_grow wr d os).cell y0
      have g1 := fun d os => (sees_grow wr d os).cell y1
      have g2 := fun d os => (sees_grow wr d os).cell y2
      have g3 := fun d os => (sees_grow wr d os).cell y3
      have g4 := fun d os => (sees_grow wr d os).cell y4
      have p0 := fun d os => (sees_grow wr d os).cell z0
      have p1 := fun d os => (sees_grow wr d os).cell z1
      have p2 := fun d os => (sees_grow wr d os).cell z2
      have p3 := fun d os => (sees_grow wr d os).cell z3
      have p4 := fun d os => (sees_grow wr d os).cell z4
      clear y0 y1 y2 y3 y4 z0 z1 z2 z3 z4
      refine wp_region_quiet_below (by kernel_rfl) (by kernel_rfl) ?_
      repeat (first | go_big_quiet_skip | (go_big_quiet_want; go_big_quiet_op; go_big_quiet_on))
      refine wpQuiet_nil ?_; intro w2 hw2'; have hw2 := regrown_sees hw2'; clear hw2'
      have HS4 := Lib.hid (HS3.out.trans hw2)
      clear hw2 g0 g1 g2 g3 g4 p0 p1 p2 p3 p4
      go_wp2
      exact ⟨⟨j + 1, by omega, by go_num, HS4.out⟩, by simp [intOf]; omega⟩
    · obtain rfl : j = n := by omega
      go_wp2
      go_ret
      exact ⟨rfl, HS.out.trans HS3.out⟩
end Go.Proofs.YtfdolhppbimbmaaDoor
