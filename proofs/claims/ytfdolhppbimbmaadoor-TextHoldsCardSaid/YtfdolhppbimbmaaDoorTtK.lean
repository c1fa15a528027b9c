/- text.Block (40): its loop. The tables hold what the program's text lays. -/
import Derived.Test.YtfdolhppbimbmaaDoorTtJ
namespace Go.Proofs.YtfdolhppbimbmaaDoor
set_option linter.unusedVariables false
set_option linter.unusedSimpArgs false
open Go.RowKit
attribute [local go_sem] Oper.semAt_some

theorem blkRow_def (l r : Nat) (x : Ln) (n A B : Nat) (hn : n = x.cells.length) (hA : A = min l n) (hB : B = min (r + 1) n) : blkRow l r x = Lib.trimRightB (txts (fixL ((x.cells.drop A).take (B - A)))) 32 := by
  subst hn hA hB; rfl
theorem join_any (v : Value) (F : Nat → Prop) (xs : List ByteArray) (w : World) (h : sEl.Rd F w v xs) (hF : ∀ b, F b → b < w.heap.size) (hn : xs.length ≤ 1000000) (hlen : (Lib.join (xs.map (·.data.toList)) [10]).length ≤ 140737488355328) :
    Calls Tryd.prog 95 #[v, .string ⟨#[10]⟩] w fun e w' => e = .returned (.string (strL (Lib.join (xs.map (·.data.toList)) [10]))) ∧ Sees w w' := by
  obtain ⟨ao, cap, rfl, hcap, hh⟩ := h
  by_cases hx : xs = []
  · subst hx
    refine (Any.strings_Join_none Tryd.lays156 Tryd.Builder_Extra_156 ao cap ⟨#[10]⟩ w).mono ?_
    rintro e w' ⟨rfl, rfl⟩
    exact ⟨rfl, Sees.refl _⟩
  · obtain ⟨b, o, rfl, hb, hc⟩ := hh hx
    refine (Any.strings_Join Tryd.lays156 Tryd.Builder_Extra_156 b o cap xs ⟨#[10]⟩ w ?_ (hF b hb) (by omega) hcap hlen).mono ?_
    · intro j x hj
      obtain ⟨vs, h1, h2⟩ := hc j x hj
      have e : vs = [.string x] := h1
      have := h2 0 (.string x) (by rw [e]; rfl)
      simpa [show sEl.n = 1 from rfl] using this
    · rintro e w' ⟨rfl, h⟩
      exact ⟨rfl, h⟩
set_option maxHeartbeats 8000000 in
set_option maxRecDepth 100000 in
theorem tblock_ok (G : Nat → Prop) (v : Value) (xs : List Ln) (w : World) (ht : Tabs w) (hv : lnEl.Rd G w v xs) (hl : ∀ l ∈ xs, l.cells.length ≤ 1000000) (hn0 : xs.length ≤ 1000000) (t l b r : Nat) (hok : vldL xs = true)
    (h1 : t ≤ b) (h2 : b < xs.length) (h3 : l ≤ r) (h4 : r < 1000) :
    Calls Tryd.prog 111 #[v, .int .i64 t, .int .i64 l, .int .i64 b, .int .i64 r] w fun e w' => e = .returned (.tuple #[.string (strL (blkL xs t l b r)), .int .i64 0]) ∧ Sees w w' := by
  have KV := Lib.hid (tvalid_any G v xs w ht hv hl (by omega))
  rw [hok] at KV
  obtain ⟨ao, c, rfl, _⟩ := hv.slice'
  obtain ⟨n, hn⟩ : ∃ n, n = xs.length := ⟨_, rfl⟩
  rw [← hn] at KV hn0 h2 hv ⊢
  obtain ⟨a2, c2, hsl, hrd⟩ := mid_lns hv t (b + 1) (by omega) (by omega)
  obtain ⟨m, hm⟩ : ∃ m, m = b + 1 - t := ⟨_, rfl⟩
  obtain ⟨ys, hys⟩ : ∃ ys, ys = (xs.drop t).take (b + 1 - t) := ⟨_, rfl⟩
  have Hv : Hid (lnEl.Rd G w (.slice a2 m c2) ys) := by rw [hm, hys]; exact hrd _ _ hv
  have hyl : ∀ y ∈ ys, y.cells.length ≤ 1000000 := fun y hy => hl y (List.mem_of_mem_drop (List.mem_of_mem_take (by rw [← hys]; exact hy)))
  have Hl := Lib.hid hyl
  have hmn : m ≤ 1000000 := by omega
  have hyn : m = ys.length := Hv.out.len
  have HYN := Lib.hid hyn
  have HB : Hid (strL (blkL xs t l b r) = strL (Lib.join (ys.map (blkRow l r)) [10])) := by unfold RowKit.Hid blkL; rw [hys]
  rw [HB.out]
  rw [← hm] at hsl
  clear hv hl hn ht hok hrd hm hys hyl hyn
  have g1 : decide ((t : Int) < 0) = false := decide_eq_false (by omega)
  have g2 : decide ((t : Int) ≥ (n : Int)) = false := decide_eq_false (by omega)
  have g3 : decide ((b : Int) < 0) = false := decide_eq_false (by omega)
  have g4 : decide ((b : Int) ≥ (n : Int)) = false := decide_eq_false (by omega)
  have g5 : decide ((l : Int) < 0) = false := decide_eq_false (by omega)
  have g6 : decide ((l : Int) ≥ 1000) = false := decide_eq_false (by omega)
  have g7 : decide ((r : Int) < 0) = false := decide_eq_false (by omega)
  have g8 : decide ((r : Int) ≥ 1000) = false := decide_eq_false (by omega)
  have g9 : decide ((t : Int) > (b : Int)) = false := decide_eq_false (by omega)
  have g10 : decide ((l : Int) > (r : Int)) = false := decide_eq_false (by omega)
  have f1 : ¬ ((n : Int) ≤ t) := by omega
  have f2 : ¬ (n ≤ t) := by omega
  have f3 : ¬ ((n : Int) ≤ b) := by omega
  have f4 : ¬ (n ≤ b) := by omega
  have f5 : ¬ ((b : Int) < (t : Int)) := by omega
  have f6 : ¬ (b < t) := by omega
  have f7 : ¬ ((r : Int) < (l : Int)) := by omega
  have f8 : ¬ (r < l) := by omega
  have w1 : IntKind.i64.wrap ((b : Int) + 1) = ((b + 1 : Nat) : Int) := IntWalk.i64_in _ (by omega)
  have w2 : IntKind.i64.wrap ((r : Int) + 1) = ((r + 1 : Nat) : Int) := IntWalk.i64_in _ (by omega)
  go_enter Tryd.func111, Tryd.ntmps111
  go_wp2_with fail
  refine KV.out.mono ?_
  rintro e W1 ⟨rfl, s⟩
  have HS1 := Lib.hid s
  clear s KV
  go_wp2_with (guard_target = wpList _ _ _ ({ dst := _, op := Op.slice _ _ _ _ _, type := _, pos := _, after := _, guard := _ } :: _) _ _; refine wpList_val rfl (exec_mid (a := .slice ao n c) (b := .int .i64 (t : Int)) (d := .int .i64 ((b + 1 : Nat) : Int)) rfl rfl rfl rfl (hsl _)) (fun K hK => ?_); go_simp; refine hK _ _ ?_; clear hK K)
  clear g1 g2 g3 g4 g5 g6 g7 g8 g9 g10 f1 f2 f3 f4 f5 f6 f7 f8 w1 hsl
  go_loopw [12, 71] (fun u i W => ∃ k : Nat, k ≤ m ∧ i = .int .i64 k ∧ sEl.Own (fun b => w.heap.size ≤ b) W u ((ys.take k).map fun x => strL (blkRow l r x)) ∧ Sees w W) (fun _ i _ => m - (intOf i).toNat)
  case atStart => exact ⟨0, Nat.zero_le _, rfl, El.Own.nil _ _, HS1.out⟩
  case round =>
    obtain ⟨k, hk, rfl, hO, hS⟩ := hrel
    have HS := Lib.hid hS
    have HO := Lib.hid hO
    clear hS hO HS1
    by_cases hlt : k < m
    · obtain ⟨b1, o1, x, a1, m1, rfl, _, hlk, _, y0, y1, y2⟩ := Hv.out.line (k := k) hlt
      have x0 := HS.out.cell y0
      have x1 := HS.out.cell y1
      have Hll := Hl.out x (List.mem_iff_getElem?.2 ⟨k, hlk⟩)
      obtain ⟨n1, hn1⟩ : ∃ n1, n1 = x.cells.length := ⟨_, rfl⟩
      rw [← hn1] at x0 y2 Hll
      obtain ⟨A, hA⟩ : ∃ A, A = min l n1 := ⟨_, rfl⟩
      obtain ⟨B, hB⟩ : ∃ B, B = min (r + 1) n1 := ⟨_, rfl⟩
      obtain ⟨a3, c3, hsc, hrc⟩ := mid_cells y2 A B (by omega) (by omega)
      obtain ⟨q, hq⟩ : ∃ q, q = B - A := ⟨_, rfl⟩
      obtain ⟨zs, hzs⟩ : ∃ zs, zs = (x.cells.drop A).take (B - A) := ⟨_, rfl⟩
      have hz : cellEl.Rd G w (.slice a3 q c3) zs := by rw [hq, hzs]; exact hrc _ _ y2
      have hzl : q = zs.length := hz.len
      have hq1 : zs.length ≤ 1001 := by omega
      have HROW : Hid (blkRow l r x = Lib.trimRightB (txts (fixL zs)) 32) := by unfold RowKit.Hid; rw [hzs]; exact blkRow_def l r x n1 A B hn1 hA hB
      have KF : Hid (∀ W, Sees w W → Calls Tryd.prog 146 #[.slice a3 q c3] W fun e w' => ∃ v', e = .returned v' ∧ cellEl.Own (fun b => W.heap.size ≤ b) w' v' (fixL zs) ∧ Sees W w') := fun W hs => fix_any _ zs G W (hz.sees hs) (by omega)
      have hfl : (fixL zs).length ≤ 1001 := by rw [fixL_len]; omega
      have htl := txts_len (fixL zs)
      obtain ⟨T, hT⟩ : ∃ T, T = strL (txts (fixL zs)) := ⟨_, rfl⟩
      have hTs : T.size ≤ 20000 := by rw [hT, strL_size]; omega
      obtain ⟨X, hX⟩ : ∃ X, X = strL (blkRow l r x) := ⟨_, rfl⟩
      have KT : Hid (∀ W v', cellEl.Rd (fun _ => True) W v' (fixL zs) → Calls Tryd.prog 93 #[v'] W fun e w' => e = .returned (.string T) ∧ Sees W w') := fun W v' h => by rw [hT]; exact texts_any v' _ _ W h (by omega)
      have KR : Hid (∀ W, Calls Tryd.prog 94 #[.string T, .string ⟨#[32]⟩] W fun e w' => e = .returned (.string X) ∧ w' = W) := fun W => by
        have q := Any.strings_TrimRight_one Tryd.lays162 T 32 (by decide) W (by omega)
        rw [hX, HROW.out]
        rw [hT] at q ⊢
        exact q
      have hmin1 : min (l : Int) (n1 : Int) = (A : Int) := by omega
      have hmin2 : min ((r : Int) + 1) (n1 : Int) = (B : Int) := by omega
      have hBm : B ≤ m1 := by omega
      have hAB : A ≤ B := by omega
      have HTK : Hid ((ys.take (k + 1)).map (fun x => strL (blkRow l r x)) = (ys.take k).map (fun x => strL (blkRow l r x)) ++ [X]) := by unfold RowKit.Hid; rw [List.take_add_one, hlk, List.map_append, hX]; rfl
      have HLL : Hid (((ys.take k).map fun x => strL (blkRow l r x)).length + [X].length ≤ 100000000) := by unfold RowKit.Hid; rw [List.length_map, List.length_take, List.length_singleton]; omega
      rw [← hq] at hsc
      clear hlk y0 y1 y2 hn1 hA hB hrc hzs hz hzl hT hX HROW hq hfl htl
      go_wp2_with (guard_target = wpList _ _ _ ({ dst := _, op := Op.slice _ _ _ _ _, type := _, pos := _, after := _, guard := _ } :: _) _ _; refine wpList_val rfl (exec_mid (a := .slice a1 n1 m1) (b := .int .i64 (A : Int)) (d := .int .i64 (B : Int)) rfl rfl rfl rfl (hsc _)) (fun K hK => ?_); go_simp; refine hK _ _ ?_; clear hK K)
      refine (KF.out _ (HS.out.alloc _)).mono ?_
      rintro e W2 ⟨v2, rfl, ho2, s2⟩
      have sA : Sees wr W2 := ((Sees.refl wr).alloc _).trans s2
      have HR2 : Hid (cellEl.Rd (fun _ => True) W2 v2 (fixL zs)) := (ho2.rd).mono (fun _ _ _ => trivial)
      have HSA := Lib.hid sA
      clear ho2 s2 sA x0 x1 hsc hmin1 hmin2 hBm hAB w2
      go_wp2_with fail
      refine (KT.out _ _ HR2.out).mono ?_
      rintro e W3 ⟨rfl, s3⟩
      have HSB := Lib.hid (HSA.out.trans s3)
      clear s3 HR2
      go_wp2_with fail
      refine (KR.out _).mono ?_
      rintro e W4 ⟨rfl, hw4⟩
      subst hw4
      have sB : Sees wr (W4.alloc (.cells #[.string X] 9)) := HSB.out.alloc _
      have HS2 := Lib.hid (HS.out.trans sB)
      have HO2 := Lib.hid (HO.out.sees sB).cut
      have HR := Lib.hid (heap_alloc_new W4 (.cells #[.string X] 9))
      have HWB := Lib.hid (HS.out.trans sB).size
      clear sB KT KF KR HSA HSB
      go_wp2_with (at_builtin; refine El.wpList_append_own (v := u12) typedS rfl (.tmp 89) (.tmp 93) rfl (by go_simp) HO2.out ⟨W4.heap.size, 0, none⟩ 1 1 (by go_simp) [.string X] [X] (fun _ => False) (El.ownIn_one (E := sEl) rfl) rfl (fun j u hu => El.row_cells HR.out j u hu) (fun b hb => hb.2) (fun b hb => hb.elim) HLL.out ?_; intro v7 w7 ho7 hk7; have HO7 := Lib.hid ho7; have HK7 := Lib.hid hk7; clear ho7 hk7)
      refine ⟨⟨k + 1, by omega, by go_num, ?_, El.keep_new HS2.out HK7.out (fun g hg => (HO2.out.base hg).1.1)⟩, by simp [intOf]; omega⟩
      rw [HTK.out]
      refine HO7.out.mono fun b _ hb => ?_
      have := HWB.out
      rcases hb with hb | hb | hb
      · exact hb.1
      · exact hb.elim
      · omega
    · obtain rfl : m = k := by omega
      have hfin := HO.out
      rw [HYN.out, List.take_length] at hfin
      have hmap : (ys.map fun x => strL (blkRow l r x)).map (·.data.toList) = ys.map (blkRow l r) := by rw [List.map_map]; exact List.map_congr_left fun _ _ => rfl
      have hjl := join_len (ys.map (blkRow l r)) 20000 (fun z hz => by
        obtain ⟨x, hx, rfl⟩ := List.mem_map.1 hz
        exact blkRow_len l r x (Hl.out x hx) (by omega))
      rw [List.length_map, ← HYN.out] at hjl
      have KJ := Lib.hid (join_any _ (fun b => b < wr.heap.size) (ys.map fun x => strL (blkRow l r x)) wr ((hfin.rd).mono (fun b hb _ => hb)) (fun _ hb => hb) (by rw [List.length_map, ← HYN.out]; omega) (by rw [hmap]; omega))
      rw [hmap] at KJ
      clear hfin hmap hjl HO
      go_wp2_with fail
      refine KJ.out.mono ?_
      rintro e W3 ⟨rfl, s3⟩
      have HS3 := Lib.hid (HS.out.trans s3)
      clear s3
      go_wp2
      go_ret2
      exact ⟨rfl, HS3.out⟩
end Go.Proofs.YtfdolhppbimbmaaDoor
