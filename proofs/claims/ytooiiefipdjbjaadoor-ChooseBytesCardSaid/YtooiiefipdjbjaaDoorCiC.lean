/- ChooseBytes (41). The tables hold what the program's text lays. -/
import Derived.Test.YtooiiefipdjbjaaDoorCiB
namespace Go.Proofs.YtooiiefipdjbjaaDoor
set_option linter.unusedVariables false
set_option linter.unusedSimpArgs false
open Go.RowKit Go.Shelf
attribute [local go_sem] Oper.semAt_some

theorem ofC_valid {r k : Int} (h : wOf r = k) (hk : 1 ≤ k) : (ofC r k).valid = true := by
  have hr : r ≠ 0 := by
    rintro rfl
    have e : wOf 0 = -1 := by kernel_rfl
    omega
  unfold Cell.valid ofC
  simp only
  rw [if_neg hr, decide_eq_true (by omega), h]
  have e1 : vPen 0 0 0 0 0 0 0 0 0 0 = true := by decide
  have e2 : mkOk 0 0 0 = true := by kernel_rfl
  rw [e1, e2]
  simp
theorem chC_valid (b : UInt8) (h : b = 97 ∨ b = 98) : (chC b).valid = true := by
  rcases h with rfl | rfl <;> kernel_rfl
def byL (r : Int) : List Cell := chL ⟨#[97]⟩ ++ ofL r ++ chL ⟨#[98]⟩
theorem byL_row {r : Int} (h : 1 ≤ wOf r) : lnOk (byL r) = true ∧ ((byL r).length = 3 ∨ (byL r).length = 4) := by
  have v0 := chC_valid 97 (.inl rfl)
  have v1 := chC_valid 98 (.inr rfl)
  have vz : zC.valid = true := by kernel_rfl
  have hk : wOf r = 1 ∨ wOf r = 2 := by rcases wOf_ways r with h' | h' | h' | h' <;> omega
  rcases hk with hk | hk
  · have vr := ofC_valid hk (by omega)
    have e : byL r = [chC 97, ofC r 1, chC 98] := by unfold byL ofL; rw [hk]; rfl
    rw [e]
    refine ⟨?_, .inl rfl⟩
    unfold lnOk
    rw [Bool.and_eq_true]
    refine ⟨rfl, rowOk_all fun k hk => ?_⟩
    have hk : k < 3 := hk
    rcases (show k = 0 ∨ k = 1 ∨ k = 2 by omega) with rfl | rfl | rfl
    · show cellBad false false false (chC 97) = false
      unfold cellBad; rw [v0]; rfl
    · show cellBad false (penAt [chC 97, ofC r 1, chC 98] 1) false (ofC r 1) = false
      unfold cellBad; rw [vr]; rfl
    · show cellBad false (penAt [chC 97, ofC r 1, chC 98] 2) true (chC 98) = false
      unfold cellBad; rw [v1]; rfl
  · have vr := ofC_valid hk (by omega)
    have e : byL r = [chC 97, ofC r 2, zC, chC 98] := by unfold byL ofL; rw [hk]; rfl
    rw [e]
    refine ⟨?_, .inr rfl⟩
    unfold lnOk
    rw [Bool.and_eq_true]
    refine ⟨rfl, rowOk_all fun k hk => ?_⟩
    have hk : k < 4 := hk
    rcases (show k = 0 ∨ k = 1 ∨ k = 2 ∨ k = 3 by omega) with rfl | rfl | rfl | rfl
    · show cellBad false false false (chC 97) = false
      unfold cellBad; rw [v0]; rfl
    · show cellBad false (penAt [chC 97, ofC r 2, zC, chC 98] 1) false (ofC r 2) = false
      unfold cellBad; rw [vr]; rfl
    · show cellBad true (penAt [chC 97, ofC r 2, zC, chC 98] 2) false zC = false
      unfold cellBad; rw [vz]; rfl
    · show cellBad false (penAt [chC 97, ofC r 2, zC, chC 98] 3) true (chC 98) = false
      unfold cellBad; rw [v1]; rfl
theorem byL_rows {r : Int} (h : 1 ≤ wOf r) : rowsOk [⟨byL r, false⟩] 5 = true := by
  obtain ⟨h1, h2⟩ := byL_row h
  unfold rowsOk scrB
  rw [List.all_cons]
  have h0 : byL r ≠ [] := fun e => by rw [e] at h2; simp at h2
  have e : scrAt (cols [(⟨byL r, false⟩ : Ln)]) ⟨byL r, false⟩ = true := by
    simp [scrAt, cols, h1, h0]
  rw [e]
  rfl
theorem ofL_len (r : Int) : (ofL r).length ≤ 2 := by unfold ofL; split <;> simp
theorem cell_row_g {base : Nat} {G : Nat → Prop} (G2 : Nat → Prop) {w : World} {v : Value} {cs : List Cell} (h : cellEl.Row base G w v cs) : cellEl.Row base G2 w v cs := by
  obtain ⟨vals, h1, h2⟩ := h
  exact ⟨vals, h1, ⟨h2.1, fun i x hx => h2.2 i x hx⟩⟩
set_option maxHeartbeats 4000000 in
set_option maxRecDepth 100000 in
theorem choosebytes_true (first : Int) (hf : 0 ≤ first ∧ first ≤ 65535) (w : World) (ht : Tabs w) :
    Calls Tryd.prog 7 #[.int .u16 first] w fun e w' => e = .returned (.bool true) ∧ Sees w w' := by
  have KP := Lib.hid (fun l c W => at41_any l c W)
  have KK := Lib.hid (fun W (hs : Sees w W) => known41_any W (ht.sees hs))
  have KR := Lib.hid (fun s hs W => row41_any s hs W)
  have HT := Lib.hid ht
  obtain ⟨m, hm, hmb⟩ : ∃ m : Nat, first.tmod 12032 = (m : Int) ∧ m < 12032 := by
    obtain ⟨f, rfl⟩ := Int.eq_ofNat_of_zero_le hf.1
    exact ⟨f % 12032, (Int.ofNat_tmod f 12032).symm, Nat.mod_lt _ (by decide)⟩
  have k1 : IntKind.i64.wrap first = first := IntWalk.i64_in _ (by omega)
  have k2 : IntKind.i64.wrap (m : Int) = (m : Int) := IntWalk.i64_in _ (by omega)
  have hS := Sees.refl w
  clear ht hf
  go_enter Tryd.func7, Tryd.ntmps7
  go_wp2
  go_loopw [3] (fun u W => ∃ i : Nat, u = .int .i64 (i : Int) ∧ i ≤ 100 ∧ Sees w W) (fun u _ => 100 - (intOf u).toNat)
  case atStart => exact ⟨0, rfl, Nat.zero_le _, hS⟩
  case round =>
    clear hS
    obtain ⟨i, rfl, hi, hS⟩ := hrel
    have S := Lib.hid hS
    clear hS
    by_cases hi1 : i < 100
    case neg =>
      have hiI : (100 : Int) ≤ (i : Int) := by omega
      go_wp2_with fail
      refine (KK.out _ S.out).mono ?_
      rintro e wk ⟨rfl, hs⟩
      have SK := Lib.hid (S.out.trans hs)
      clear hs
      go_wp2
      go_ret
      exact ⟨rfl, SK.out⟩
    have hiI : (i : Int) < 100 := by omega
    obtain ⟨r, hr⟩ : ∃ r : Int, r = (m : Int) + (i : Int) := ⟨_, rfl⟩
    have k3 : IntKind.i64.wrap ((m : Int) + (i : Int)) = r := by rw [IntWalk.i64_in _ (by omega)]; exact hr.symm
    have k4 : IntKind.i32.wrap r = r := IntWalk.i32_in _ (by omega)
    have k5 : IntKind.i64.wrap ((i : Int) + 1) = ((i + 1 : Nat) : Int) := by rw [IntWalk.i64_in _ (by omega)]; omega
    clear hr
    go_wp2_with fail
    rcases (show wOf r < 1 ∨ 1 ≤ wOf r by omega) with hw | hw
    · refine (cellOf_bad r wr (HT.out.sees S.out) hw).mono ?_
      rintro e w3 ⟨rfl, hs⟩
      have S3 := Lib.hid (S.out.trans hs)
      clear hs S
      go_wp2
      have hfin : ∃ i' : Nat, Value.int .i64 ((i : Int) + 1) = .int .i64 (i' : Int) ∧ i' ≤ 100 ∧ Sees w w3 := ⟨i + 1, by congr 1, hi1, S3.out⟩
      go_roundw
      case rel => first | exact hfin | ((repeat apply Exists.intro); exact ⟨hfin, rfl⟩)
      case measure => simp [intOf]; omega
    refine (cellOf_ok r wr (HT.out.sees S.out) hw).mono ?_
    rintro e w3 ⟨v5, rfl, hov, hs⟩
    have S3 := Lib.hid (S.out.trans hs)
    have HOV := Lib.hid hov.cut
    obtain ⟨a5, c5, hv5, _⟩ := hov.slice
    have HV5 := Lib.hid hv5
    clear hs S hov hv5
    go_wp2_with fail
    refine (KR.out ⟨#[97]⟩ (by decide) w3).mono ?_
    rintro e w4 ⟨v1, rfl, ho1, hs⟩
    have S4 := Lib.hid (S3.out.trans hs)
    have HOV4 := Lib.hid (HOV.out.sees hs)
    have R1 := Lib.hid (cell_row_of (base := w3.heap.size) (fun b => wr.heap.size ≤ b ∧ b < w3.heap.size) ho1 (fun g h => h))
    have H34 := Lib.hid hs.size
    clear hs HOV
    have HRD := Lib.hid (HOV4.out.rd)
    have HG1 := Lib.hid (show ∀ b, (wr.heap.size ≤ b ∧ b < w3.heap.size) → v1.ownBlock ≠ some b from fun b hb e => by have := (R1.out.base_le e).1; omega)
    have HL1 := Lib.hid (show (chL ⟨#[97]⟩).length + (ofL r).length ≤ 100000000 by rw [chL_len]; have : (⟨#[97]⟩ : ByteArray).size = 1 := rfl; have := ofL_len r; omega)
    clear ho1
    go_wp2_with (at_builtin; refine El.wpList_append_row (base := w3.heap.size) typedCell rfl (.tmp 28) (.tmp 29) rfl (by go_simp) R1.out v5 (by go_simp) (ofL r) HRD.out HG1.out HL1.out H34.out ?_; intro v7 w7 hr7 hk7 hob7; have HR7 := Lib.hid hr7; have HS7 := Lib.hid (El.keep_new S4.out hk7 (fun g hg => by have := (R1.out.base_le hg).1; have := S3.out.size; omega)); have HZ7 := Lib.hid hk7.size; clear hr7 hk7 hob7)
    refine (KR.out ⟨#[98]⟩ (by decide) w7).mono ?_
    rintro e w8 ⟨v2, rfl, ho2, hs⟩
    have S8 := Lib.hid (HS7.out.trans hs)
    have R2 := Lib.hid (cell_row_g (fun b => w7.heap.size ≤ b ∧ b < w8.heap.size) (HR7.out.sees hs))
    have H78 := Lib.hid (show w3.heap.size ≤ w8.heap.size by have := hs.size; have := H34.out; have := HZ7.out; omega)
    have HRD2 := Lib.hid (ho2.cut.rd)
    have HG2 := Lib.hid (show ∀ b, (w7.heap.size ≤ b ∧ b < w8.heap.size) → v7.ownBlock ≠ some b from fun b hb e => by have := (HR7.out.base_le e).2; omega)
    have HL2 := Lib.hid (show (chL ⟨#[97]⟩ ++ ofL r).length + (chL ⟨#[98]⟩).length ≤ 100000000 by rw [List.length_append, chL_len, chL_len]; have : (⟨#[97]⟩ : ByteArray).size = 1 := rfl; have : (⟨#[98]⟩ : ByteArray).size = 1 := rfl; have := ofL_len r; omega)
    clear hs ho2 HR7 HOV4 R1 HRD HG1 HL1
    have HB34 := Lib.hid (show w.heap.size ≤ w3.heap.size from S3.out.size)
    go_upto_region 8 with (at_builtin; refine El.wpList_append_row (base := w3.heap.size) typedCell rfl (.tmp 30) (.tmp 31) rfl (by go_simp) R2.out v2 (by go_simp) (chL ⟨#[98]⟩) HRD2.out HG2.out HL2.out H78.out ?_; intro v9 w9 hr9 hk9 hob9; have HS9 := Lib.hid (El.keep_new S8.out hk9 (fun g hg => by have := (R2.out.base_le hg).1; have := HB34.out; omega)); have hr9' : cellEl.Row w3.heap.size (fun b => w7.heap.size ≤ b ∧ b < w8.heap.size) w9 v9 (byL r) := hr9; obtain ⟨a9, c9, hv9, _⟩ := hr9'.slice; obtain ⟨j9, hj9⟩ : ∃ j9, j9 = (byL r).length := ⟨_, rfl⟩; rw [← hj9] at hv9; subst hv9; have HJ9 := Lib.hid hj9; have HR9 := Lib.hid hr9'; clear hr9 hr9' hk9 hob9 hj9)
    have hc9 := HR9.out.rd (F := fun b => b < w9.heap.size ∨ w9.heap.size ≤ b) (fun b _ _ => by omega)
    obtain ⟨g, hg⟩ : ∃ g, g = w9.heap.size := ⟨_, rfl⟩
    obtain ⟨wa, hwa⟩ : ∃ wa, wa = w9.alloc (.cells #[.slice a9 j9 c9, .bool false] 40) := ⟨_, rfl⟩
    have sA : Sees w9 wa := by rw [hwa]; exact (Sees.refl w9).alloc _
    have r9 : cellEl.Rd (fun b => b < wa.heap.size) wa (.slice a9 j9 c9) (byL r) := (hc9.sees sA).mono (fun b hb _ => hb)
    have hl : lnEl.Rd (fun b => b < wa.heap.size) wa (.slice (some ⟨g, 0, none⟩) 1 1) [⟨byL r, false⟩] := by
      rw [hg]
      exact rd_block (E := lnEl) (by rw [hwa]; exact heap_alloc_new w9 _) (relIn_one (E := lnEl) (ln_rel r9 false)) (by show w9.heap.size < wa.heap.size; rw [hwa, World.size_alloc]; omega) rfl
    have SA := Lib.hid (HS9.out.trans sA)
    have H : Hid (ShF (fun b => b < wa.heap.size) wa (.slice (some ⟨g, 0, none⟩) 1 1) [⟨byL r, false⟩] 5) := ⟨hl, fun _ h => h, byL_rows hw, by show 1 ≤ 1000; decide⟩
    rw [← hg, ← hwa]
    clear hwa hg r9 hl hc9 sA HRD2 HG2 HL2 R2 H78 HB34 HR9
    have h3 := (byL_row hw).2
    have hN : 1 < ([⟨byL r, false⟩] : List Ln).length * cols [⟨byL r, false⟩] := by
      show 1 < 1 * (byL r).length
      omega
    obtain ⟨A, hA⟩ : ∃ A, A = wA [⟨byL r, false⟩] 1 := ⟨_, rfl⟩
    obtain ⟨B, hB⟩ : ∃ B, B = wB [⟨byL r, false⟩] 1 := ⟨_, rfl⟩
    have hAl : A < (byL r).length := by have := wA_le [⟨byL r, false⟩] 1; omega
    have hBl : B < (byL r).length := by
      have q := wB_lt hN
      rw [← hB] at q
      have e : ([⟨byL r, false⟩] : List Ln).length * cols [⟨byL r, false⟩] = (byL r).length := Nat.one_mul _
      omega
    have hpl : ∀ j : Nat, j < (byL r).length → plI [⟨byL r, false⟩] 5 j = (5, (j : Int)) := fun j hj => by
      unfold plI
      have e : cols [(⟨byL r, false⟩ : Ln)] = (byL r).length := rfl
      rw [e, Nat.div_eq_of_lt hj, Nat.mod_eq_of_lt hj]
      rfl
    have KWD := Lib.hid (fun W (hs : Sees wa W) => word41_at _ _ _ W 5 (H.out.sees hs) 1 hN)
    rw [← hA, ← hB] at KWD
    have e0 : plI [⟨byL r, false⟩] 5 1 = (5, 1) := hpl 1 (by omega)
    have e1 := hpl A hAl
    have e2 := hpl B hBl
    rw [hA] at e1
    rw [hB] at e2
    have KTW := Lib.hid (fun W (hw' : Sees w W) (hs : Sees wa W) => tWords (HT.out.sees hw') (H.out.sees hs) hN e0 e1 e2)
    rw [← hA, ← hB] at KTW
    clear e0 e1 e2 hpl hAl hBl hA hB hN h3
    go_wp2_with fail
    refine (KWD.out wa (Sees.refl wa)).mono ?_
    rintro e wb ⟨rfl, hs⟩
    have SB := Lib.hid hs
    clear hs
    go_wp2_with fail
    refine (KP.out 5 1 wb).mono ?_
    rintro e wc ⟨rfl, hs⟩
    have SC := Lib.hid (SB.out.trans hs)
    clear hs SB
    go_wp2_with fail
    refine (KP.out 5 A wc).mono ?_
    rintro e wd ⟨rfl, hs⟩
    have SD := Lib.hid (SC.out.trans hs)
    clear hs SC
    go_wp2_with fail
    refine (KP.out 5 B wd).mono ?_
    rintro e we ⟨rfl, hs⟩
    have SE := Lib.hid (SD.out.trans hs)
    clear hs SD
    go_wp2_with fail
    refine (KTW.out we (SA.out.trans SE.out) SE.out).mono ?_
    rintro e wf ⟨rfl, hs⟩
    have SF := Lib.hid ((SA.out.trans SE.out).trans hs)
    clear hs SE
    go_wp2
    have hfin : ∃ i' : Nat, Value.int .i64 ((i : Int) + 1) = .int .i64 (i' : Int) ∧ i' ≤ 100 ∧ Sees w wf := ⟨i + 1, by congr 1, hi1, SF.out⟩
    go_roundw
    case rel => first | exact hfin | ((repeat apply Exists.intro); exact ⟨hfin, rfl⟩)
    case measure => simp [intOf]; omega
end Go.Proofs.YtooiiefipdjbjaaDoor
