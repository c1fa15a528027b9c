/- Places, rows of letters (43). The tables hold what the program's text lays. known (43). The tables hold what the program's text lays. No condition. -/
import Derived.Test.YtfdolhppbimbmaaDoorLkI
import Derived.Test.YtfdolhppbimbmaaDoorSrV
namespace Go.Proofs.YtfdolhppbimbmaaDoor
set_option linter.unusedVariables false
set_option linter.unusedSimpArgs false
open Go.RowKit Go.Shelf
attribute [local go_sem] Oper.semAt_some

set_option maxHeartbeats 1000000 in
theorem lat_any (l c : Int) (w : World) : Calls Tryd.prog 33 #[.int .i64 l, .int .i64 c] w fun e w' => e = .returned (.agg #[.int .i64 l, .int .i64 c]) ∧ Sees w w' := by
  have h : PlAt (w.alloc (.cells #[.int .i64 l, .int .i64 c] 31)) w.heap.size l c := heap_alloc_new w _
  have H := Lib.hid h
  clear h
  go_enter Tryd.func33, Tryd.ntmps33
  go_wp2
  exact bodyPost_ret (results_one rfl rfl (run_loadPl H.out)) rfl ⟨rfl, (Sees.refl w).alloc _⟩
/-- The cells of a string, and blank ones up to so many columns. -/
def chP (s : ByteArray) (q : Nat) : List Cell := chL s ++ List.replicate q blankC
theorem chP_len (s : ByteArray) (q : Nat) : (chP s q).length = s.size + q := by unfold chP; rw [List.length_append, chL_len, List.length_replicate]
theorem chP_step (s : ByteArray) (q : Nat) : chP s (q + 1) = chP s q ++ [blankC] := by unfold chP; rw [List.replicate_succ', List.append_assoc]
def sliceLen : Value → Nat
  | .slice _ n _ => n
  | _ => 0
set_option maxHeartbeats 4000000 in
set_option maxRecDepth 100000 in
theorem lrow_any (s : ByteArray) (m : Nat) (hs : s.size ≤ 100000) (hm : m ≤ 100000) (w : World) :
    Calls Tryd.prog 34 #[.string s, .int .i64 m] w fun e w' => ∃ v, e = .returned v ∧ cellEl.Own (fun b => w.heap.size ≤ b) w' v (chP s (m - s.size)) ∧ Sees w w' := by
  go_enter Tryd.func34, Tryd.ntmps34
  go_wp2
  go_loopw [5, 6] (fun v i wr => ∃ k : Nat, k ≤ s.size ∧ i = .int .i64 k ∧ cellEl.Own (fun b => w.heap.size ≤ b) wr v ((chL s).take k) ∧ Sees w wr) (fun v i _ => s.size - (intOf i).toNat)
  case atStart => exact ⟨0, by omega, rfl, El.Own.nil _ _, Sees.refl _⟩
  case round =>
    obtain ⟨k, hk, rfl, ho, hS⟩ := hrel
    by_cases hlt : k < s.size
    · have k1 : (k : Int) < s.size := by omega
      obtain ⟨a3, c3, rfl, _⟩ := ho.slice
      rw [List.length_take, chL_len, Nat.min_eq_left hk] at ho ⊢
      have hcb : (s.data.toList)[k]? = some s[k] := by
        rw [List.getElem?_eq_getElem (by rw [← Lib.size_eq]; exact hlt)]
        rfl
      have hch : (chL s)[k]? = some (chC s[k]) := by unfold chL; rw [List.getElem?_map, hcb]; rfl
      have h32 : wrap32 (s[k].toNat : Int) = s[k].toNat := by have := s[k].toNat_lt; unfold wrap32; omega
      have htk : (chL s).take (k + 1) = (chL s).take k ++ [chC s[k]] := by rw [List.take_add_one, hch]; rfl
      have HTK := Lib.hid htk
      have hll : ((chL s).take k).length = k := by rw [List.length_take, chL_len]; omega
      have HL2 := Lib.hid (show ((chL s).take k).length + [chC s[k]].length ≤ 100000000 by rw [hll]; simp; omega)
      have hrow := heap_alloc_new wr (.cells #[Value.int .i32 (s[k].toNat : Int), .int .i32 0, .int .i32 0, .int .i32 0, .int .i64 1, .int .i64 0, .int .u8 0, .int .u8 0, .int .u8 0, .int .u8 0, .int .i64 0, .int .u8 0, .int .u8 0, .int .u8 0, .int .u8 0, .int .u8 0] 46)
      have sA : Sees wr (wr.alloc (.cells #[Value.int .i32 (s[k].toNat : Int), .int .i32 0, .int .i32 0, .int .i32 0, .int .i64 1, .int .i64 0, .int .u8 0, .int .u8 0, .int .u8 0, .int .u8 0, .int .i64 0, .int .u8 0, .int .u8 0, .int .u8 0, .int .u8 0, .int .u8 0] 46)) := (Sees.refl wr).alloc _
      have HO := Lib.hid (ho.cut.sees sA)
      have Hrow := Lib.hid hrow
      have HS := Lib.hid (hS.trans sA)
      have HH := Lib.hid (hS.trans sA).size
      clear hrow sA hll htk hch hcb ho hS
      go_wp2_with (at_builtin; refine El.wpList_append_own (v := .slice a3 k c3) typedCell rfl (.tmp 13) (.tmp 19) rfl (by go_simp) HO.out ⟨wr.heap.size, 0, none⟩ 1 1 (by go_simp) (chC s[k]).vals [chC s[k]] (fun _ => False) (El.ownIn_one (E := cellEl) rfl) rfl (fun j u hu => El.row_cells Hrow.out j u hu) (fun b hb => by rw [World.size_alloc]; omega) (fun b hb => hb.elim) HL2.out ?_; intro v7 w7 ho7 hk7; have HO7 := Lib.hid ho7; have HK7 := Lib.hid hk7; clear ho7 hk7)
      refine ⟨⟨k + 1, by omega, by go_num, ?_, El.keep_new HS.out HK7.out (fun g hg => (HO.out.base hg).1.1)⟩, by simp [intOf]; omega⟩
      rw [HTK.out]
      refine HO7.out.mono fun b _ hb => ?_
      have := HH.out
      rcases hb with hb | hb | hb
      · exact hb.1
      · exact hb.elim
      · omega
    · obtain rfl : k = s.size := by omega
      rw [List.take_of_length_le (by rw [chL_len]; exact Nat.le_refl _)] at ho
      have HO := Lib.hid ho
      have HS := Lib.hid hS
      clear ho hS
      go_wp2_with fail
      go_loopw [5] (fun v W => ∃ q : Nat, (q = 0 ∨ s.size + q ≤ m) ∧ cellEl.Own (fun b => w.heap.size ≤ b) W v (chP s q) ∧ Sees w W) (fun v _ => m - sliceLen v)
      case atStart => exact ⟨0, .inl rfl, by unfold chP; rw [List.replicate_zero, List.append_nil]; exact HO.out, HS.out⟩
      case round =>
        obtain ⟨q, hq, ho, hS⟩ := hrel
        obtain ⟨a3, c3, rfl, _⟩ := ho.slice
        obtain ⟨t, ht⟩ : ∃ t, t = s.size + q := ⟨_, rfl⟩
        rw [chP_len, ← ht] at ho ⊢
        by_cases hlt : t < m
        · have k1 : (t : Int) < (m : Int) := by omega
          have sA : Sees wr (wr.alloc (.cells #[Value.int .i32 0, .int .i32 0, .int .i32 0, .int .i32 0, .int .i64 1, .int .i64 0, .int .u8 0, .int .u8 0, .int .u8 0, .int .u8 0, .int .i64 0, .int .u8 0, .int .u8 0, .int .u8 0, .int .u8 0, .int .u8 0] 46)) := (Sees.refl wr).alloc _
          have HO2 := Lib.hid (ho.cut.sees sA)
          have Hrow := Lib.hid (heap_alloc_new wr (.cells #[Value.int .i32 0, .int .i32 0, .int .i32 0, .int .i32 0, .int .i64 1, .int .i64 0, .int .u8 0, .int .u8 0, .int .u8 0, .int .u8 0, .int .i64 0, .int .u8 0, .int .u8 0, .int .u8 0, .int .u8 0, .int .u8 0] 46))
          have HS2 := Lib.hid (hS.trans sA)
          have HH := Lib.hid (hS.trans sA).size
          have HL2 : Hid ((chP s q).length + [blankC].length ≤ 100000000) := by unfold RowKit.Hid; rw [chP_len, List.length_singleton]; omega
          have HT := Lib.hid ht
          clear sA ho hS ht
          go_wp2_with (at_builtin; refine El.wpList_append_own (v := .slice a3 t c3) typedCell rfl (.tmp 25) (.tmp 27) rfl (by go_simp) HO2.out ⟨wr.heap.size, 0, none⟩ 1 1 (by go_simp) blankC.vals [blankC] (fun _ => False) (El.ownIn_one (E := cellEl) rfl) rfl (fun j u hu => El.row_cells Hrow.out j u hu) (fun b hb => by rw [World.size_alloc]; omega) (fun b hb => hb.elim) HL2.out ?_; intro v7 w7 ho7 hk7; obtain ⟨a7, c7, rfl, _⟩ := ho7.slice; obtain ⟨j7, hj7⟩ : ∃ j7, j7 = (chP s q ++ [blankC]).length := ⟨_, rfl⟩; rw [← hj7] at ho7 ⊢; have HO7 := Lib.hid ho7; have HK7 := Lib.hid hk7; have HJ7 := Lib.hid hj7; clear ho7 hk7 hj7)
          refine ⟨⟨q + 1, .inr (by have := HT.out; omega), ?_, El.keep_new HS2.out HK7.out (fun g hg => (HO2.out.base hg).1.1)⟩, ?_⟩
          · rw [chP_step]
            refine HO7.out.mono fun b _ hb => ?_
            have := HH.out
            rcases hb with hb | hb | hb
            · exact hb.1
            · exact hb.elim
            · omega
          · show m - j7 < m - t
            have h7 := HJ7.out
            rw [List.length_append, chP_len, List.length_singleton] at h7
            have := HT.out
            omega
        · have hq2 : q = m - s.size := by omega
          have k1 : ¬ ((t : Int) < (m : Int)) := by omega
          rw [hq2] at ho
          have HO2 := Lib.hid ho
          have HS2 := Lib.hid hS
          clear ho hS hq2 hq ht
          go_wp2
          go_ret
          exact ⟨_, rfl, HO2.out, HS2.out⟩
end Go.Proofs.YtfdolhppbimbmaaDoor

namespace Go.Proofs.YtfdolhppbimbmaaDoor
set_option linter.unusedVariables false
set_option linter.unusedSimpArgs false
open Go.RowKit Go.Shelf
attribute [local go_sem] Oper.semAt_some

def knK : List Ln := [⟨chP ⟨#[103, 111, 32, 104, 116, 116, 112, 58, 47, 47]⟩ 0, true⟩, ⟨chP ⟨#[97, 46, 98, 47, 99, 32, 100]⟩ 3, false⟩]
def xK : Lk := ⟨3, 3, 4, 4, ⟨#[104, 116, 116, 112, 58, 47, 47, 97, 46, 98, 47, 99]⟩⟩
theorem kk_of : ofE knK 3 = 0 := by kernel_rfl
theorem kk_all : (allK knK 3).take 10000 = [xK] := by kernel_rfl
theorem kk_1 : atP ((allK knK 3).take 10000) (foB knK 3 4 0) 4 0 = (xK, 0) := by kernel_rfl
theorem kk_2 : atP ((allK knK 3).take 10000) (foB knK 3 3 2) 3 2 = (zeroLk, 9) := by kernel_rfl
theorem kk_3 : atP ((allK knK 3).take 10000) (foB knK 3 5 0) 5 0 = (zeroLk, 3) := by kernel_rfl
theorem kk_f1 : findS (⟨#[115, 101, 101, 32, 104, 116, 116, 112, 58, 47, 47, 97, 46, 98, 47, 99, 44, 32, 40, 104, 116, 116, 112, 115, 58, 47, 47, 120, 46, 121, 47, 40, 122, 41, 41, 32, 111, 114, 32, 102, 116, 112, 58, 47, 47, 113, 46]⟩ : ByteArray).data.toList = [⟨#[104, 116, 116, 112, 58, 47, 47, 97, 46, 98, 47, 99]⟩, ⟨#[104, 116, 116, 112, 115, 58, 47, 47, 120, 46, 121, 47, 40, 122, 41]⟩, ⟨#[102, 116, 112, 58, 47, 47, 113]⟩] := by kernel_rfl
theorem kk_f2 : findS (⟨#[120, 104, 116, 116, 112, 58, 47, 47, 97, 32, 104, 116, 116, 112, 58, 47, 47, 32, 102, 105, 108, 101, 58, 47, 47, 47, 116, 109, 112, 47, 195, 169, 33, 32, 72, 116, 116, 112, 58, 47, 47, 98]⟩ : ByteArray).data.toList = [⟨#[102, 105, 108, 101, 58, 47, 47, 47, 116, 109, 112, 47, 195, 169]⟩] := by kernel_rfl
theorem s_rel (F : Nat → Prop) (W : World) (x : ByteArray) : sEl.rel F W [.string x] x := rfl
theorem lk_rel (F : Nat → Prop) (W : World) (m : Lk) : lkEl.rel F W [.int .i64 m.l0, .int .i64 m.c0, .int .i64 m.l1, .int .i64 m.c1, .string m.a] m := rfl
/-- What known has made. -/
structure KnK (w : World) (g q : Nat) (W : World) : Prop where
  l : lnEl.Rd (fun b => b < W.heap.size) W (.slice (some ⟨g, 0, none⟩) 2 2) knK
  one : LkAt W q xK
  s : Sees w W
theorem KnK.sees {w W W' : World} {g q : Nat} (h : KnK w g q W) (hs : Sees W W') : KnK w g q W' := ⟨rd_up h.l hs, h.one.sees hs, h.s.trans hs⟩
theorem KnK.c {w W : World} {g q : Nat} (h : KnK w g q W) : W.cell? ⟨q, 0, none⟩ = some (.int .i64 3) ∧ W.cell? ⟨q, 1, none⟩ = some (.int .i64 3) ∧ W.cell? ⟨q, 2, none⟩ = some (.int .i64 4) ∧ W.cell? ⟨q, 3, none⟩ = some (.int .i64 4) ∧ W.cell? ⟨q, 4, none⟩ = some (.string ⟨#[104, 116, 116, 112, 58, 47, 47, 97, 46, 98, 47, 99]⟩) := h.one.c
set_option maxHeartbeats 8000000 in
set_option maxRecDepth 100000 in
theorem lknown_any (w : World) (hst : Std w) (ht : Tabs w) : Calls Tryd.prog 23 #[] w fun e w' => e = .returned (.bool true) ∧ Sees w w' := by
  have HST := Lib.hid hst
  have HT := Lib.hid ht
  have KR := Lib.hid (fun s m hs hm W => lrow_any s m hs hm W)
  have KP := Lib.hid (fun l c W => lat_any l c W)
  clear hst ht
  go_enter Tryd.func23, Tryd.ntmps23
  go_wp2_with fail
  refine calls_world fun W1 hW => ?_
  have h1 : sEl.Rd (fun _ => True) W1 (.slice (some ⟨w.heap.size, 0, none⟩) 3 3) (findS (⟨#[115, 101, 101, 32, 104, 116, 116, 112, 58, 47, 47, 97, 46, 98, 47, 99, 44, 32, 40, 104, 116, 116, 112, 115, 58, 47, 47, 120, 46, 121, 47, 40, 122, 41, 41, 32, 111, 114, 32, 102, 116, 112, 58, 47, 47, 113, 46]⟩ : ByteArray).data.toList) := by
    rw [kk_f1]
    subst hW
    exact rd_block (E := sEl) (heap_alloc_new w _) ((relIn_one (E := sEl) (s_rel _ _ ⟨#[104, 116, 116, 112, 58, 47, 47, 97, 46, 98, 47, 99]⟩)).append ((relIn_one (E := sEl) (s_rel _ _ ⟨#[104, 116, 116, 112, 115, 58, 47, 47, 120, 46, 121, 47, 40, 122, 41]⟩)).append (relIn_one (E := sEl) (s_rel _ _ ⟨#[102, 116, 112, 58, 47, 47, 113]⟩)))) trivial rfl
  have s1 : Sees w W1 := by subst hW; exact (Sees.refl w).alloc _
  refine (finds_true _ (by decide) _ _ _ h1).mono ?_
  rintro e W2 ⟨rfl, s2⟩
  have HS0 := Lib.hid (s1.trans s2)
  clear s1 s2 h1 hW 
  go_wp2_with fail
  refine calls_world fun W3 hW => ?_
  have h1 : sEl.Rd (fun _ => True) W3 (.slice (some ⟨W2.heap.size, 0, none⟩) 1 1) (findS (⟨#[120, 104, 116, 116, 112, 58, 47, 47, 97, 32, 104, 116, 116, 112, 58, 47, 47, 32, 102, 105, 108, 101, 58, 47, 47, 47, 116, 109, 112, 47, 195, 169, 33, 32, 72, 116, 116, 112, 58, 47, 47, 98]⟩ : ByteArray).data.toList) := by
    rw [kk_f2]
    subst hW
    exact rd_block (E := sEl) (heap_alloc_new W2 _) (relIn_one (E := sEl) (s_rel _ _ ⟨#[102, 105, 108, 101, 58, 47, 47, 47, 116, 109, 112, 47, 195, 169]⟩)) trivial rfl
  have s1 : Sees w W3 := by subst hW; exact HS0.out.alloc _
  refine (finds_true _ (by decide) _ _ _ h1).mono ?_
  rintro e W4 ⟨rfl, s2⟩
  have HS1 := Lib.hid (s1.trans s2)
  clear s1 s2 h1 hW HS0
  go_wp2_with fail
  refine (KR.out _ 10 (by decide) (by decide) _).mono ?_
  rintro e W5 ⟨v5, rfl, ho5, s5⟩
  have HR5 := Lib.hid ho5.rd
  have HS5 := Lib.hid (HS1.out.trans s5)
  clear ho5 s5 HS1
  obtain ⟨a5, c5, rfl, _⟩ := HR5.out.slice'
  go_wp2_with fail
  refine (KR.out _ 10 (by decide) (by decide) _).mono ?_
  rintro e W6 ⟨v6, rfl, ho6, s6⟩
  have HR6 := Lib.hid ho6.rd
  have HS6 := Lib.hid s6
  clear ho6 s6
  obtain ⟨a6, c6, rfl, _⟩ := HR6.out.slice'
  go_upto_region 4 with fail
  refine wp_world fun W7 hW7 => ?_
  have h7 : lnEl.Rd (fun b => b < W7.heap.size) W7 (.slice (some ⟨W6.heap.size, 0, none⟩) 2 2) knK := by
    have hs : Sees W6 W7 := by subst hW7; exact (Sees.refl W6).alloc _
    have r1 := (HR5.out.sees (HS6.out.trans hs)).mono (G := fun b => b < W7.heap.size) (fun b hb _ => hb)
    have r2 := (HR6.out.sees hs).mono (G := fun b => b < W7.heap.size) (fun b hb _ => hb)
    subst hW7
    exact rd_block (E := lnEl) (heap_alloc_new W6 _) ((relIn_one (E := lnEl) (ln_rel r1 true)).append (relIn_one (E := lnEl) (ln_rel r2 false))) (by simp) rfl
  have HS7 : Hid (Sees w W7) := by subst hW7; exact ((HS5.out.trans HS6.out).alloc _)
  have HL7 := Lib.hid h7
  clear h7 hW7 HR5 HR6 HS5 HS6
  generalize W6.heap.size = g at *
  go_wp2_with fail
  refine (KP.out _ _ _).mono ?_
  rintro e W8 ⟨rfl, s8⟩
  go_wp2_with fail
  refine (KP.out _ _ _).mono ?_
  rintro e W9 ⟨rfl, s9⟩
  go_upto_region 5 with fail
  refine wp_world fun W10 hW10 => ?_
  have h10 : KnK w g W9.heap.size W10 := by
    have hs : Sees W9 W10 := by subst hW10; exact (Sees.refl W9).alloc _
    refine ⟨rd_up HL7.out ((s8.trans s9).trans hs), ?_, HS7.out.trans ((s8.trans s9).trans hs)⟩
    subst hW10
    have q : LkAt _ _ xK := heap_alloc_new W9 _
    exact q
  have H10 := Lib.hid h10
  clear h10 hW10 s8 s9 HL7 HS7
  generalize W9.heap.size = q at *
  refine wpH_go (fun _ => False) 23 (by kernel_rfl) (by kernel_rfl) (by rfl) (fun hB w11 hs11 => ?_)
  have H11 := Lib.hid (H10.out.sees hs11)
  clear hs11 H10
  have hS0 : Keeps (fun _ => False) w11 w11 := Keeps.refl _ w11
  refine wpH_take (i := 0) (v := .slice (some ⟨g, 0, none⟩) 2 2) hB (by rfl) (by kernel_rfl) (fun _ _ _ _ _ h => h) (by rfl) hS0 (fun W hI => by clear hI; go_simp) ?_; (try simp only [Act.put, List.setIfInBounds_toArray, List.set_cons_zero, List.set_cons_succ])
  refine wpH_take (i := 1) (v := .agg #[.int .i64 3, .int .i64 3, .int .i64 4, .int .i64 4, .string ⟨#[104, 116, 116, 112, 58, 47, 47, 97, 46, 98, 47, 99]⟩]) hB (by rfl) (by kernel_rfl) (fun _ _ _ _ _ h => h) (by rfl) hS0 (fun W hI => by obtain ⟨q0, q1, q2, q3, q4⟩ := (KnK.c ⟨H11.out.l.sees (Sees.refl _), H11.out.one, H11.out.s⟩); have c0 := hI.cell (fun h => h) q0; have c1 := hI.cell (fun h => h) q1; have c2 := hI.cell (fun h => h) q2; have c3 := hI.cell (fun h => h) q3; have c4 := hI.cell (fun h => h) q4; go_simp) ?_; (try simp only [Act.put, List.setIfInBounds_toArray, List.set_cons_zero, List.set_cons_succ])
  refine wpH_one (i := 2) (by kernel_rfl) (wpOp_val (v := .slice (some ⟨w11.heap.size, 0, none⟩) 1 1) (w' := w11.alloc (.cells #[.int .i64 3, .int .i64 3, .int .i64 4, .int .i64 4, .string ⟨#[104, 116, 116, 112, 58, 47, 47, 97, 46, 98, 47, 99]⟩] 67)) (by rfl) (wanted_none (by rfl) _) (by go_simp) ⟨hS0.trans (Keeps.of_sees ((Sees.refl _).alloc _)), ?_⟩)
  (try simp only [Act.put, List.setIfInBounds_toArray, List.set_cons_zero, List.set_cons_succ])
  have hS1 : Keeps (fun _ => False) w11 (w11.alloc (.cells #[.int .i64 3, .int .i64 3, .int .i64 4, .int .i64 4, .string ⟨#[104, 116, 116, 112, 58, 47, 47, 97, 46, 98, 47, 99]⟩] 67)) := hS0.trans (Keeps.of_sees ((Sees.refl _).alloc _))
  have r12 : lkEl.Rd (fun b => b < (w11.alloc (.cells #[.int .i64 3, .int .i64 3, .int .i64 4, .int .i64 4, .string ⟨#[104, 116, 116, 112, 58, 47, 47, 97, 46, 98, 47, 99]⟩] 67)).heap.size) (w11.alloc (.cells #[.int .i64 3, .int .i64 3, .int .i64 4, .int .i64 4, .string ⟨#[104, 116, 116, 112, 58, 47, 47, 97, 46, 98, 47, 99]⟩] 67)) (.slice (some ⟨w11.heap.size, 0, none⟩) 1 1) [xK] :=
    rd_block (E := lkEl) (heap_alloc_new w11 _) (relIn_one (E := lkEl) (lk_rel _ _ xK)) (by simp) rfl
  have H12 := Lib.hid (H11.out.sees ((Sees.refl w11).alloc (.cells #[.int .i64 3, .int .i64 3, .int .i64 4, .int .i64 4, .string ⟨#[104, 116, 116, 112, 58, 47, 47, 97, 46, 98, 47, 99]⟩] 67)))
  have R12 := Lib.hid r12
  clear r12 hS0
  have hS0 := hS1
  clear hS1
  generalize w11.alloc (.cells #[.int .i64 3, .int .i64 3, .int .i64 4, .int .i64 4, .string ⟨#[104, 116, 116, 112, 58, 47, 47, 97, 46, 98, 47, 99]⟩] 67) = w12 at *
  have KAL : Hid (Calls Tryd.prog 35 #[.slice (some ⟨g, 0, none⟩) 2 2, .int .i64 3] w12 fun e w' => ∃ v', e = .returned (.tuple #[v', .int .i64 0]) ∧ lkEl.Rd (fun _ => True) w' v' [xK] ∧ Sees w12 w') := by
    refine (lall_ok (HST.out.sees H12.out.s) (HT.out.sees H12.out.s) H12.out.l kk_of).mono ?_
    rintro e w' ⟨v, rfl, ho, hs⟩
    rw [kk_all] at ho
    exact ⟨v, rfl, ho.rd.mono (fun b _ _ => trivial), hs⟩
  refine wpH_one (i := 3) (by kernel_rfl) (wpOp_enter (fn := 30) (args := #[.slice (some ⟨g, 0, none⟩) 2 2, .int .i64 3, .slice (some ⟨w11.heap.size, 0, none⟩) 1 1, .int .i64 0]) (by rfl) (by rfl) (by go_simp) ((alls_true _ _ 3 0 [xK] _ w12 R12.out (by decide) KAL.out).mono ?_))
  rintro e w13 ⟨rfl, hs⟩
  have hS1 := hS0.trans (Keeps.of_sees hs)
  refine ⟨_, rfl, hS1, ?_⟩
  (try simp only [Act.put, List.setIfInBounds_toArray, List.set_cons_zero, List.set_cons_succ])
  have H13 := Lib.hid (H12.out.sees hs)
  clear hs hS0 R12 H12 KAL
  have hS0 := hS1
  clear hS1
  refine wpH_take (i := 4) (v := .bool true) hB (by rfl) (by kernel_rfl) (fun _ _ _ _ _ h => h) (by rfl) hS0 (fun W hI => by clear hI; go_simp) ?_; (try simp only [Act.put, List.setIfInBounds_toArray, List.set_cons_zero, List.set_cons_succ])
  refine wpH_takeG (i := 5) (v := .slice (some ⟨g, 0, none⟩) 2 2) hB (by rfl) (by kernel_rfl) (fun _ _ _ _ _ h => h) (by go_simp) hS0 (fun W hI => by clear hI; go_simp) ?_; (try simp only [Act.put, List.setIfInBounds_toArray, List.set_cons_zero, List.set_cons_succ])
  refine wpH_takeG (i := 7) (v := .agg #[.int .i64 3, .int .i64 3, .int .i64 4, .int .i64 4, .string ⟨#[104, 116, 116, 112, 58, 47, 47, 97, 46, 98, 47, 99]⟩]) hB (by rfl) (by kernel_rfl) (fun _ _ _ _ _ h => h) (by go_simp) hS0 (fun W hI => by obtain ⟨q0, q1, q2, q3, q4⟩ := (KnK.c ⟨H11.out.l.sees (Sees.refl _), H11.out.one, H11.out.s⟩); have c0 := hI.cell (fun h => h) q0; have c1 := hI.cell (fun h => h) q1; have c2 := hI.cell (fun h => h) q2; have c3 := hI.cell (fun h => h) q3; have c4 := hI.cell (fun h => h) q4; go_simp) ?_; (try simp only [Act.put, List.setIfInBounds_toArray, List.set_cons_zero, List.set_cons_succ])
  refine wpH_one (i := 6) (by kernel_rfl) (wpOp_enterG (fn := 33) (args := #[.int .i64 4, .int .i64 0]) (by rfl) (by go_simp) (by go_simp) ((KP.out 4 0 w13).mono ?_))
  rintro e w14 ⟨rfl, hs⟩
  have hS1 := hS0.trans (Keeps.of_sees hs)
  refine ⟨_, rfl, hS1, ?_⟩
  (try simp only [Act.put, List.setIfInBounds_toArray, List.set_cons_zero, List.set_cons_succ])
  have H14 := Lib.hid (H13.out.sees hs)
  clear hs hS0
  have hS0 := hS1
  clear hS1
  have KAT : Hid (∀ W, Sees w14 W → Calls Tryd.prog 82 #[.slice (some ⟨g, 0, none⟩) 2 2, .int .i64 3, .agg #[.int .i64 4, .int .i64 0]] W fun e w' => e = .returned (.tuple #[xK.val, .int .i64 0]) ∧ Sees W w') := fun W hs => lat_ok (HST.out.sees (H14.out.s.trans hs)) (HT.out.sees (H14.out.s.trans hs)) (H14.out.sees hs).l kk_of 4 0 _ _ kk_1
  refine wpH_one (i := 8) (by kernel_rfl) (wpOp_enterG (fn := 31) (args := #[.slice (some ⟨g, 0, none⟩) 2 2, .int .i64 3, .agg #[.int .i64 4, .int .i64 0], .agg #[.int .i64 3, .int .i64 3, .int .i64 4, .int .i64 4, .string ⟨#[104, 116, 116, 112, 58, 47, 47, 97, 46, 98, 47, 99]⟩], .int .i64 0]) (by rfl) (by go_simp) (by go_simp) ((ats_true _ 3 4 0 xK 0 w14 KAT.out).mono ?_))
  rintro e w15 ⟨rfl, hs⟩
  have hS1 := hS0.trans (Keeps.of_sees hs)
  refine ⟨_, rfl, hS1, ?_⟩
  (try simp only [Act.put, List.setIfInBounds_toArray, List.set_cons_zero, List.set_cons_succ])
  have H15 := Lib.hid (H14.out.sees hs)
  clear hs hS0 KAT
  have hS0 := hS1
  clear hS1
  refine wpH_take (i := 9) (v := .bool true) hB (by rfl) (by kernel_rfl) (fun _ _ _ _ _ h => h) (by rfl) hS0 (fun W hI => by clear hI; go_simp) ?_; (try simp only [Act.put, List.setIfInBounds_toArray, List.set_cons_zero, List.set_cons_succ])
  refine wpH_take (i := 10) (v := .bool true) hB (by rfl) (by kernel_rfl) (fun _ _ _ _ _ h => h) (by rfl) hS0 (fun W hI => by clear hI; go_simp) ?_; (try simp only [Act.put, List.setIfInBounds_toArray, List.set_cons_zero, List.set_cons_succ])
  refine wpH_takeG (i := 11) (v := .slice (some ⟨g, 0, none⟩) 2 2) hB (by rfl) (by kernel_rfl) (fun _ _ _ _ _ h => h) (by go_simp) hS0 (fun W hI => by clear hI; go_simp) ?_; (try simp only [Act.put, List.setIfInBounds_toArray, List.set_cons_zero, List.set_cons_succ])
  refine wpH_takeG (i := 13) (v := .agg #[.int .i64 0, .int .i64 0, .int .i64 0, .int .i64 0, .string ⟨#[]⟩]) hB (by rfl) (by kernel_rfl) (fun _ _ _ _ _ h => h) (by go_simp) hS0 (fun W hI => by clear hI; go_simp) ?_; (try simp only [Act.put, List.setIfInBounds_toArray, List.set_cons_zero, List.set_cons_succ])
  refine wpH_one (i := 12) (by kernel_rfl) (wpOp_enterG (fn := 33) (args := #[.int .i64 3, .int .i64 2]) (by rfl) (by go_simp) (by go_simp) ((KP.out 3 2 w15).mono ?_))
  rintro e w16 ⟨rfl, hs⟩
  have hS1 := hS0.trans (Keeps.of_sees hs)
  refine ⟨_, rfl, hS1, ?_⟩
  (try simp only [Act.put, List.setIfInBounds_toArray, List.set_cons_zero, List.set_cons_succ])
  have H16 := Lib.hid (H15.out.sees hs)
  clear hs hS0
  have hS0 := hS1
  clear hS1
  have KAT : Hid (∀ W, Sees w16 W → Calls Tryd.prog 82 #[.slice (some ⟨g, 0, none⟩) 2 2, .int .i64 3, .agg #[.int .i64 3, .int .i64 2]] W fun e w' => e = .returned (.tuple #[zeroLk.val, .int .i64 9]) ∧ Sees W w') := fun W hs => lat_ok (HST.out.sees (H16.out.s.trans hs)) (HT.out.sees (H16.out.s.trans hs)) (H16.out.sees hs).l kk_of 3 2 _ _ kk_2
  refine wpH_one (i := 14) (by kernel_rfl) (wpOp_enterG (fn := 31) (args := #[.slice (some ⟨g, 0, none⟩) 2 2, .int .i64 3, .agg #[.int .i64 3, .int .i64 2], .agg #[.int .i64 0, .int .i64 0, .int .i64 0, .int .i64 0, .string ⟨#[]⟩], .int .i64 9]) (by rfl) (by go_simp) (by go_simp) ((ats_true _ 3 3 2 zeroLk 9 w16 KAT.out).mono ?_))
  rintro e w17 ⟨rfl, hs⟩
  have hS1 := hS0.trans (Keeps.of_sees hs)
  refine ⟨_, rfl, hS1, ?_⟩
  (try simp only [Act.put, List.setIfInBounds_toArray, List.set_cons_zero, List.set_cons_succ])
  have H17 := Lib.hid (H16.out.sees hs)
  clear hs hS0 KAT
  have hS0 := hS1
  clear hS1
  refine wpH_take (i := 15) (v := .bool true) hB (by rfl) (by kernel_rfl) (fun _ _ _ _ _ h => h) (by rfl) hS0 (fun W hI => by clear hI; go_simp) ?_; (try simp only [Act.put, List.setIfInBounds_toArray, List.set_cons_zero, List.set_cons_succ])
  refine wpH_take (i := 16) (v := .bool true) hB (by rfl) (by kernel_rfl) (fun _ _ _ _ _ h => h) (by rfl) hS0 (fun W hI => by clear hI; go_simp) ?_; (try simp only [Act.put, List.setIfInBounds_toArray, List.set_cons_zero, List.set_cons_succ])
  refine wpH_takeG (i := 17) (v := .slice (some ⟨g, 0, none⟩) 2 2) hB (by rfl) (by kernel_rfl) (fun _ _ _ _ _ h => h) (by go_simp) hS0 (fun W hI => by clear hI; go_simp) ?_; (try simp only [Act.put, List.setIfInBounds_toArray, List.set_cons_zero, List.set_cons_succ])
  refine wpH_takeG (i := 19) (v := .agg #[.int .i64 0, .int .i64 0, .int .i64 0, .int .i64 0, .string ⟨#[]⟩]) hB (by rfl) (by kernel_rfl) (fun _ _ _ _ _ h => h) (by go_simp) hS0 (fun W hI => by clear hI; go_simp) ?_; (try simp only [Act.put, List.setIfInBounds_toArray, List.set_cons_zero, List.set_cons_succ])
  refine wpH_one (i := 18) (by kernel_rfl) (wpOp_enterG (fn := 33) (args := #[.int .i64 5, .int .i64 0]) (by rfl) (by go_simp) (by go_simp) ((KP.out 5 0 w17).mono ?_))
  rintro e w18 ⟨rfl, hs⟩
  have hS1 := hS0.trans (Keeps.of_sees hs)
  refine ⟨_, rfl, hS1, ?_⟩
  (try simp only [Act.put, List.setIfInBounds_toArray, List.set_cons_zero, List.set_cons_succ])
  have H18 := Lib.hid (H17.out.sees hs)
  clear hs hS0
  have hS0 := hS1
  clear hS1
  have KAT : Hid (∀ W, Sees w18 W → Calls Tryd.prog 82 #[.slice (some ⟨g, 0, none⟩) 2 2, .int .i64 3, .agg #[.int .i64 5, .int .i64 0]] W fun e w' => e = .returned (.tuple #[zeroLk.val, .int .i64 3]) ∧ Sees W w') := fun W hs => lat_ok (HST.out.sees (H18.out.s.trans hs)) (HT.out.sees (H18.out.s.trans hs)) (H18.out.sees hs).l kk_of 5 0 _ _ kk_3
  refine wpH_one (i := 20) (by kernel_rfl) (wpOp_enterG (fn := 31) (args := #[.slice (some ⟨g, 0, none⟩) 2 2, .int .i64 3, .agg #[.int .i64 5, .int .i64 0], .agg #[.int .i64 0, .int .i64 0, .int .i64 0, .int .i64 0, .string ⟨#[]⟩], .int .i64 3]) (by rfl) (by go_simp) (by go_simp) ((ats_true _ 3 5 0 zeroLk 3 w18 KAT.out).mono ?_))
  rintro e w19 ⟨rfl, hs⟩
  have hS1 := hS0.trans (Keeps.of_sees hs)
  refine ⟨_, rfl, hS1, ?_⟩
  (try simp only [Act.put, List.setIfInBounds_toArray, List.set_cons_zero, List.set_cons_succ])
  have H19 := Lib.hid (H18.out.sees hs)
  clear hs hS0 KAT
  have hS0 := hS1
  clear hS1
  refine wpH_take (i := 21) (v := .bool true) hB (by rfl) (by kernel_rfl) (fun _ _ _ _ _ h => h) (by rfl) hS0 (fun W hI => by clear hI; go_simp) ?_; (try simp only [Act.put, List.setIfInBounds_toArray, List.set_cons_zero, List.set_cons_succ])
  refine wpH_take (i := 22) (v := .bool true) hB (by rfl) (by kernel_rfl) (fun _ _ _ _ _ h => h) (by rfl) hS0 (fun W hI => by clear hI; go_simp) ?_; (try simp only [Act.put, List.setIfInBounds_toArray, List.set_cons_zero, List.set_cons_succ])
  refine wpH_end (by kernel_rfl) ?_
  clear hS0 hB
  go_wp2
  go_ret
  exact ⟨rfl, H19.out.s⟩
end Go.Proofs.YtfdolhppbimbmaaDoor
