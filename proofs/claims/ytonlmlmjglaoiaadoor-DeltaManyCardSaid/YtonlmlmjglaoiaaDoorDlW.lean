/- Many rows of one cell each. The tables hold what the program's text lays. -/
import Derived.Test.YtonlmlmjglaoiaaDoorDlV
import Derived.Test.YtonlmlmjglaoiaaDoorDlN
import Derived.Test.YtonlmlmjglaoiaaDoorElM
import Derived.RegionTactic
import Derived.ChangeAlike
namespace Go.Proofs.YtonlmlmjglaoiaaDoor
set_option linter.unusedVariables false
set_option linter.unusedSimpArgs false
open Go.RowKit

theorem lines_made (n : Nat) (hn : n ≤ 1000000) (W : World) : (Instr.makeSlice 22 (.int .i64 (n : Int)) (.int .i64 (n : Int))).run Tryd.prog W = .ok (.slice (some ⟨W.heap.size, 0, none⟩) n n) (W.alloc (.cells (List.replicate n [Value.slice none 0 0, .bool false]).flatten.toArray 27)) ∧
    lnEl.Own (fun b => b = W.heap.size) (W.alloc (.cells (List.replicate n [Value.slice none 0 0, .bool false]).flatten.toArray 27)) (.slice (some ⟨W.heap.size, 0, none⟩) n n) (List.replicate n ⟨[], false⟩) :=
  El.run_make_own (E := lnEl) (P := Tryd.prog) (st := 22) [Value.slice none 0 0, .bool false] (⟨[], false⟩ : Ln) Tryd.underlying22 (by kernel_rfl) (fun i hi => by
    have h : (Tryd.prog.info? 27).map (·.bytes) = some 32 := by kernel_rfl
    have hi2 : Tryd.prog.info? 27 = some i := hi
    rw [hi2] at h; simp at h; omega) rfl rfl (fun F w => ⟨.slice none 0 0, rfl, El.Own.nil _ _⟩) n hn W

theorem own_row_cells {W : World} {b : Nat} (cs : List Cell) (cap : Nat) (h : W.heap[b]? = some (.cells (flat cs).toArray 46 (0, 0))) (hc : cs.length ≤ cap) (hm : cap * 16 = (flat cs).length ∧ cap ≤ maxLen) : cellEl.Own (fun c => c = b) W (.slice (some ⟨b, 0, none⟩) cs.length cap) cs := by
  have h1 : OwnCells W 0 (.slice (some ⟨b, 0, none⟩) cs.length cap) cs := ⟨flat_length cs, .inr ⟨b, cap, _, rfl, Nat.zero_le _, h, hc, hm.2, by show (flat cs).toArray.size = cap * 16; rw [List.size_toArray]; exact hm.1.symm, by
    show ((flat cs).toArray.toList).take (cs.length * 16) = flat cs
    rw [← flat_length]; simp⟩⟩
  exact h1.el.mono (fun c _ h => by have e := h.1; cases e; rfl)
theorem set_two {V : World} {ba bb : Nat} {ca cb : Array Value} {t : TypeId} (hne : ba ≠ bb) (ha : V.heap[ba]? = some (.cells ca t (0, 0))) (hb : V.heap[bb]? = some (.cells cb t (0, 0))) (i : Nat) (x y u v : Value) :
    ((((V.setCell ⟨ba, i, none⟩ x).setCell ⟨ba, i + 1, none⟩ y).setCell ⟨bb, i, none⟩ u).setCell ⟨bb, i + 1, none⟩ v).heap[ba]? = some (.cells ((ca.setIfInBounds i x).setIfInBounds (i + 1) y) t (0, 0)) ∧
    ((((V.setCell ⟨ba, i, none⟩ x).setCell ⟨ba, i + 1, none⟩ y).setCell ⟨bb, i, none⟩ u).setCell ⟨bb, i + 1, none⟩ v).heap[bb]? = some (.cells ((cb.setIfInBounds i u).setIfInBounds (i + 1) v) t (0, 0)) ∧
    Keeps (fun b => b = ba ∨ b = bb) V ((((V.setCell ⟨ba, i, none⟩ x).setCell ⟨ba, i + 1, none⟩ y).setCell ⟨bb, i, none⟩ u).setCell ⟨bb, i + 1, none⟩ v) := by
  refine ⟨?_, ?_, ?_⟩
  · rw [heap_setCell_other _ _ _ _ hne, heap_setCell_other _ _ _ _ hne, heap_setCell_same _ _ _ _ _ _ (heap_setCell_same _ _ _ _ _ _ ha)]
  · have h1 : ((V.setCell ⟨ba, i, none⟩ x).setCell ⟨ba, i + 1, none⟩ y).heap[bb]? = some (.cells cb t (0, 0)) := by
      rw [heap_setCell_other _ _ _ _ (fun e => hne e.symm), heap_setCell_other _ _ _ _ (fun e => hne e.symm)]; exact hb
    rw [heap_setCell_same _ _ _ _ _ _ (heap_setCell_same _ _ _ _ _ _ h1)]
  · exact Keeps.setCell (F := fun b => b = ba ∨ b = bb) (Keeps.setCell (F := fun b => b = ba ∨ b = bb) (Keeps.setCell (F := fun b => b = ba ∨ b = bb) (Keeps.setCell (F := fun b => b = ba ∨ b = bb) (Keeps.refl _ V) (p := ⟨ba, i, none⟩) (fun _ => .inl rfl) _) (p := ⟨ba, i + 1, none⟩) (fun _ => .inl rfl) _) (p := ⟨bb, i, none⟩) (fun _ => .inr rfl) _) (p := ⟨bb, i + 1, none⟩) (fun _ => .inr rfl) _
theorem turned_two {cur : Array Value} {k : Nat} {x y u v : Value} (h0 : cur[k]? = some x) (h1 : cur[k + 1]? = some y) : El.turned cur ((cur.setIfInBounds k u).setIfInBounds (k + 1) v) k [u, v] := by
  have l1 := (Array.getElem?_eq_some_iff.1 h1).1
  refine ⟨by simp, fun j => ?_⟩
  show _ = if k ≤ j ∧ j < k + 2 then _ else _
  by_cases h : k ≤ j ∧ j < k + 2
  · rw [if_pos h]
    by_cases e : j = k
    · subst e
      rw [Array.getElem?_setIfInBounds_ne (by omega), Array.getElem?_setIfInBounds_self_of_lt (by omega), Nat.sub_self]; rfl
    · obtain rfl : j = k + 1 := by omega
      rw [Array.getElem?_setIfInBounds_self_of_lt (by simpa using l1), Nat.add_sub_cancel_left]; rfl
  · rw [if_neg h, Array.getElem?_setIfInBounds_ne (by omega), Array.getElem?_setIfInBounds_ne (by omega)]
/-- The rows as they are filled. -/
def fillA (n k : Nat) : List Ln := List.replicate k rowA ++ List.replicate (n - k) ⟨[], false⟩
theorem fillA_at {n k : Nat} (h : k < n) : (fillA n k)[k]? = some ⟨[], false⟩ := by
  unfold fillA; rw [List.getElem?_append_right (by simp), List.length_replicate, Nat.sub_self, List.getElem?_replicate, if_pos (by omega)]
theorem fillA_set {n k : Nat} (h : k < n) : (fillA n k).set k rowA = fillA n (k + 1) := by
  apply List.ext_getElem?
  intro j
  unfold fillA
  by_cases hj : k = j
  · subst hj
    rw [List.getElem?_set_self (by simp; omega), List.getElem?_append_left (by simp), List.getElem?_replicate, if_pos (by omega)]
  · rw [List.getElem?_set_ne hj]
    by_cases h1 : j < k
    · rw [List.getElem?_append_left (by simpa using h1), List.getElem?_append_left (by simp; omega), List.getElem?_replicate, List.getElem?_replicate, if_pos h1, if_pos (by omega)]
    · rw [List.getElem?_append_right (by simpa using h1), List.getElem?_append_right (by simp; omega), List.length_replicate, List.length_replicate, List.getElem?_replicate, List.getElem?_replicate]
      by_cases h2 : j < n
      · rw [if_pos (by omega), if_pos (by omega)]
      · rw [if_neg (by omega), if_neg (by omega)]
theorem fillA_len {n k : Nat} (h : k ≤ n) : (fillA n k).length = n := by simp [fillA]; omega
theorem fillA_all (n : Nat) : fillA n n = manyA n := by simp [fillA, manyA]
theorem turned_same {cur : Array Value} {i : Nat} {vs : List Value} (h : ∀ (j : Nat) u, vs[j]? = some u → cur[i + j]? = some u) : El.turned cur cur i vs := by
  refine ⟨rfl, fun q => ?_⟩
  show _ = if i ≤ q ∧ q < i + vs.length then _ else _
  by_cases hq : i ≤ q ∧ q < i + vs.length
  · rw [if_pos hq]
    have h1 := h (q - i) _ (List.getElem?_eq_getElem (by omega))
    rw [Nat.add_sub_cancel' hq.1] at h1
    rw [h1, List.getElem?_eq_getElem (by omega)]
  · rw [if_neg hq]
set_option maxRecDepth 1000000 in
set_option maxHeartbeats 4000000 in
theorem deltaMany_in (n : Nat) (wh : Int) (w : World) (ht : Tabs w) (h1 : 998 ≤ n) (h2 : n ≤ 1002) (hw0 : 0 ≤ wh) (hw1 : wh ≤ 65535) :
    Calls Tryd.prog 5 #[.int .i64 (n : Int), .int .u16 wh] w fun e w' => e = .returned (.bool true) ∧ Sees w w' := by
  have Ht := Lib.hid ht
  clear ht
  obtain ⟨obj, hobj⟩ : ∃ obj, obj = Obj.cells (List.replicate n [Value.slice none 0 0, .bool false]).flatten.toArray 27 := ⟨_, rfl⟩
  have hmk := fun W => (lines_made n (by omega) W).1
  have hown := fun W => (lines_made n (by omega) W).2
  rw [← hobj] at hmk hown
  have Hown := Lib.hid hown
  clear hobj hown
  have d1 : decide ((n : Int) < 998) = false := decide_eq_false (by omega)
  have d2 : decide ((n : Int) > 1002) = false := decide_eq_false (by omega)
  go_enter Tryd.func5, Tryd.ntmps5
  go_wp2
  go_region
  · obtain ⟨ga, hga⟩ : ∃ ga, ga = w.heap.size := ⟨_, rfl⟩
    obtain ⟨gb, hgb⟩ : ∃ gb, gb = w.heap.size + 1 := ⟨_, rfl⟩
    have OA := (((Hown.out w).sees ((Sees.refl _).alloc obj)).sees (Sees.refl _).drew)
    have OB := ((Hown.out (w.alloc obj)).sees (Sees.refl _).drew)
    rw [show (w.alloc obj).heap.size = gb by rw [hgb]; simp] at OB
    rw [← hga] at OA
    rw [← hgb, ← hga]
    have Hne := Lib.hid (show ga ≠ gb by omega)
    have Hla := Lib.hid (show w.heap.size ≤ ga by omega)
    have Hlb := Lib.hid (show w.heap.size ≤ gb by omega)
    have HOA := Lib.hid OA
    have HOB := Lib.hid OB
    clear OA OB hga hgb hmk Hown
    go_wp2
    go_loopw [7] (fun i W => ∃ (k : Nat) (FA FB : Nat → Prop), k ≤ n ∧ i = .int .i64 k ∧ (∀ b, FA b → w.heap.size ≤ b ∧ ¬ FB b) ∧ (∀ b, FB b → w.heap.size ≤ b) ∧ lnEl.Own FA W (.slice (some ⟨ga, 0, none⟩) n n) (fillA n k) ∧ lnEl.Own FB W (.slice (some ⟨gb, 0, none⟩) n n) (fillA n k) ∧ Sees w W) (fun i _ => n - (intOf i).toNat)
    case atStart => exact ⟨0, (fun b => b = ga), (fun b => b = gb), by omega, rfl, fun b e => ⟨by subst e; exact Hla.out, fun e2 => Hne.out (e.symm.trans e2)⟩, fun b e => by subst e; exact Hlb.out, by simpa [fillA] using HOA.out, by simpa [fillA] using HOB.out, (((Sees.refl w).alloc _).alloc _).drew⟩
    case round =>
      obtain ⟨k, FA, FB, hk, rfl, hFA, hFB, hoa, hob, hS⟩ := hrel
      have HFA := Lib.hid hFA
      have HFB := Lib.hid hFB
      have HA := Lib.hid hoa.cut
      have HB := Lib.hid hob.cut
      have HS := Lib.hid hS
      clear hFA hFB hoa hob hS HOA HOB
      by_cases hlt : k < n
      · obtain ⟨ba, _, cura, FxA, FrA, vsA, hva, r5, hFbA, hFxA, hFrA, hga, hownA, hvlA, hvcA, hbackA⟩ := HA.out.focus (fillA_at hlt)
        obtain ⟨bb, _, curb, FxB, FrB, vsB, hvb, r6, hFbB, hFxB, hFrB, hgb, hownB, hvlB, hvcB, hbackB⟩ := HB.out.focus (fillA_at hlt)
        obtain rfl : ba = ga := by injection hva with h1; injection h1 with h2; injection h2 with h3; exact h3.symm
        obtain rfl : bb = gb := by injection hvb with h1; injection h1 with h2; injection h2 with h3; exact h3.symm
        obtain ⟨pa, pc, rfl, r1, r2⟩ := lnEl_own hownA
        obtain ⟨qa, qc, rfl, r3, r4⟩ := lnEl_own hownB
        clear r1 r2 r3 r4
        have Ga := Lib.hid hga
        have Gb := Lib.hid hgb
        have BA := Lib.hid hbackA
        have BB := Lib.hid hbackB
        have VA := Lib.hid hvcA
        have VB := Lib.hid hvcB
        have QA := Lib.hid hFrA
        have QB := Lib.hid hFrB
        have PA := Lib.hid hFbA
        have PB := Lib.hid hFbB
        clear r5 r6 hva hvb hFbA hFbB hFxA hFxB hFrA hFrB hga hgb hownA hownB hvlA hvlB hvcA hvcB hbackA hbackB
        go_wp2_with fail
        refine (one45_any 97 _).mono ?_
        rintro e w1 ⟨rfl, s1⟩
        have S1 := Lib.hid s1
        clear s1
        go_wp2_with fail
        refine (one45_any 97 _).mono ?_
        rintro e w2 ⟨rfl, s2⟩
        have S2 := Lib.hid (S1.out.trans (((Sees.refl w1).alloc (.cells #[.int .i32 97, .int .i32 0, .int .i32 0, .int .i32 0, .int .i64 1, .int .i64 0, .int .u8 0, .int .u8 0, .int .u8 0, .int .u8 0, .int .i64 0, .int .u8 0, .int .u8 0, .int .u8 0, .int .u8 0, .int .u8 0] 46)).trans s2))
        have RA := Lib.hid ((rd_row_cells [one45 97] 1 (heap_alloc_new w1 (.cells #[.int .i32 97, .int .i32 0, .int .i32 0, .int .i32 0, .int .i64 1, .int .i64 0, .int .u8 0, .int .u8 0, .int .u8 0, .int .u8 0, .int .i64 0, .int .u8 0, .int .u8 0, .int .u8 0, .int .u8 0, .int .u8 0] 46)) (by decide) ⟨rfl, by unfold maxLen; omega⟩).sees s2)
        have hgA : (w2.alloc (.cells #[.int .i32 97, .int .i32 0, .int .i32 0, .int .i32 0, .int .i64 1, .int .i64 0, .int .u8 0, .int .u8 0, .int .u8 0, .int .u8 0, .int .i64 0, .int .u8 0, .int .u8 0, .int .u8 0, .int .u8 0, .int .u8 0] 46)).heap[ba]? = some (.cells cura lnEl.ty (0, 0)) := by rw [(S2.out.alloc _).block _ (Array.getElem?_eq_some_iff.1 Ga.out).1]; exact Ga.out
        have hgB : (w2.alloc (.cells #[.int .i32 97, .int .i32 0, .int .i32 0, .int .i32 0, .int .i64 1, .int .i64 0, .int .u8 0, .int .u8 0, .int .u8 0, .int .u8 0, .int .i64 0, .int .u8 0, .int .u8 0, .int .u8 0, .int .u8 0, .int .u8 0] 46)).heap[bb]? = some (.cells curb lnEl.ty (0, 0)) := by rw [(S2.out.alloc _).block _ (Array.getElem?_eq_some_iff.1 Gb.out).1]; exact Gb.out
        have hn0 := Hne.out
        have hn1 : ¬ bb = ba := fun e => hn0 e.symm
        have a0 : (w2.alloc (.cells #[.int .i32 97, .int .i32 0, .int .i32 0, .int .i32 0, .int .i64 1, .int .i64 0, .int .u8 0, .int .u8 0, .int .u8 0, .int .u8 0, .int .i64 0, .int .u8 0, .int .u8 0, .int .u8 0, .int .u8 0, .int .u8 0] 46)).cell? ⟨ba, k * 2, none⟩ = some (.slice pa 0 pc) := by rw [cell_of_row _ _ _ _ _ _ hgA]; exact VA.out 0 _ rfl
        have a1 : (w2.alloc (.cells #[.int .i32 97, .int .i32 0, .int .i32 0, .int .i32 0, .int .i64 1, .int .i64 0, .int .u8 0, .int .u8 0, .int .u8 0, .int .u8 0, .int .i64 0, .int .u8 0, .int .u8 0, .int .u8 0, .int .u8 0, .int .u8 0] 46)).cell? ⟨ba, k * 2 + 1, none⟩ = some (.bool false) := by rw [cell_of_row _ _ _ _ _ _ hgA]; exact VA.out 1 _ rfl
        have b0 : (w2.alloc (.cells #[.int .i32 97, .int .i32 0, .int .i32 0, .int .i32 0, .int .i64 1, .int .i64 0, .int .u8 0, .int .u8 0, .int .u8 0, .int .u8 0, .int .i64 0, .int .u8 0, .int .u8 0, .int .u8 0, .int .u8 0, .int .u8 0] 46)).cell? ⟨bb, k * 2, none⟩ = some (.slice qa 0 qc) := by rw [cell_of_row _ _ _ _ _ _ hgB]; exact VB.out 0 _ rfl
        have b1 : (w2.alloc (.cells #[.int .i32 97, .int .i32 0, .int .i32 0, .int .i32 0, .int .i64 1, .int .i64 0, .int .u8 0, .int .u8 0, .int .u8 0, .int .u8 0, .int .i64 0, .int .u8 0, .int .u8 0, .int .u8 0, .int .u8 0, .int .u8 0] 46)).cell? ⟨bb, k * 2 + 1, none⟩ = some (.bool false) := by rw [cell_of_row _ _ _ _ _ _ hgB]; exact VB.out 1 _ rfl
        have fa : ∀ j, (w2.alloc (.cells #[.int .i32 97, .int .i32 0, .int .i32 0, .int .i32 0, .int .i64 1, .int .i64 0, .int .u8 0, .int .u8 0, .int .u8 0, .int .u8 0, .int .i64 0, .int .u8 0, .int .u8 0, .int .u8 0, .int .u8 0, .int .u8 0] 46)).frozen? ⟨ba, j, none⟩ = false := fun j => frozen_of_row _ _ _ _ _ hgA
        have fb : ∀ j, (w2.alloc (.cells #[.int .i32 97, .int .i32 0, .int .i32 0, .int .i32 0, .int .i64 1, .int .i64 0, .int .u8 0, .int .u8 0, .int .u8 0, .int .u8 0, .int .i64 0, .int .u8 0, .int .u8 0, .int .u8 0, .int .u8 0, .int .u8 0] 46)).frozen? ⟨bb, j, none⟩ = false := fun j => frozen_of_row _ _ _ _ _ hgB
        have HgA := Lib.hid hgA
        have HgB := Lib.hid hgB
        have s2' := Lib.hid s2
        clear hgA hgB s2
        go_wp2
        have st := set_two Hne.out HgA.out HgB.out (k * 2) (.slice (some ⟨w1.heap.size, 0, none⟩) 1 1) (.bool false) (.slice (some ⟨w2.heap.size, 0, none⟩) 1 1) (.bool false)
        obtain ⟨st1, st2, st3⟩ := st
        have hz1 : wr.heap.size ≤ w1.heap.size := S1.out.size
        have hz2 : w1.heap.size < w2.heap.size := by have := s2'.out.size; simp at this; omega
        have ltA := (Array.getElem?_eq_some_iff.1 Ga.out).1
        have ltB := (Array.getElem?_eq_some_iff.1 Gb.out).1
        have hwz := HS.out.size
        have hk2 := (Keeps.of_sees (F := fun b => b = ba ∨ b = bb) (S2.out.alloc (.cells #[.int .i32 97, .int .i32 0, .int .i32 0, .int .i32 0, .int .i64 1, .int .i64 0, .int .u8 0, .int .u8 0, .int .u8 0, .int .u8 0, .int .i64 0, .int .u8 0, .int .u8 0, .int .u8 0, .int .u8 0, .int .u8 0] 46))).trans st3
        have r1 : (w2.alloc (.cells #[.int .i32 97, .int .i32 0, .int .i32 0, .int .i32 0, .int .i64 1, .int .i64 0, .int .u8 0, .int .u8 0, .int .u8 0, .int .u8 0, .int .i64 0, .int .u8 0, .int .u8 0, .int .u8 0, .int .u8 0, .int .u8 0] 46)).heap[w1.heap.size]? = some (.cells (flat [one45 97]).toArray 46 (0, 0)) := by
          rw [((s2'.out.trans ((Sees.refl w2).alloc (.cells #[.int .i32 97, .int .i32 0, .int .i32 0, .int .i32 0, .int .i64 1, .int .i64 0, .int .u8 0, .int .u8 0, .int .u8 0, .int .u8 0, .int .i64 0, .int .u8 0, .int .u8 0, .int .u8 0, .int .u8 0, .int .u8 0] 46)))).block _ (by simp)]; exact heap_alloc_new w1 (.cells #[.int .i32 97, .int .i32 0, .int .i32 0, .int .i32 0, .int .i64 1, .int .i64 0, .int .u8 0, .int .u8 0, .int .u8 0, .int .u8 0, .int .i64 0, .int .u8 0, .int .u8 0, .int .u8 0, .int .u8 0, .int .u8 0] 46)
        have r2 : (w2.alloc (.cells #[.int .i32 97, .int .i32 0, .int .i32 0, .int .i32 0, .int .i64 1, .int .i64 0, .int .u8 0, .int .u8 0, .int .u8 0, .int .u8 0, .int .i64 0, .int .u8 0, .int .u8 0, .int .u8 0, .int .u8 0, .int .u8 0] 46)).heap[w2.heap.size]? = some (.cells (flat [one45 97]).toArray 46 (0, 0)) := heap_alloc_new w2 (.cells #[.int .i32 97, .int .i32 0, .int .i32 0, .int .i32 0, .int .i64 1, .int .i64 0, .int .u8 0, .int .u8 0, .int .u8 0, .int .u8 0, .int .i64 0, .int .u8 0, .int .u8 0, .int .u8 0, .int .u8 0, .int .u8 0] 46)
        have o1 := own_row_cells [one45 97] 1 ((st3.block _ (by simp; omega) (by omega)).trans r1) (by decide) ⟨rfl, by unfold maxLen; omega⟩
        have o2 := own_row_cells [one45 97] 1 ((st3.block _ (by simp) (by omega)).trans r2) (by decide) ⟨rfl, by unfold maxLen; omega⟩
        have nA := BA.out _ _ _ _ [.slice (some ⟨w1.heap.size, 0, none⟩) 1 1, .bool false] rowA st1 (turned_two (VA.out 0 _ rfl) (VA.out 1 _ rfl)) hk2 (fun c hc h => by
          have q := QA.out c hc
          rcases h with h | h
          · exact q.2.1 h
          · exact (HFA.out c q.1.1).2 (h ▸ PB.out.1)) ⟨_, rfl, o1⟩ (fun c hc => by
          have hc : c = w1.heap.size := hc
          subst hc
          exact ⟨by omega, fun h => by have q := (QA.out _ h).1.2; omega⟩)
        have nB := BB.out _ _ _ _ [.slice (some ⟨w2.heap.size, 0, none⟩) 1 1, .bool false] rowA st2 (turned_two (VB.out 0 _ rfl) (VB.out 1 _ rfl)) hk2 (fun c hc h => by
          have q := QB.out c hc
          rcases h with h | h
          · exact (HFA.out c (h ▸ PA.out.1)).2 q.1.1
          · exact q.2.1 h) ⟨_, rfl, o2⟩ (fun c hc => by
          have hc : c = w2.heap.size := hc
          subst hc
          exact ⟨by omega, fun h => by have q := (QB.out _ h).1.2; omega⟩)
        rw [fillA_set hlt] at nA nB
        refine ⟨⟨k + 1, _, _, by omega, by go_num, ?_, ?_, nA, nB, ?_⟩, by simp [intOf] <;> omega⟩
        · rintro c (rfl | h | h)
          · refine ⟨Hla.out, ?_⟩
            rintro (h2 | h2 | h2)
            · exact Hne.out h2
            · exact (HFA.out _ PA.out.1).2 (QB.out _ h2).1.1
            · have h2 : c = w2.heap.size := h2
              omega
          · have q := QA.out c h
            refine ⟨(HFA.out c q.1.1).1, ?_⟩
            rintro (h2 | h2 | h2)
            · exact (HFA.out c q.1.1).2 (h2 ▸ PB.out.1)
            · exact (HFA.out c q.1.1).2 (QB.out _ h2).1.1
            · have h2 : c = w2.heap.size := h2
              have := q.1.2
              omega
          · have h : c = w1.heap.size := h
            refine ⟨by omega, ?_⟩
            rintro (h2 | h2 | h2)
            · omega
            · have := (QB.out _ h2).1.2
              omega
            · have h2 : c = w2.heap.size := h2
              omega
        · rintro c (rfl | h | h)
          · exact Hlb.out
          · exact HFB.out c (QB.out c h).1.1
          · have h : c = w2.heap.size := h
            omega
        · exact ((Keeps.of_sees (F := fun _ => False) HS.out).trans' hk2 (fun b hb e => by rcases e with e | e <;> (have e : b = _ := e; subst e; first | (have := Hla.out; omega) | (have := Hlb.out; omega)))).sees_end (fun _ _ h => h)
      · obtain rfl : k = n := by omega
        clear hlt hk
        go_wp2
        rw [fillA_all] at HA HB
        obtain ⟨j, hj⟩ : ∃ j : Nat, wh % (k : Int) = j := Int.eq_ofNat_of_zero_le (Int.emod_nonneg _ (by omega))
        have hjk : j < k := by have := Int.emod_lt_of_pos wh (show (0 : Int) < k by omega); omega
        rw [hj]
        clear hj
        obtain ⟨bb, _, curb, FxB, FrB, vsB, hvb, r6, hFbB, hFxB, hFrB, hgb, hownB, hvlB, hvcB, hbackB⟩ := HB.out.focus (show (manyA k)[j]? = some rowA by unfold manyA; rw [List.getElem?_replicate, if_pos hjk])
        obtain rfl : bb = gb := by injection hvb with h1; injection h1 with h2; injection h2 with h3; exact h3.symm
        obtain ⟨qa, qc, rfl, r3, r4⟩ := lnEl_own hownB
        have r4 : cellEl.Own FxB wr (.slice qa 1 qc) [one45 97] := r4
        obtain ⟨g2, hg2, hFg, r7, r8, r9⟩ := own_cells_at r4 (by decide)
        subst hg2
        have z0 : wr.cell? ⟨bb, j * 2, none⟩ = some (.slice (some ⟨g2, 0, none⟩) 1 qc) := by rw [cell_of_row _ _ _ _ _ _ hgb]; exact hvcB 0 _ rfl
        have Z0 := Lib.hid z0
        have R4 := Lib.hid r4
        have Hgb := Lib.hid hgb
        have BB := Lib.hid hbackB
        have VB := Lib.hid hvcB
        have QB := Lib.hid hFrB
        have XB := Lib.hid hFxB
        have PB := Lib.hid hFbB
        have Hjk := Lib.hid hjk
        have hj0 : ¬ ((j : Int) < 0) := by omega
        have hjn : ¬ ((k : Int) ≤ j) := by omega
        clear r3 r4 r6 r7 r8 r9 hvb hFbB hFxB hFrB hgb hownB hvlB hvcB hbackB z0 hFg
        refine wpFrom_go (by kernel_rfl) (by kernel_rfl) (fun hB w3 hw3 => ?_)
        have hst : segStay (Sees w3) [.is (.slice (some ⟨bb, 0, none⟩) k k), .is (.int .i64 (j : Int)), .is (.pointer (some ⟨bb, j * 2, none⟩)), .is (.pointer (some ⟨bb, j * 2, none⟩)), .is (.slice (some ⟨g2, 0, none⟩) 1 qc), .is (.agg #[.int .i32 98, .int .i32 0, .int .i32 0, .int .i32 0, .int .i64 1, .int .i64 0, .int .u8 0, .int .u8 0, .int .u8 0, .int .u8 0, .int .i64 0, .int .u8 0, .int .u8 0, .int .u8 0, .int .u8 0, .int .u8 0])] := trivial
        have hval : ∀ x v, (Spec.is x).val v = x := fun _ _ => rfl
        have hval2 : ∀ V v, (Spec.so V).val v = v := fun _ _ => rfl
        refine wpFrom_any 6 _ hB (by kernel_rfl) rfl hst (by simp only [List.cons_append, List.nil_append, List.drop_succ_cons, List.drop_zero, List.take_succ_cons, List.take_zero, Nat.reduceSub]; rfl) ?_
        refine ⟨fun vs W hI hV => .inl ⟨by clear hI hV hst; go_simp, .inl (by clear hI hV hst; (try simp only [Act.put, hval, hval2, List.setIfInBounds_toArray, List.set_cons_zero, List.set_cons_succ]); go_simp)⟩, ?_⟩
        refine ⟨fun vs W hI hV => .inl ⟨by clear hI hV hst; go_simp, .inl (by clear hI hV hst; (try simp only [Act.put, hval, hval2, List.setIfInBounds_toArray, List.set_cons_zero, List.set_cons_succ]); go_simp)⟩, ?_⟩
        refine ⟨fun vs W hI hV => .inl ⟨by clear hI hV hst; go_simp, .inl (by clear hI hV hst; (try simp only [Act.put, hval, hval2, List.setIfInBounds_toArray, List.set_cons_zero, List.set_cons_succ]); go_simp)⟩, ?_⟩
        refine ⟨fun vs W hI hV => .inl ⟨by clear hI hV hst; go_simp, .inl (by clear hI hV hst; (try simp only [Act.put, hval, hval2, List.setIfInBounds_toArray, List.set_cons_zero, List.set_cons_succ]); go_simp)⟩, ?_⟩
        refine ⟨fun vs W hI hV => .inl ⟨by clear hI hV hst; go_simp, .inl (by have q1 := (hw3.trans hI).cell Z0.out; clear hI hV hst; (try simp only [Act.put, hval, hval2, List.setIfInBounds_toArray, List.set_cons_zero, List.set_cons_succ]); go_simp)⟩, ?_⟩
        refine ⟨fun vs W hI hV => .inl ⟨by clear hI hV hst; go_simp, .inr (.inr ⟨20, #[.int .i32 98], by clear hI hV hst; (try simp only [Act.put, hval, hval2, List.setIfInBounds_toArray, List.set_cons_zero, List.set_cons_succ]); go_simp, ?_⟩)⟩, ?_⟩
        · exact one45_any 98 W
        intro vs w4 hI hV
        have hs4 := hw3.trans hI
        obtain ⟨g', w5, hga, hFg, hnn, hrun, hown', hk5⟩ := own_store_cell (R4.out.sees hs4) (show 0 < [one45 97].length by decide) (one45 98)
        obtain rfl : g' = g2 := by injection hga with h1; injection h1 with h2; exact h2.symm
        have hrun : (Instr.storeAt 46 (.pointer (some ⟨g', 0, none⟩)) (.agg #[.int .i32 98, .int .i32 0, .int .i32 0, .int .i32 0, .int .i64 1, .int .i64 0, .int .u8 0, .int .u8 0, .int .u8 0, .int .u8 0, .int .i64 0, .int .u8 0, .int .u8 0, .int .u8 0, .int .u8 0, .int .u8 0])).run Tryd.prog w4 = .ok () w5 := hrun
        have HS4 := Lib.hid (HS.out.trans hs4)
        have Hs4 := Lib.hid hs4
        have Hown5 := Lib.hid hown'
        have Hk5 := Lib.hid hk5
        have HFg := Lib.hid hFg
        have Hrun := Lib.hid hrun
        clear hI hV hst hs4 hown' hk5 hga hFg hw3 hrun hnn
        (try simp only [Act.put, hval, hval2, List.setIfInBounds_toArray, List.set_cons_zero, List.set_cons_succ])
        refine wpFrom_to 8 hB (fun _ _ _ _ _ h => h) (by kernel_rfl) (by simp only [List.cons_append, List.nil_append, List.drop_succ_cons, List.drop_zero, List.take_succ_cons, List.take_zero, Nat.reduceSub]; rfl) ?_
        refine wpList_val (v := .pointer (some ⟨g', 0, none⟩)) (w' := w4) rfl (by go_simp) (fun K hK => hK _ _ ?_)
        clear hK K
        (try simp only [Act.put, hval, hval2, List.setIfInBounds_toArray, List.set_cons_zero, List.set_cons_succ])
        refine wpList_skip rfl (exec_store (x := .tmp 48) (y := .tmp 47) rfl (by go_simp) (by go_simp) Hrun.out) (fun K hK => hK _ _ ?_)
        clear hK K
        refine wpFrom_end rfl ?_
        go_wp2_with fail
        refine (one45_any 98 _).mono ?_
        rintro e w6 ⟨rfl, s6⟩
        have S6 := Lib.hid s6
        clear s6
        have hne5 : bb ≠ g' := fun e => (XB.out g' HFg.out).2 e.symm
        have hg5 : w5.heap[bb]? = some (.cells curb lnEl.ty (0, 0)) := by
          have h4 : w4.heap[bb]? = some (.cells curb lnEl.ty (0, 0)) := by rw [Hs4.out.block _ (Array.getElem?_eq_some_iff.1 Hgb.out).1]; exact Hgb.out
          rw [Hk5.out.block _ (Array.getElem?_eq_some_iff.1 h4).1 hne5]; exact h4
        have hk5 : Keeps (fun c => c = g') wr w5 := (Keeps.of_sees Hs4.out).trans Hk5.out
        have nB : lnEl.Own _ w5 (.slice (some ⟨bb, 0, none⟩) k k) (manyB k j) := BB.out (fun c => c = g') w5 curb FxB [.slice (some ⟨g', 0, none⟩) 1 qc, .bool false] rowB hg5 (turned_same VB.out) hk5 (fun c hc e => (QB.out c hc).2.2 (e ▸ HFg.out)) ⟨_, rfl, Hown5.out⟩ (fun c hc => ⟨(XB.out c hc).2, fun h => (QB.out c h).2.2 hc⟩)
        have nA : lnEl.Own _ w5 (.slice (some ⟨ga, 0, none⟩) k k) (manyA k) := HA.out.keeps hk5 (fun c hc e => by have e : c = g' := e; subst e; exact (HFA.out _ hc.1).2 (XB.out _ HFg.out).1.1)
        have hlow : w.heap.size ≤ g' := HFB.out _ (XB.out _ HFg.out).1.1
        have hS5 : Sees w w5 := ((Keeps.of_sees (F := fun _ => False) (HS.out.trans Hs4.out)).trans' Hk5.out (fun c hc e => by have e2 : c = g' := e; omega)).sees_end (fun _ _ h => h)
        have HS6 := Lib.hid (hS5.trans S6.out)
        have NA := Lib.hid (nA.rd.sees S6.out)
        have NB := Lib.hid (nB.rd.sees S6.out)
        clear hne5 hg5 hk5 nB nA hlow hS5
        have c4 : ∀ x ∈ manyA k, x.cells.length ≤ 1000000 := fun x h => by rw [manyA_mem h]; decide
        have c5 : ∀ x ∈ manyB k j, x.cells.length ≤ 1000000 := fun x h => by rcases manyB_mem h with e | e <;> rw [e] <;> decide
        have l4 := (many_len k j).1
        have l5 := (many_len k j).2
        have C4 := Lib.hid c4
        have C5 := Lib.hid c5
        have L4 := Lib.hid l4
        have L5 := Lib.hid l5
        clear c4 c5 l4 l5
        have HP := rd_row_patch (p := ⟨(j : Int), 0, [one45 98], false⟩) (heap_alloc_new (w6.alloc (.cells #[.int .i32 98, .int .i32 0, .int .i32 0, .int .i32 0, .int .i64 1, .int .i64 0, .int .u8 0, .int .u8 0, .int .u8 0, .int .u8 0, .int .i64 0, .int .u8 0, .int .u8 0, .int .u8 0, .int .u8 0, .int .u8 0] 46)) (.cells #[.int .i64 (j : Int), .int .i64 0, .slice (some ⟨w6.heap.size, 0, none⟩) 1 1, .bool false] 37)) ((rd_row_cells [one45 98] 1 (heap_alloc_new w6 (.cells #[.int .i32 98, .int .i32 0, .int .i32 0, .int .i32 0, .int .i64 1, .int .i64 0, .int .u8 0, .int .u8 0, .int .u8 0, .int .u8 0, .int .i64 0, .int .u8 0, .int .u8 0, .int .u8 0, .int .u8 0, .int .u8 0] 46)) (by decide) ⟨rfl, by unfold maxLen; omega⟩).sees ((Sees.refl _).alloc _))
        rw [show (w6.alloc (.cells #[.int .i32 98, .int .i32 0, .int .i32 0, .int .i32 0, .int .i64 1, .int .i64 0, .int .u8 0, .int .u8 0, .int .u8 0, .int .u8 0, .int .i64 0, .int .u8 0, .int .u8 0, .int .u8 0, .int .u8 0, .int .u8 0] 46)).heap.size = w6.heap.size + 1 by simp] at HP
        have HP := Lib.hid HP
        have KN := Lib.hid (fun W (hs : Sees w W) => known45 W (Ht.out.sees hs))
        have HPC : Hid (∀ p ∈ [(⟨(j : Int), 0, [one45 98], false⟩ : Pt)], p.cells.length ≤ 1000000) := fun p hp => by simp at hp; subst hp; simp
        have HPL : Hid (∀ p ∈ [(⟨(j : Int), 0, [one45 98], false⟩ : Pt)], -9223372036854775808 ≤ p.col ∧ p.col ≤ 9223372036854775807) := fun p hp => by simp at hp; subst hp; simp
        by_cases hbig : 1000 < k
        · have d3 : decide ((k : Int) > 1000) = true := decide_eq_true (by omega)
          have KA := fun (FA FB : Nat → Prop) W hs ha hb => ofs_any FA FB (fun _ => True) (.slice (some ⟨ga, 0, none⟩) k k) (.slice (some ⟨bb, 0, none⟩) k k) (.slice none 0 0) (manyA k) (manyB k j) W [] 2 (Ht.out.sees hs) ha hb (El.Rd.nil _ _) (by rw [L4.out]; omega) C4.out (by rw [L5.out]; omega) C5.out
          have KB := fun (FA : Nat → Prop) W hs ha hb => applies_any FA (fun _ => True) (fun _ => True) (.slice (some ⟨ga, 0, none⟩) k k) (.slice (some ⟨w6.heap.size + 1, 0, none⟩) 1 1) (.slice none 0 0) (manyA k) W [⟨(j : Int), 0, [one45 98], false⟩] [] 2 (Ht.out.sees hs) ha hb (El.Rd.nil _ _) (by rw [L4.out]; omega) C4.out (by simp) HPC.out HPL.out
          rw [ofR_much hbig, (chk_much hbig).1] at KA
          rw [apR_much j hbig] at KB
          simp only [decide_true, beq_self_eq_true, Bool.and_self] at KA KB
          have HKA := Lib.hid KA
          have HKB := Lib.hid KB
          clear KA KB hbig
          go_wp2_with fail
          refine (HKA.out _ _ _ ((HS6.out.alloc _).alloc _) (NA.out.sees (((Sees.refl w6).alloc _).alloc _)) (NB.out.sees (((Sees.refl w6).alloc _).alloc _))).mono ?_
          rintro e w7 ⟨rfl, t7⟩
          have T7 := Lib.hid ((((Sees.refl w6).alloc _).alloc _).trans t7)
          have HP7 := Lib.hid (HP.out.sees t7)
          clear t7
          go_wp2_with fail
          refine (HKB.out _ _ (HS6.out.trans T7.out) (NA.out.sees T7.out) HP7.out).mono ?_
          rintro e w8 ⟨rfl, t8⟩
          have T8 := Lib.hid ((HS6.out.trans T7.out).trans t8)
          clear t8
          go_wp2_with fail
          refine (KN.out _ T8.out).mono ?_
          rintro e w9 ⟨rfl, t9⟩
          go_wp2
          go_ret
          exact ⟨rfl, T8.out.trans t9⟩
        · have d3 : decide ((k : Int) > 1000) = false := decide_eq_false (by omega)
          have hk1 : k ≤ 1000 := by omega
          have KA := fun (FA FB : Nat → Prop) W hs ha hb hc => ofs_any FA FB (fun _ => True) (.slice (some ⟨ga, 0, none⟩) k k) (.slice (some ⟨bb, 0, none⟩) k k) (.slice (some ⟨w6.heap.size + 1, 0, none⟩) 1 1) (manyA k) (manyB k j) W [⟨(j : Int), 0, [one45 98], false⟩] 0 (Ht.out.sees hs) ha hb hc (by rw [L4.out]; omega) C4.out (by rw [L5.out]; omega) C5.out
          have KB := fun (FA FB : Nat → Prop) W hs ha hb hc => applies_any FA (fun _ => True) FB (.slice (some ⟨ga, 0, none⟩) k k) (.slice (some ⟨w6.heap.size + 1, 0, none⟩) 1 1) (.slice (some ⟨bb, 0, none⟩) k k) (manyA k) W [⟨(j : Int), 0, [one45 98], false⟩] (manyB k j) 0 (Ht.out.sees hs) ha hb hc (by rw [L4.out]; omega) C4.out (by simp) HPC.out HPL.out
          rw [ofR_many Hjk.out hk1, chk_many (by omega) hk1] at KA
          rw [apR_many Hjk.out hk1] at KB
          simp only [decide_true, beq_self_eq_true, Bool.and_self] at KA KB
          clear hk1
          have HKA := Lib.hid KA
          have HKB := Lib.hid KB
          clear KA KB hbig
          go_wp2_with fail
          refine (HKA.out _ _ _ ((HS6.out.alloc _).alloc _) (NA.out.sees (((Sees.refl w6).alloc _).alloc _)) (NB.out.sees (((Sees.refl w6).alloc _).alloc _)) HP.out).mono ?_
          rintro e w7 ⟨rfl, t7⟩
          have T7 := Lib.hid ((((Sees.refl w6).alloc _).alloc _).trans t7)
          have HP7 := Lib.hid (HP.out.sees t7)
          clear t7
          go_wp2_with fail
          refine (HKB.out _ _ _ (HS6.out.trans T7.out) (NA.out.sees T7.out) HP7.out (NB.out.sees T7.out)).mono ?_
          rintro e w8 ⟨rfl, t8⟩
          have T8 := Lib.hid ((HS6.out.trans T7.out).trans t8)
          clear t8
          go_wp2_with fail
          refine (KN.out _ T8.out).mono ?_
          rintro e w9 ⟨rfl, t9⟩
          go_wp2
          go_ret
          exact ⟨rfl, T8.out.trans t9⟩
  · obtain ⟨gb, hgb⟩ : ∃ gb, gb = w.heap.size := ⟨_, rfl⟩
    obtain ⟨ga, hga⟩ : ∃ ga, ga = w.heap.size + 1 := ⟨_, rfl⟩
    have OB := (((Hown.out w).sees ((Sees.refl _).alloc obj)).sees (Sees.refl _).drew)
    have OA := ((Hown.out (w.alloc obj)).sees (Sees.refl _).drew)
    rw [show (w.alloc obj).heap.size = ga by rw [hga]; simp] at OA
    rw [← hgb] at OB
    rw [← hga, ← hgb]
    have Hne := Lib.hid (show ga ≠ gb by omega)
    have Hla := Lib.hid (show w.heap.size ≤ ga by omega)
    have Hlb := Lib.hid (show w.heap.size ≤ gb by omega)
    have HOA := Lib.hid OA
    have HOB := Lib.hid OB
    clear OA OB hga hgb hmk Hown
    go_wp2
    go_loopw [7] (fun i W => ∃ (k : Nat) (FA FB : Nat → Prop), k ≤ n ∧ i = .int .i64 k ∧ (∀ b, FA b → w.heap.size ≤ b ∧ ¬ FB b) ∧ (∀ b, FB b → w.heap.size ≤ b) ∧ lnEl.Own FA W (.slice (some ⟨ga, 0, none⟩) n n) (fillA n k) ∧ lnEl.Own FB W (.slice (some ⟨gb, 0, none⟩) n n) (fillA n k) ∧ Sees w W) (fun i _ => n - (intOf i).toNat)
    case atStart => exact ⟨0, (fun b => b = ga), (fun b => b = gb), by omega, rfl, fun b e => ⟨by subst e; exact Hla.out, fun e2 => Hne.out (e.symm.trans e2)⟩, fun b e => by subst e; exact Hlb.out, by simpa [fillA] using HOA.out, by simpa [fillA] using HOB.out, (((Sees.refl w).alloc _).alloc _).drew⟩
    case round =>
      obtain ⟨k, FA, FB, hk, rfl, hFA, hFB, hoa, hob, hS⟩ := hrel
      have HFA := Lib.hid hFA
      have HFB := Lib.hid hFB
      have HA := Lib.hid hoa.cut
      have HB := Lib.hid hob.cut
      have HS := Lib.hid hS
      clear hFA hFB hoa hob hS HOA HOB
      by_cases hlt : k < n
      · obtain ⟨ba, _, cura, FxA, FrA, vsA, hva, r5, hFbA, hFxA, hFrA, hga, hownA, hvlA, hvcA, hbackA⟩ := HA.out.focus (fillA_at hlt)
        obtain ⟨bb, _, curb, FxB, FrB, vsB, hvb, r6, hFbB, hFxB, hFrB, hgb, hownB, hvlB, hvcB, hbackB⟩ := HB.out.focus (fillA_at hlt)
        obtain rfl : ba = ga := by injection hva with h1; injection h1 with h2; injection h2 with h3; exact h3.symm
        obtain rfl : bb = gb := by injection hvb with h1; injection h1 with h2; injection h2 with h3; exact h3.symm
        obtain ⟨pa, pc, rfl, r1, r2⟩ := lnEl_own hownA
        obtain ⟨qa, qc, rfl, r3, r4⟩ := lnEl_own hownB
        clear r1 r2 r3 r4
        have Ga := Lib.hid hga
        have Gb := Lib.hid hgb
        have BA := Lib.hid hbackA
        have BB := Lib.hid hbackB
        have VA := Lib.hid hvcA
        have VB := Lib.hid hvcB
        have QA := Lib.hid hFrA
        have QB := Lib.hid hFrB
        have PA := Lib.hid hFbA
        have PB := Lib.hid hFbB
        clear r5 r6 hva hvb hFbA hFbB hFxA hFxB hFrA hFrB hga hgb hownA hownB hvlA hvlB hvcA hvcB hbackA hbackB
        go_wp2_with fail
        refine (one45_any 97 _).mono ?_
        rintro e w1 ⟨rfl, s1⟩
        have S1 := Lib.hid s1
        clear s1
        go_wp2_with fail
        refine (one45_any 97 _).mono ?_
        rintro e w2 ⟨rfl, s2⟩
        have S2 := Lib.hid (S1.out.trans (((Sees.refl w1).alloc (.cells #[.int .i32 97, .int .i32 0, .int .i32 0, .int .i32 0, .int .i64 1, .int .i64 0, .int .u8 0, .int .u8 0, .int .u8 0, .int .u8 0, .int .i64 0, .int .u8 0, .int .u8 0, .int .u8 0, .int .u8 0, .int .u8 0] 46)).trans s2))
        have RA := Lib.hid ((rd_row_cells [one45 97] 1 (heap_alloc_new w1 (.cells #[.int .i32 97, .int .i32 0, .int .i32 0, .int .i32 0, .int .i64 1, .int .i64 0, .int .u8 0, .int .u8 0, .int .u8 0, .int .u8 0, .int .i64 0, .int .u8 0, .int .u8 0, .int .u8 0, .int .u8 0, .int .u8 0] 46)) (by decide) ⟨rfl, by unfold maxLen; omega⟩).sees s2)
        have hgA : (w2.alloc (.cells #[.int .i32 97, .int .i32 0, .int .i32 0, .int .i32 0, .int .i64 1, .int .i64 0, .int .u8 0, .int .u8 0, .int .u8 0, .int .u8 0, .int .i64 0, .int .u8 0, .int .u8 0, .int .u8 0, .int .u8 0, .int .u8 0] 46)).heap[ba]? = some (.cells cura lnEl.ty (0, 0)) := by rw [(S2.out.alloc _).block _ (Array.getElem?_eq_some_iff.1 Ga.out).1]; exact Ga.out
        have hgB : (w2.alloc (.cells #[.int .i32 97, .int .i32 0, .int .i32 0, .int .i32 0, .int .i64 1, .int .i64 0, .int .u8 0, .int .u8 0, .int .u8 0, .int .u8 0, .int .i64 0, .int .u8 0, .int .u8 0, .int .u8 0, .int .u8 0, .int .u8 0] 46)).heap[bb]? = some (.cells curb lnEl.ty (0, 0)) := by rw [(S2.out.alloc _).block _ (Array.getElem?_eq_some_iff.1 Gb.out).1]; exact Gb.out
        have hn0 := Hne.out
        have hn1 : ¬ bb = ba := fun e => hn0 e.symm
        have a0 : (w2.alloc (.cells #[.int .i32 97, .int .i32 0, .int .i32 0, .int .i32 0, .int .i64 1, .int .i64 0, .int .u8 0, .int .u8 0, .int .u8 0, .int .u8 0, .int .i64 0, .int .u8 0, .int .u8 0, .int .u8 0, .int .u8 0, .int .u8 0] 46)).cell? ⟨ba, k * 2, none⟩ = some (.slice pa 0 pc) := by rw [cell_of_row _ _ _ _ _ _ hgA]; exact VA.out 0 _ rfl
        have a1 : (w2.alloc (.cells #[.int .i32 97, .int .i32 0, .int .i32 0, .int .i32 0, .int .i64 1, .int .i64 0, .int .u8 0, .int .u8 0, .int .u8 0, .int .u8 0, .int .i64 0, .int .u8 0, .int .u8 0, .int .u8 0, .int .u8 0, .int .u8 0] 46)).cell? ⟨ba, k * 2 + 1, none⟩ = some (.bool false) := by rw [cell_of_row _ _ _ _ _ _ hgA]; exact VA.out 1 _ rfl
        have b0 : (w2.alloc (.cells #[.int .i32 97, .int .i32 0, .int .i32 0, .int .i32 0, .int .i64 1, .int .i64 0, .int .u8 0, .int .u8 0, .int .u8 0, .int .u8 0, .int .i64 0, .int .u8 0, .int .u8 0, .int .u8 0, .int .u8 0, .int .u8 0] 46)).cell? ⟨bb, k * 2, none⟩ = some (.slice qa 0 qc) := by rw [cell_of_row _ _ _ _ _ _ hgB]; exact VB.out 0 _ rfl
        have b1 : (w2.alloc (.cells #[.int .i32 97, .int .i32 0, .int .i32 0, .int .i32 0, .int .i64 1, .int .i64 0, .int .u8 0, .int .u8 0, .int .u8 0, .int .u8 0, .int .i64 0, .int .u8 0, .int .u8 0, .int .u8 0, .int .u8 0, .int .u8 0] 46)).cell? ⟨bb, k * 2 + 1, none⟩ = some (.bool false) := by rw [cell_of_row _ _ _ _ _ _ hgB]; exact VB.out 1 _ rfl
        have fa : ∀ j, (w2.alloc (.cells #[.int .i32 97, .int .i32 0, .int .i32 0, .int .i32 0, .int .i64 1, .int .i64 0, .int .u8 0, .int .u8 0, .int .u8 0, .int .u8 0, .int .i64 0, .int .u8 0, .int .u8 0, .int .u8 0, .int .u8 0, .int .u8 0] 46)).frozen? ⟨ba, j, none⟩ = false := fun j => frozen_of_row _ _ _ _ _ hgA
        have fb : ∀ j, (w2.alloc (.cells #[.int .i32 97, .int .i32 0, .int .i32 0, .int .i32 0, .int .i64 1, .int .i64 0, .int .u8 0, .int .u8 0, .int .u8 0, .int .u8 0, .int .i64 0, .int .u8 0, .int .u8 0, .int .u8 0, .int .u8 0, .int .u8 0] 46)).frozen? ⟨bb, j, none⟩ = false := fun j => frozen_of_row _ _ _ _ _ hgB
        have HgA := Lib.hid hgA
        have HgB := Lib.hid hgB
        have s2' := Lib.hid s2
        clear hgA hgB s2
        go_wp2
        have st := set_two Hne.out HgA.out HgB.out (k * 2) (.slice (some ⟨w1.heap.size, 0, none⟩) 1 1) (.bool false) (.slice (some ⟨w2.heap.size, 0, none⟩) 1 1) (.bool false)
        obtain ⟨st1, st2, st3⟩ := st
        have hz1 : wr.heap.size ≤ w1.heap.size := S1.out.size
        have hz2 : w1.heap.size < w2.heap.size := by have := s2'.out.size; simp at this; omega
        have ltA := (Array.getElem?_eq_some_iff.1 Ga.out).1
        have ltB := (Array.getElem?_eq_some_iff.1 Gb.out).1
        have hwz := HS.out.size
        have hk2 := (Keeps.of_sees (F := fun b => b = ba ∨ b = bb) (S2.out.alloc (.cells #[.int .i32 97, .int .i32 0, .int .i32 0, .int .i32 0, .int .i64 1, .int .i64 0, .int .u8 0, .int .u8 0, .int .u8 0, .int .u8 0, .int .i64 0, .int .u8 0, .int .u8 0, .int .u8 0, .int .u8 0, .int .u8 0] 46))).trans st3
        have r1 : (w2.alloc (.cells #[.int .i32 97, .int .i32 0, .int .i32 0, .int .i32 0, .int .i64 1, .int .i64 0, .int .u8 0, .int .u8 0, .int .u8 0, .int .u8 0, .int .i64 0, .int .u8 0, .int .u8 0, .int .u8 0, .int .u8 0, .int .u8 0] 46)).heap[w1.heap.size]? = some (.cells (flat [one45 97]).toArray 46 (0, 0)) := by
          rw [((s2'.out.trans ((Sees.refl w2).alloc (.cells #[.int .i32 97, .int .i32 0, .int .i32 0, .int .i32 0, .int .i64 1, .int .i64 0, .int .u8 0, .int .u8 0, .int .u8 0, .int .u8 0, .int .i64 0, .int .u8 0, .int .u8 0, .int .u8 0, .int .u8 0, .int .u8 0] 46)))).block _ (by simp)]; exact heap_alloc_new w1 (.cells #[.int .i32 97, .int .i32 0, .int .i32 0, .int .i32 0, .int .i64 1, .int .i64 0, .int .u8 0, .int .u8 0, .int .u8 0, .int .u8 0, .int .i64 0, .int .u8 0, .int .u8 0, .int .u8 0, .int .u8 0, .int .u8 0] 46)
        have r2 : (w2.alloc (.cells #[.int .i32 97, .int .i32 0, .int .i32 0, .int .i32 0, .int .i64 1, .int .i64 0, .int .u8 0, .int .u8 0, .int .u8 0, .int .u8 0, .int .i64 0, .int .u8 0, .int .u8 0, .int .u8 0, .int .u8 0, .int .u8 0] 46)).heap[w2.heap.size]? = some (.cells (flat [one45 97]).toArray 46 (0, 0)) := heap_alloc_new w2 (.cells #[.int .i32 97, .int .i32 0, .int .i32 0, .int .i32 0, .int .i64 1, .int .i64 0, .int .u8 0, .int .u8 0, .int .u8 0, .int .u8 0, .int .i64 0, .int .u8 0, .int .u8 0, .int .u8 0, .int .u8 0, .int .u8 0] 46)
        have o1 := own_row_cells [one45 97] 1 ((st3.block _ (by simp; omega) (by omega)).trans r1) (by decide) ⟨rfl, by unfold maxLen; omega⟩
        have o2 := own_row_cells [one45 97] 1 ((st3.block _ (by simp) (by omega)).trans r2) (by decide) ⟨rfl, by unfold maxLen; omega⟩
        have nA := BA.out _ _ _ _ [.slice (some ⟨w1.heap.size, 0, none⟩) 1 1, .bool false] rowA st1 (turned_two (VA.out 0 _ rfl) (VA.out 1 _ rfl)) hk2 (fun c hc h => by
          have q := QA.out c hc
          rcases h with h | h
          · exact q.2.1 h
          · exact (HFA.out c q.1.1).2 (h ▸ PB.out.1)) ⟨_, rfl, o1⟩ (fun c hc => by
          have hc : c = w1.heap.size := hc
          subst hc
          exact ⟨by omega, fun h => by have q := (QA.out _ h).1.2; omega⟩)
        have nB := BB.out _ _ _ _ [.slice (some ⟨w2.heap.size, 0, none⟩) 1 1, .bool false] rowA st2 (turned_two (VB.out 0 _ rfl) (VB.out 1 _ rfl)) hk2 (fun c hc h => by
          have q := QB.out c hc
          rcases h with h | h
          · exact (HFA.out c (h ▸ PA.out.1)).2 q.1.1
          · exact q.2.1 h) ⟨_, rfl, o2⟩ (fun c hc => by
          have hc : c = w2.heap.size := hc
          subst hc
          exact ⟨by omega, fun h => by have q := (QB.out _ h).1.2; omega⟩)
        rw [fillA_set hlt] at nA nB
        refine ⟨⟨k + 1, _, _, by omega, by go_num, ?_, ?_, nA, nB, ?_⟩, by simp [intOf] <;> omega⟩
        · rintro c (rfl | h | h)
          · refine ⟨Hla.out, ?_⟩
            rintro (h2 | h2 | h2)
            · exact Hne.out h2
            · exact (HFA.out _ PA.out.1).2 (QB.out _ h2).1.1
            · have h2 : c = w2.heap.size := h2
              omega
          · have q := QA.out c h
            refine ⟨(HFA.out c q.1.1).1, ?_⟩
            rintro (h2 | h2 | h2)
            · exact (HFA.out c q.1.1).2 (h2 ▸ PB.out.1)
            · exact (HFA.out c q.1.1).2 (QB.out _ h2).1.1
            · have h2 : c = w2.heap.size := h2
              have := q.1.2
              omega
          · have h : c = w1.heap.size := h
            refine ⟨by omega, ?_⟩
            rintro (h2 | h2 | h2)
            · omega
            · have := (QB.out _ h2).1.2
              omega
            · have h2 : c = w2.heap.size := h2
              omega
        · rintro c (rfl | h | h)
          · exact Hlb.out
          · exact HFB.out c (QB.out c h).1.1
          · have h : c = w2.heap.size := h
            omega
        · exact ((Keeps.of_sees (F := fun _ => False) HS.out).trans' hk2 (fun b hb e => by rcases e with e | e <;> (have e : b = _ := e; subst e; first | (have := Hla.out; omega) | (have := Hlb.out; omega)))).sees_end (fun _ _ h => h)
      · obtain rfl : k = n := by omega
        clear hlt hk
        go_wp2
        rw [fillA_all] at HA HB
        obtain ⟨j, hj⟩ : ∃ j : Nat, wh % (k : Int) = j := Int.eq_ofNat_of_zero_le (Int.emod_nonneg _ (by omega))
        have hjk : j < k := by have := Int.emod_lt_of_pos wh (show (0 : Int) < k by omega); omega
        rw [hj]
        clear hj
        obtain ⟨bb, _, curb, FxB, FrB, vsB, hvb, r6, hFbB, hFxB, hFrB, hgb, hownB, hvlB, hvcB, hbackB⟩ := HB.out.focus (show (manyA k)[j]? = some rowA by unfold manyA; rw [List.getElem?_replicate, if_pos hjk])
        obtain rfl : bb = gb := by injection hvb with h1; injection h1 with h2; injection h2 with h3; exact h3.symm
        obtain ⟨qa, qc, rfl, r3, r4⟩ := lnEl_own hownB
        have r4 : cellEl.Own FxB wr (.slice qa 1 qc) [one45 97] := r4
        obtain ⟨g2, hg2, hFg, r7, r8, r9⟩ := own_cells_at r4 (by decide)
        subst hg2
        have z0 : wr.cell? ⟨bb, j * 2, none⟩ = some (.slice (some ⟨g2, 0, none⟩) 1 qc) := by rw [cell_of_row _ _ _ _ _ _ hgb]; exact hvcB 0 _ rfl
        have Z0 := Lib.hid z0
        have R4 := Lib.hid r4
        have Hgb := Lib.hid hgb
        have BB := Lib.hid hbackB
        have VB := Lib.hid hvcB
        have QB := Lib.hid hFrB
        have XB := Lib.hid hFxB
        have PB := Lib.hid hFbB
        have Hjk := Lib.hid hjk
        have hj0 : ¬ ((j : Int) < 0) := by omega
        have hjn : ¬ ((k : Int) ≤ j) := by omega
        clear r3 r4 r6 r7 r8 r9 hvb hFbB hFxB hFrB hgb hownB hvlB hvcB hbackB z0 hFg
        refine wpFrom_go (by kernel_rfl) (by kernel_rfl) (fun hB w3 hw3 => ?_)
        have hst : segStay (Sees w3) [.is (.slice (some ⟨bb, 0, none⟩) k k), .is (.int .i64 (j : Int)), .is (.pointer (some ⟨bb, j * 2, none⟩)), .is (.pointer (some ⟨bb, j * 2, none⟩)), .is (.slice (some ⟨g2, 0, none⟩) 1 qc), .is (.agg #[.int .i32 98, .int .i32 0, .int .i32 0, .int .i32 0, .int .i64 1, .int .i64 0, .int .u8 0, .int .u8 0, .int .u8 0, .int .u8 0, .int .i64 0, .int .u8 0, .int .u8 0, .int .u8 0, .int .u8 0, .int .u8 0])] := trivial
        have hval : ∀ x v, (Spec.is x).val v = x := fun _ _ => rfl
        have hval2 : ∀ V v, (Spec.so V).val v = v := fun _ _ => rfl
        refine wpFrom_any 6 _ hB (by kernel_rfl) rfl hst (by simp only [List.cons_append, List.nil_append, List.drop_succ_cons, List.drop_zero, List.take_succ_cons, List.take_zero, Nat.reduceSub]; rfl) ?_
        refine ⟨fun vs W hI hV => .inl ⟨by clear hI hV hst; go_simp, .inl (by clear hI hV hst; (try simp only [Act.put, hval, hval2, List.setIfInBounds_toArray, List.set_cons_zero, List.set_cons_succ]); go_simp)⟩, ?_⟩
        refine ⟨fun vs W hI hV => .inl ⟨by clear hI hV hst; go_simp, .inl (by clear hI hV hst; (try simp only [Act.put, hval, hval2, List.setIfInBounds_toArray, List.set_cons_zero, List.set_cons_succ]); go_simp)⟩, ?_⟩
        refine ⟨fun vs W hI hV => .inl ⟨by clear hI hV hst; go_simp, .inl (by clear hI hV hst; (try simp only [Act.put, hval, hval2, List.setIfInBounds_toArray, List.set_cons_zero, List.set_cons_succ]); go_simp)⟩, ?_⟩
        refine ⟨fun vs W hI hV => .inl ⟨by clear hI hV hst; go_simp, .inl (by clear hI hV hst; (try simp only [Act.put, hval, hval2, List.setIfInBounds_toArray, List.set_cons_zero, List.set_cons_succ]); go_simp)⟩, ?_⟩
        refine ⟨fun vs W hI hV => .inl ⟨by clear hI hV hst; go_simp, .inl (by have q1 := (hw3.trans hI).cell Z0.out; clear hI hV hst; (try simp only [Act.put, hval, hval2, List.setIfInBounds_toArray, List.set_cons_zero, List.set_cons_succ]); go_simp)⟩, ?_⟩
        refine ⟨fun vs W hI hV => .inl ⟨by clear hI hV hst; go_simp, .inr (.inr ⟨20, #[.int .i32 98], by clear hI hV hst; (try simp only [Act.put, hval, hval2, List.setIfInBounds_toArray, List.set_cons_zero, List.set_cons_succ]); go_simp, ?_⟩)⟩, ?_⟩
        · exact one45_any 98 W
        intro vs w4 hI hV
        have hs4 := hw3.trans hI
        obtain ⟨g', w5, hga, hFg, hnn, hrun, hown', hk5⟩ := own_store_cell (R4.out.sees hs4) (show 0 < [one45 97].length by decide) (one45 98)
        obtain rfl : g' = g2 := by injection hga with h1; injection h1 with h2; exact h2.symm
        have hrun : (Instr.storeAt 46 (.pointer (some ⟨g', 0, none⟩)) (.agg #[.int .i32 98, .int .i32 0, .int .i32 0, .int .i32 0, .int .i64 1, .int .i64 0, .int .u8 0, .int .u8 0, .int .u8 0, .int .u8 0, .int .i64 0, .int .u8 0, .int .u8 0, .int .u8 0, .int .u8 0, .int .u8 0])).run Tryd.prog w4 = .ok () w5 := hrun
        have HS4 := Lib.hid (HS.out.trans hs4)
        have Hs4 := Lib.hid hs4
        have Hown5 := Lib.hid hown'
        have Hk5 := Lib.hid hk5
        have HFg := Lib.hid hFg
        have Hrun := Lib.hid hrun
        clear hI hV hst hs4 hown' hk5 hga hFg hw3 hrun hnn
        (try simp only [Act.put, hval, hval2, List.setIfInBounds_toArray, List.set_cons_zero, List.set_cons_succ])
        refine wpFrom_to 8 hB (fun _ _ _ _ _ h => h) (by kernel_rfl) (by simp only [List.cons_append, List.nil_append, List.drop_succ_cons, List.drop_zero, List.take_succ_cons, List.take_zero, Nat.reduceSub]; rfl) ?_
        refine wpList_val (v := .pointer (some ⟨g', 0, none⟩)) (w' := w4) rfl (by go_simp) (fun K hK => hK _ _ ?_)
        clear hK K
        (try simp only [Act.put, hval, hval2, List.setIfInBounds_toArray, List.set_cons_zero, List.set_cons_succ])
        refine wpList_skip rfl (exec_store (x := .tmp 48) (y := .tmp 47) rfl (by go_simp) (by go_simp) Hrun.out) (fun K hK => hK _ _ ?_)
        clear hK K
        refine wpFrom_end rfl ?_
        go_wp2_with fail
        refine (one45_any 98 _).mono ?_
        rintro e w6 ⟨rfl, s6⟩
        have S6 := Lib.hid s6
        clear s6
        have hne5 : bb ≠ g' := fun e => (XB.out g' HFg.out).2 e.symm
        have hg5 : w5.heap[bb]? = some (.cells curb lnEl.ty (0, 0)) := by
          have h4 : w4.heap[bb]? = some (.cells curb lnEl.ty (0, 0)) := by rw [Hs4.out.block _ (Array.getElem?_eq_some_iff.1 Hgb.out).1]; exact Hgb.out
          rw [Hk5.out.block _ (Array.getElem?_eq_some_iff.1 h4).1 hne5]; exact h4
        have hk5 : Keeps (fun c => c = g') wr w5 := (Keeps.of_sees Hs4.out).trans Hk5.out
        have nB : lnEl.Own _ w5 (.slice (some ⟨bb, 0, none⟩) k k) (manyB k j) := BB.out (fun c => c = g') w5 curb FxB [.slice (some ⟨g', 0, none⟩) 1 qc, .bool false] rowB hg5 (turned_same VB.out) hk5 (fun c hc e => (QB.out c hc).2.2 (e ▸ HFg.out)) ⟨_, rfl, Hown5.out⟩ (fun c hc => ⟨(XB.out c hc).2, fun h => (QB.out c h).2.2 hc⟩)
        have nA : lnEl.Own _ w5 (.slice (some ⟨ga, 0, none⟩) k k) (manyA k) := HA.out.keeps hk5 (fun c hc e => by have e : c = g' := e; subst e; exact (HFA.out _ hc.1).2 (XB.out _ HFg.out).1.1)
        have hlow : w.heap.size ≤ g' := HFB.out _ (XB.out _ HFg.out).1.1
        have hS5 : Sees w w5 := ((Keeps.of_sees (F := fun _ => False) (HS.out.trans Hs4.out)).trans' Hk5.out (fun c hc e => by have e2 : c = g' := e; omega)).sees_end (fun _ _ h => h)
        have HS6 := Lib.hid (hS5.trans S6.out)
        have NA := Lib.hid (nA.rd.sees S6.out)
        have NB := Lib.hid (nB.rd.sees S6.out)
        clear hne5 hg5 hk5 nB nA hlow hS5
        have c4 : ∀ x ∈ manyA k, x.cells.length ≤ 1000000 := fun x h => by rw [manyA_mem h]; decide
        have c5 : ∀ x ∈ manyB k j, x.cells.length ≤ 1000000 := fun x h => by rcases manyB_mem h with e | e <;> rw [e] <;> decide
        have l4 := (many_len k j).1
        have l5 := (many_len k j).2
        have C4 := Lib.hid c4
        have C5 := Lib.hid c5
        have L4 := Lib.hid l4
        have L5 := Lib.hid l5
        clear c4 c5 l4 l5
        have HP := rd_row_patch (p := ⟨(j : Int), 0, [one45 98], false⟩) (heap_alloc_new (w6.alloc (.cells #[.int .i32 98, .int .i32 0, .int .i32 0, .int .i32 0, .int .i64 1, .int .i64 0, .int .u8 0, .int .u8 0, .int .u8 0, .int .u8 0, .int .i64 0, .int .u8 0, .int .u8 0, .int .u8 0, .int .u8 0, .int .u8 0] 46)) (.cells #[.int .i64 (j : Int), .int .i64 0, .slice (some ⟨w6.heap.size, 0, none⟩) 1 1, .bool false] 37)) ((rd_row_cells [one45 98] 1 (heap_alloc_new w6 (.cells #[.int .i32 98, .int .i32 0, .int .i32 0, .int .i32 0, .int .i64 1, .int .i64 0, .int .u8 0, .int .u8 0, .int .u8 0, .int .u8 0, .int .i64 0, .int .u8 0, .int .u8 0, .int .u8 0, .int .u8 0, .int .u8 0] 46)) (by decide) ⟨rfl, by unfold maxLen; omega⟩).sees ((Sees.refl _).alloc _))
        rw [show (w6.alloc (.cells #[.int .i32 98, .int .i32 0, .int .i32 0, .int .i32 0, .int .i64 1, .int .i64 0, .int .u8 0, .int .u8 0, .int .u8 0, .int .u8 0, .int .i64 0, .int .u8 0, .int .u8 0, .int .u8 0, .int .u8 0, .int .u8 0] 46)).heap.size = w6.heap.size + 1 by simp] at HP
        have HP := Lib.hid HP
        have KN := Lib.hid (fun W (hs : Sees w W) => known45 W (Ht.out.sees hs))
        have HPC : Hid (∀ p ∈ [(⟨(j : Int), 0, [one45 98], false⟩ : Pt)], p.cells.length ≤ 1000000) := fun p hp => by simp at hp; subst hp; simp
        have HPL : Hid (∀ p ∈ [(⟨(j : Int), 0, [one45 98], false⟩ : Pt)], -9223372036854775808 ≤ p.col ∧ p.col ≤ 9223372036854775807) := fun p hp => by simp at hp; subst hp; simp
        by_cases hbig : 1000 < k
        · have d3 : decide ((k : Int) > 1000) = true := decide_eq_true (by omega)
          have KA := fun (FA FB : Nat → Prop) W hs ha hb => ofs_any FA FB (fun _ => True) (.slice (some ⟨ga, 0, none⟩) k k) (.slice (some ⟨bb, 0, none⟩) k k) (.slice none 0 0) (manyA k) (manyB k j) W [] 2 (Ht.out.sees hs) ha hb (El.Rd.nil _ _) (by rw [L4.out]; omega) C4.out (by rw [L5.out]; omega) C5.out
          have KB := fun (FA : Nat → Prop) W hs ha hb => applies_any FA (fun _ => True) (fun _ => True) (.slice (some ⟨ga, 0, none⟩) k k) (.slice (some ⟨w6.heap.size + 1, 0, none⟩) 1 1) (.slice none 0 0) (manyA k) W [⟨(j : Int), 0, [one45 98], false⟩] [] 2 (Ht.out.sees hs) ha hb (El.Rd.nil _ _) (by rw [L4.out]; omega) C4.out (by simp) HPC.out HPL.out
          rw [ofR_much hbig, (chk_much hbig).1] at KA
          rw [apR_much j hbig] at KB
          simp only [decide_true, beq_self_eq_true, Bool.and_self] at KA KB
          have HKA := Lib.hid KA
          have HKB := Lib.hid KB
          clear KA KB hbig
          go_wp2_with fail
          refine (HKA.out _ _ _ ((HS6.out.alloc _).alloc _) (NA.out.sees (((Sees.refl w6).alloc _).alloc _)) (NB.out.sees (((Sees.refl w6).alloc _).alloc _))).mono ?_
          rintro e w7 ⟨rfl, t7⟩
          have T7 := Lib.hid ((((Sees.refl w6).alloc _).alloc _).trans t7)
          have HP7 := Lib.hid (HP.out.sees t7)
          clear t7
          go_wp2_with fail
          refine (HKB.out _ _ (HS6.out.trans T7.out) (NA.out.sees T7.out) HP7.out).mono ?_
          rintro e w8 ⟨rfl, t8⟩
          have T8 := Lib.hid ((HS6.out.trans T7.out).trans t8)
          clear t8
          go_wp2_with fail
          refine (KN.out _ T8.out).mono ?_
          rintro e w9 ⟨rfl, t9⟩
          go_wp2
          go_ret
          exact ⟨rfl, T8.out.trans t9⟩
        · have d3 : decide ((k : Int) > 1000) = false := decide_eq_false (by omega)
          have hk1 : k ≤ 1000 := by omega
          have KA := fun (FA FB : Nat → Prop) W hs ha hb hc => ofs_any FA FB (fun _ => True) (.slice (some ⟨ga, 0, none⟩) k k) (.slice (some ⟨bb, 0, none⟩) k k) (.slice (some ⟨w6.heap.size + 1, 0, none⟩) 1 1) (manyA k) (manyB k j) W [⟨(j : Int), 0, [one45 98], false⟩] 0 (Ht.out.sees hs) ha hb hc (by rw [L4.out]; omega) C4.out (by rw [L5.out]; omega) C5.out
          have KB := fun (FA FB : Nat → Prop) W hs ha hb hc => applies_any FA (fun _ => True) FB (.slice (some ⟨ga, 0, none⟩) k k) (.slice (some ⟨w6.heap.size + 1, 0, none⟩) 1 1) (.slice (some ⟨bb, 0, none⟩) k k) (manyA k) W [⟨(j : Int), 0, [one45 98], false⟩] (manyB k j) 0 (Ht.out.sees hs) ha hb hc (by rw [L4.out]; omega) C4.out (by simp) HPC.out HPL.out
          rw [ofR_many Hjk.out hk1, chk_many (by omega) hk1] at KA
          rw [apR_many Hjk.out hk1] at KB
          simp only [decide_true, beq_self_eq_true, Bool.and_self] at KA KB
          clear hk1
          have HKA := Lib.hid KA
          have HKB := Lib.hid KB
          clear KA KB hbig
          go_wp2_with fail
          refine (HKA.out _ _ _ ((HS6.out.alloc _).alloc _) (NA.out.sees (((Sees.refl w6).alloc _).alloc _)) (NB.out.sees (((Sees.refl w6).alloc _).alloc _)) HP.out).mono ?_
          rintro e w7 ⟨rfl, t7⟩
          have T7 := Lib.hid ((((Sees.refl w6).alloc _).alloc _).trans t7)
          have HP7 := Lib.hid (HP.out.sees t7)
          clear t7
          go_wp2_with fail
          refine (HKB.out _ _ _ (HS6.out.trans T7.out) (NA.out.sees T7.out) HP7.out (NB.out.sees T7.out)).mono ?_
          rintro e w8 ⟨rfl, t8⟩
          have T8 := Lib.hid ((HS6.out.trans T7.out).trans t8)
          clear t8
          go_wp2_with fail
          refine (KN.out _ T8.out).mono ?_
          rintro e w9 ⟨rfl, t9⟩
          go_wp2
          go_ret
          exact ⟨rfl, T8.out.trans t9⟩
end Go.Proofs.YtonlmlmjglaoiaaDoor
