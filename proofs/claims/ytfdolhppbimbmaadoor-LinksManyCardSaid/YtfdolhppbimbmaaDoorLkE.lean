/- links.Find, and the statements' test of it (43). No condition. -/
import Derived.Test.YtfdolhppbimbmaaDoorLkD
namespace Go.Proofs.YtfdolhppbimbmaaDoor
set_option linter.unusedVariables false
set_option linter.unusedSimpArgs false
open Go.RowKit Go.Shelf

/-- The addresses of a text, as strings. -/
def findS (l : List UInt8) : List ByteArray := (findL l).map strL
theorem findS_len (l : List UInt8) : (findS l).length = (spotsL l).length := by unfold findS findL; rw [List.length_map, List.length_map]
theorem sp_cell {F : Nat → Prop} {w : World} {a : Option Addr} {n c : Nat} {xs : List (Nat × Nat)} (h : spEl.Rd F w (.slice a n c) xs) {k : Nat} (hk : k < n) : ∃ b o x, a = some ⟨b, o, none⟩ ∧ xs[k]? = some x ∧ w.cell? ⟨b, o + k * 2, none⟩ = some (.int .i64 x.1) ∧ w.cell? ⟨b, o + k * 2 + 1, none⟩ = some (.int .i64 x.2) := by
  obtain ⟨b, o, x, vs, rfl, _, hx, hvs, hc⟩ := h.at_ hk
  have hvs : vs = [.int .i64 x.1, .int .i64 x.2] := hvs
  subst hvs
  exact ⟨b, o, x, rfl, hx, hc 0 _ rfl, hc 1 _ rfl⟩
theorem ext_cut (s : ByteArray) (m : Nat × Nat) : s.extract m.1 m.2 = strL (cutL s.data.toList m) := ext_strL s m.1 m.2
set_option maxHeartbeats 8000000 in
set_option maxRecDepth 100000 in
theorem find_any (s : ByteArray) (hs : s.size ≤ 10000000) (w : World) : Calls Tryd.prog 36 #[.string s] w fun e w' => ∃ v, e = .returned v ∧ sEl.Own (fun b => w.heap.size ≤ b) w' v (findS s.data.toList) ∧ Sees w w' := by
  have KSp := Lib.hid (spots_any s (by omega) w)
  obtain ⟨l, hl⟩ : ∃ l, l = s.data.toList := ⟨_, rfl⟩
  have hls : l.length = s.size := by rw [hl, Lib.size_eq]
  obtain ⟨n, hn⟩ : ∃ n, n = s.size := ⟨_, rfl⟩
  rw [← hl] at KSp ⊢
  have HL := Lib.hid hl
  have HLS : Hid (l.length = n) := by rw [hn]; exact hls
  have hsn : s.size = n := hn.symm
  have hn2 : n ≤ 10000000 := by omega
  clear hl hls hn hs
  go_enter Tryd.func36, Tryd.ntmps36
  go_wp2_with fail
  refine KSp.out.mono ?_
  rintro e W1 ⟨v, rfl, ho, hs1⟩
  obtain ⟨av, cv, rfl, _⟩ := ho.slice
  obtain ⟨m, hm⟩ : ∃ m, m = (spotsL l).length := ⟨_, rfl⟩
  rw [← hm] at ho ⊢
  have HO := Lib.hid ho.rd
  have HM : Hid ((findS l).length = m) := by rw [hm]; exact findS_len l
  have HML : Hid (m ≤ 10000000) := by have := spots_len l false 0 0; have := HLS.out; rw [show spotsR false 0 0 l = spotsL l from rfl, ← hm] at *; unfold RowKit.Hid; omega
  have hm2 := HML.out
  have HS1 := Lib.hid hs1
  clear ho hm hs1 KSp
  go_wp2_with fail
  go_loopw [3, 9] (fun u i W => ∃ k : Nat, k ≤ m ∧ i = .int .i64 k ∧ sEl.Own (fun b => W1.heap.size ≤ b) W u ((findS l).take k) ∧ Sees W1 W) (fun _ i _ => m - (intOf i).toNat)
  case atStart => exact ⟨0, Nat.zero_le _, rfl, El.Own.nil _ _, Sees.refl _⟩
  case round =>
    obtain ⟨k, hk, rfl, hR, hS⟩ := hrel
    have HR := Lib.hid hR
    have HS := Lib.hid hS
    clear hR hS
    by_cases hlt : k < m
    · obtain ⟨b1, o1, x, rfl, hx, y0, y1⟩ := sp_cell (HO.out.sees HS.out) hlt
      obtain ⟨p, q⟩ := x
      have hin := spots_in l false 0 0 (p, q) (List.mem_iff_getElem?.2 ⟨k, hx⟩)
      simp only [] at y0 y1 hin
      have hpq : p ≤ q := by omega
      have hqn : q ≤ n := by have := HLS.out; omega
      have hpq2 : (p : Int) ≤ (q : Int) := by omega
      obtain ⟨Y, hY⟩ : ∃ Y, Y = strL (cutL l (p, q)) := ⟨_, rfl⟩
      have hYe : s.extract p q = Y := by rw [hY, HL.out]; exact ext_cut s (p, q)
      have HTK : Hid ((findS l).take (k + 1) = (findS l).take k ++ [Y]) := by
        unfold RowKit.Hid
        rw [List.take_add_one]
        congr 1
        unfold findS findL
        rw [List.getElem?_map, List.getElem?_map, hx, hY]
        rfl
      have HLL : Hid (((findS l).take k).length + [Y].length ≤ 100000000) := by
        have h1 := HM.out
        have h2 := HML.out
        unfold RowKit.Hid
        rw [List.length_take, List.length_singleton]
        omega
      clear hx hin hY
      go_upto_region 5 with fail
      refine wp_world fun W3 hW3 => ?_
      have c0 : W3.cell? ⟨wr.heap.size, 0, none⟩ = some (.int .i64 p) := by subst hW3; rw [cell_of_row _ _ _ _ _ _ (heap_alloc_new wr _)]; rfl
      have c1 : W3.cell? ⟨wr.heap.size, 1, none⟩ = some (.int .i64 q) := by subst hW3; rw [cell_of_row _ _ _ _ _ _ (heap_alloc_new wr _)]; rfl
      have s3 : Sees wr W3 := by subst hW3; exact (Sees.refl wr).alloc _
      have sB : Sees W3 (W3.alloc (.cells #[.string Y] 9)) := (Sees.refl _).alloc _
      have HS3 := Lib.hid ((HS.out.trans s3).trans sB)
      have HR3 := Lib.hid ((HR.out.sees s3).sees sB).cut
      have HRW := Lib.hid (heap_alloc_new W3 (.cells #[.string Y] 9))
      have HWB := Lib.hid ((HS.out.trans s3).trans sB).size
      clear hW3 s3 sB y0 y1 HR
      go_wp2_with (at_builtin; refine El.wpList_append_own (v := u3) typedS rfl (.tmp 13) (.tmp 20) rfl (by go_simp) HR3.out ⟨W3.heap.size, 0, none⟩ 1 1 (by go_simp) [.string Y] [Y] (fun _ => False) (El.ownIn_one (E := sEl) rfl) rfl (fun j u hu => El.row_cells HRW.out j u hu) (fun b hb => hb.2) (fun b hb => hb.elim) HLL.out ?_; intro v7 w7 ho7 hk7; have HO7 := Lib.hid ho7; have HK7 := Lib.hid hk7; clear ho7 hk7)
      refine ⟨⟨k + 1, by omega, by go_num, ?_, El.keep_new HS3.out HK7.out (fun g hg => (HR3.out.base hg).1.1)⟩, by simp [intOf]; omega⟩
      rw [HTK.out]
      refine HO7.out.mono fun b _ hb => ?_
      have := HWB.out
      rcases hb with hb | hb | hb
      · exact hb.1
      · exact hb.elim
      · omega
    · obtain rfl : k = m := by omega
      have hfin := HR.out
      rw [List.take_of_length_le (by rw [HM.out]; exact Nat.le_refl _)] at hfin
      have HF := Lib.hid hfin
      clear hfin HR
      go_wp2
      go_ret
      exact ⟨u3, rfl, HF.out.mono (fun b _ hb => Nat.le_trans HS1.out.size hb), HS1.out.trans HS.out⟩
set_option maxHeartbeats 4000000 in
theorem finds_true (s : ByteArray) (hs : s.size ≤ 10000000) (u : Value) (F : Nat → Prop) (w : World) (hu : sEl.Rd F w u (findS s.data.toList)) : Calls Tryd.prog 25 #[.string s, u] w fun e w' => e = .returned (.bool true) ∧ Sees w w' := by
  have H := Lib.hid (find_any s hs w)
  obtain ⟨xs, hxs⟩ : ∃ xs, xs = findS s.data.toList := ⟨_, rfl⟩
  rw [← hxs] at hu H
  obtain ⟨ao, c, rfl, _⟩ := hu.slice'
  obtain ⟨n, hnn⟩ : ∃ n, n = xs.length := ⟨_, rfl⟩
  have hn : n ≤ 10000000 := by
    have h1 := spots_len s.data.toList false 0 0
    rw [hnn, hxs, findS_len]
    rw [show spotsR false 0 0 s.data.toList = spotsL s.data.toList from rfl, ← Lib.size_eq] at h1
    omega
  rw [← hnn] at hu ⊢
  have HU := Lib.hid hu
  have HN := Lib.hid hnn
  clear hu hnn hxs
  go_enter Tryd.func25, Tryd.ntmps25
  go_wp2_with fail
  refine H.out.mono ?_
  rintro e W2 ⟨v2, rfl, hr, hs2⟩
  obtain ⟨a2, c2, rfl, _⟩ := hr.slice
  rw [← HN.out] at hr ⊢
  have HR := Lib.hid hr.rd
  have HS := Lib.hid hs2
  clear hs2 H hr
  go_wp2_with fail
  go_loopw [6] (fun i W => ∃ k : Nat, k ≤ n ∧ i = .int .i64 k ∧ Sees W2 W) (fun i _ => n - (intOf i).toNat)
  case atStart => exact ⟨0, Nat.zero_le _, rfl, Sees.refl _⟩
  case round =>
    obtain ⟨k, hk, rfl, hS⟩ := hrel
    have HS3 := Lib.hid hS
    clear hS
    by_cases hlt : k < n
    · obtain ⟨b1, o1, x, rfl, hx1, y0⟩ := str_cell (HR.out.sees HS3.out) hlt
      obtain ⟨b2, o2, x2, rfl, hx2, z0⟩ := str_cell (HU.out.sees (HS.out.trans HS3.out)) hlt
      obtain rfl : x = x2 := Option.some.inj (hx1.symm.trans hx2)
      clear hx1 hx2
      go_upto_region 7 with fail
      have q0 := fun d os => (sees_grow wr d os).cell y0
      have q1 := fun d os => (sees_grow wr d os).cell z0
      refine wp_region_quiet_below (by kernel_rfl) (by kernel_rfl) ?_
      repeat (first | go_big_quiet_skip | (go_big_quiet_want; go_big_quiet_op; go_big_quiet_on))
      refine wpQuiet_nil ?_; intro w2 hw2'; have hw2 := regrown_sees hw2'; clear hw2'
      have HS4 := Lib.hid (HS3.out.trans hw2)
      clear hw2 q0 q1 y0 z0
      go_wp2
      exact ⟨⟨k + 1, by omega, by go_num, HS4.out⟩, by simp [intOf]; omega⟩
    · obtain rfl : n = k := by omega
      go_wp2
      go_ret
      exact ⟨rfl, HS.out.trans HS3.out⟩
end Go.Proofs.YtfdolhppbimbmaaDoor
