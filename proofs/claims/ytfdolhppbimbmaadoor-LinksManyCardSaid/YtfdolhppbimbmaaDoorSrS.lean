/- Small functions of the statements about matches (42): places, matches, rows of letters. The tables hold what the program's text lays. alls, nexts, prevs (42). The tables hold what the program's text lays. The known examples (42): what they come to. No condition. -/
import Derived.Test.YtfdolhppbimbmaaDoorSrN
namespace Go.Proofs.YtfdolhppbimbmaaDoor
set_option linter.unusedVariables false
set_option linter.unusedSimpArgs false
open Go.RowKit Go.Shelf
attribute [local go_sem] Oper.semAt_some

theorem results_one {P : Program} {fn : Func} {tmps : Array Value} {W : World} {i p : Nat} {T : TypeId} {x : Value} (hr : fn.results = #[.cell i T]) (hi : tmps[i]?.getD undef = .pointer (some ⟨p, 0, none⟩)) (hl : (loadVar T ⟨p, 0, none⟩).run P W = .ok x W) :
    (results fn tmps).run P W = .ok x W := by
  unfold results
  rw [hr]
  simp [hi, asAddr, hl]
theorem pl_isAgg : ∀ W, (isAgg 31).run Tryd.prog W = .ok true W := fun _ => by kernel_rfl
theorem pl_sizeOf : ∀ W, (sizeOf 31).run Tryd.prog W = .ok 2 W := fun _ => by kernel_rfl
theorem run_loadPl {W : World} {b : Nat} {l c : Int} (h : PlAt W b l c) : (loadVar 31 ⟨b, 0, none⟩).run Tryd.prog W = .ok (.agg #[.int .i64 l, .int .i64 c]) W :=
  run_load_agg 31 b 0 [.int .i64 l, .int .i64 c] pl_isAgg pl_sizeOf fun j x hx => by
    rw [Nat.zero_add, Go.cell_of_row W b _ _ _ _ h]
    simpa using hx
set_option maxHeartbeats 1000000 in
theorem at_any (l c : Int) (w : World) : Calls Tryd.prog 73 #[.int .i64 l, .int .i64 c] w fun e w' => e = .returned (.agg #[.int .i64 l, .int .i64 c]) ∧ Sees w w' := by
  have h : PlAt (w.alloc (.cells #[.int .i64 l, .int .i64 c] 31)) w.heap.size l c := heap_alloc_new w _
  have H := Lib.hid h
  clear h
  go_enter Tryd.func73, Tryd.ntmps73
  go_wp2
  exact bodyPost_ret (results_one rfl rfl (run_loadPl H.out)) rfl ⟨rfl, (Sees.refl w).alloc _⟩
theorem loadVar_mt {W : World} {b : Nat} {m : Mt} (h : MtAt W b m) : (loadVar 33 ⟨b, 0, none⟩).run Tryd.prog W = .ok m.val W := run_loadMt h
set_option maxHeartbeats 400000 in
theorem match_any (a b c d : Int) (w : World) : Calls Tryd.prog 71 #[.int .i64 a, .int .i64 b, .int .i64 c, .int .i64 d] w fun e w' => e = .returned (Mt.val ⟨a, b, c, d⟩) ∧ Sees w w' := by
  have KA := Lib.hid (fun l c W => at_any l c W)
  have h : MtAt (w.alloc (.cells #[.int .i64 0, .int .i64 0, .int .i64 0, .int .i64 0] 33)) w.heap.size zeroMt := heap_alloc_new w _
  have H := Lib.hid h
  clear h
  go_enter Tryd.func71, Tryd.ntmps71
  go_wp2_with fail
  refine (KA.out _ _ _).mono ?_
  rintro e W1 ⟨rfl, s1⟩
  go_wp2_with fail
  refine (KA.out _ _ _).mono ?_
  rintro e W2 ⟨rfl, s2⟩
  have H2 := Lib.hid ((H.out.sees s1).sees s2)
  have S2 := Lib.hid ((((Sees.refl w).alloc (.cells #[.int .i64 0, .int .i64 0, .int .i64 0, .int .i64 0] 33)).trans s1).trans s2)
  obtain ⟨m0, m1, m2, m3⟩ := H2.out.c
  have m4 := H2.out.fr
  clear s1 s2 H
  go_wp2
  change bodyPost _ _ _ _ _ (put4 W2 w.heap.size ⟨a, b, c, d⟩)
  have h1 := put4_at H2.out ⟨a, b, c, d⟩
  have h2 := sees_put4 S2.out (Nat.le_refl _) ⟨a, b, c, d⟩
  generalize put4 W2 w.heap.size ⟨a, b, c, d⟩ = W3 at *
  exact bodyPost_ret (results_one rfl rfl (loadVar_mt h1)) rfl ⟨rfl, h2⟩
set_option maxHeartbeats 1000000 in
theorem after_any (l c l' c' : Int) (w : World) :
    Calls Tryd.prog 18 #[.agg #[.int .i64 l, .int .i64 c], .agg #[.int .i64 l', .int .i64 c']] w fun e w' => e = .returned (.bool (befB l' c' l c)) ∧ Sees w w' := by
  have hs : Sees w ((w.alloc (.cells #[.int .i64 l, .int .i64 c] 31)).alloc (.cells #[.int .i64 l', .int .i64 c'] 31)) := ((Sees.refl w).alloc _).alloc _
  have HS := Lib.hid hs
  clear hs
  go_enter Tryd.func18, Tryd.ntmps18
  rcases Bool.eq_false_or_eq_true (decide (l > l')) with h1 | h1
  · go_wp2
    go_ret
    exact ⟨ret_bool (by unfold befB; rw [show decide (l' < l) = true from h1]; rfl), HS.out⟩
  rcases Bool.eq_false_or_eq_true (l == l') with h2 | h2
  · have h2' : (l' == l) = true := by rw [beq_iff_eq] at h2 ⊢; exact h2.symm
    rcases Bool.eq_false_or_eq_true (decide (c > c')) with h3 | h3
    all_goals
      go_wp2
      go_ret
      exact ⟨ret_bool (by unfold befB; rw [show decide (l' < l) = _ from h1, h2', show decide (c' < c) = _ from h3]; rfl), HS.out⟩
  · have h2' : (l' == l) = false := by rw [beq_eq_false_iff_ne] at h2 ⊢; exact fun e => h2 e.symm
    go_wp2
    go_ret
    exact ⟨ret_bool (by unfold befB; rw [show decide (l' < l) = _ from h1, h2']; rfl), HS.out⟩
/-- A cell of a letter. -/
def chC (b : UInt8) : Cell := ⟨b.toNat, 0, 0, 0, 1, 0, 0, 0, 0, 0, 0, 0, 0, 0, 0, 0⟩
def chL (s : ByteArray) : List Cell := s.data.toList.map chC
theorem chL_len (s : ByteArray) : (chL s).length = s.size := by unfold chL; rw [List.length_map, ← Lib.size_eq]
set_option maxHeartbeats 4000000 in
theorem chRow_any (s : ByteArray) (hs : s.size ≤ 100000) (w : World) :
    Calls Tryd.prog 70 #[.string s] w fun e w' => ∃ v, e = .returned v ∧ cellEl.Own (fun b => w.heap.size ≤ b) w' v (chL s) ∧ Sees w w' := by
  go_enter Tryd.func70, Tryd.ntmps70
  go_wp2
  go_loopw [3, 4] (fun v i wr => ∃ k : Nat, k ≤ s.size ∧ i = .int .i64 k ∧ cellEl.Own (fun b => w.heap.size ≤ b) wr v ((chL s).take k) ∧ Sees w wr) (fun v i _ => s.size - (intOf i).toNat)
  case atStart => exact ⟨0, by omega, rfl, El.Own.nil _ _, Sees.refl _⟩
  case round =>
    obtain ⟨k, hk, rfl, ho, hS⟩ := hrel
    by_cases hlt : k < s.size
    · have k1 : (k : Int) < s.size := by omega
      obtain ⟨a3, c3, rfl, _⟩ := ho.slice
      rw [List.length_take, chL_len, Nat.min_eq_left hk] at ho ⊢
      have hcb : (s.data.toList)[k]? = some s[k] := by
        rw [List.getElem?_eq_getElem (by rw [← Lib.size_eq]; exact hlt)]
        rfl
      have hch : (chL s)[k]? = some (chC s[k]) := by unfold chL; rw [List.getElem?_map, hcb]; rfl
      have h32 : wrap32 (s[k].toNat : Int) = s[k].toNat := by have := s[k].toNat_lt; unfold wrap32; omega
      have htk : (chL s).take (k + 1) = (chL s).take k ++ [chC s[k]] := by rw [List.take_add_one, hch]; rfl
      have HTK := Lib.hid htk
      have hll : ((chL s).take k).length = k := by rw [List.length_take, chL_len]; omega
      have HL2 := Lib.hid (show ((chL s).take k).length + [chC s[k]].length ≤ 100000000 by rw [hll]; simp; omega)
      obtain ⟨cv, hcv⟩ : ∃ cv, cv = #[Value.int .i32 (s[k].toNat : Int), .int .i32 0, .int .i32 0, .int .i32 0, .int .i64 1, .int .i64 0, .int .u8 0, .int .u8 0, .int .u8 0, .int .u8 0, .int .i64 0, .int .u8 0, .int .u8 0, .int .u8 0, .int .u8 0, .int .u8 0] := ⟨_, rfl⟩
      have hrow := heap_alloc_new wr (.cells #[Value.int .i32 (s[k].toNat : Int), .int .i32 0, .int .i32 0, .int .i32 0, .int .i64 1, .int .i64 0, .int .u8 0, .int .u8 0, .int .u8 0, .int .u8 0, .int .i64 0, .int .u8 0, .int .u8 0, .int .u8 0, .int .u8 0, .int .u8 0] 46)
      have sA : Sees wr (wr.alloc (.cells #[Value.int .i32 (s[k].toNat : Int), .int .i32 0, .int .i32 0, .int .i32 0, .int .i64 1, .int .i64 0, .int .u8 0, .int .u8 0, .int .u8 0, .int .u8 0, .int .i64 0, .int .u8 0, .int .u8 0, .int .u8 0, .int .u8 0, .int .u8 0] 46)) := (Sees.refl wr).alloc _
      have HO := Lib.hid (ho.cut.sees sA)
      have Hrow := Lib.hid hrow
      have HF := Lib.hid (show ∀ b, (w.heap.size ≤ b ∧ b < wr.heap.size) → b < (wr.alloc (.cells #[Value.int .i32 (s[k].toNat : Int), .int .i32 0, .int .i32 0, .int .i32 0, .int .i64 1, .int .i64 0, .int .u8 0, .int .u8 0, .int .u8 0, .int .u8 0, .int .i64 0, .int .u8 0, .int .u8 0, .int .u8 0, .int .u8 0, .int .u8 0] 46)).heap.size from fun b hb => by rw [World.size_alloc]; omega)
      have HS := Lib.hid (hS.trans sA)
      have HLL := Lib.hid hll
      have HH := Lib.hid hS.size
      clear hrow sA hll htk hch hcb ho hS hcv cv
      go_wp2_with (at_builtin; refine El.wpList_append_own (v := .slice a3 k c3) typedCell rfl (.tmp 11) (.tmp 17) rfl (by go_simp) HO.out ⟨wr.heap.size, 0, none⟩ 1 1 (by go_simp) (chC s[k]).vals [chC s[k]] (fun _ => False) (El.ownIn_one (E := cellEl) rfl) rfl (fun j u hu => El.row_cells Hrow.out j u hu) HF.out (fun b hb => hb.elim) HL2.out ?_; intro v7 w7 ho7 hk7; obtain ⟨a7, c7, rfl, _⟩ := ho7.slice; obtain ⟨j7, hj7⟩ : ∃ j7, j7 = ((chL s).take k ++ [chC s[k]]).length := ⟨_, rfl⟩; rw [← hj7] at ho7 ⊢; have HJ7 := Lib.hid hj7; have HO7 := Lib.hid ho7; have HK7 := Lib.hid hk7; clear hj7 ho7 hk7)
      refine ⟨⟨k + 1, by omega, by go_num, ?_, El.keep_new HS.out HK7.out (fun g hg => (HO.out.base hg).1.1)⟩, by simp [intOf]; omega⟩
      rw [HTK.out]
      refine HO7.out.mono fun b _ hb => ?_
      rcases hb with hb | hb | hb
      · exact hb.1
      · exact hb.elim
      · rw [World.size_alloc] at hb; have := HH.out; omega
    · obtain rfl : k = s.size := by omega
      go_wp2
      go_ret
      refine ⟨_, rfl, ?_, hS⟩
      rw [List.take_of_length_le (by rw [chL_len]; exact Nat.le_refl _)] at ho
      exact ho
end Go.Proofs.YtfdolhppbimbmaaDoor

namespace Go.Proofs.YtfdolhppbimbmaaDoor
set_option linter.unusedVariables false
set_option linter.unusedSimpArgs false
open Go.RowKit Go.Shelf
attribute [local go_sem] Oper.semAt_some

theorem rd_up {w W : World} {v : Value} {ls : List Ln} (h : lnEl.Rd (fun b => b < w.heap.size) w v ls) (hs : Sees w W) : lnEl.Rd (fun b => b < W.heap.size) W v ls := (h.sees hs).mono (fun b _ hb => Nat.lt_of_lt_of_le hb hs.size)
/-- What Next and Prev answer. -/
def nxt (ls : List Ln) (first : Int) (p : ByteArray) (fold : Bool) (l c : Int) : Mt × Int := if foR ls first p l c = 0 then (nextR (allM ls first p.data.toList fold) l c, noneE (allM ls first p.data.toList fold)) else (zeroMt, foR ls first p l c)
def prv (ls : List Ln) (first : Int) (p : ByteArray) (fold : Bool) (l c : Int) : Mt × Int := if foR ls first p l c = 0 then (prevR (allM ls first p.data.toList fold) l c, noneE (allM ls first p.data.toList fold)) else (zeroMt, foR ls first p l c)
theorem mt_at {F : Nat → Prop} {W : World} {ao : Option Addr} {n c k : Nat} {xs : List Mt} (h : mtEl.Rd F W (.slice ao n c) xs) (hk : k < n) : ∃ b o x, ao = some ⟨b, o, none⟩ ∧ xs[k]? = some x ∧ W.cell? ⟨b, o + k * 4, none⟩ = some (.int .i64 x.l0) ∧ W.cell? ⟨b, o + k * 4 + 1, none⟩ = some (.int .i64 x.c0) ∧ W.cell? ⟨b, o + k * 4 + 2, none⟩ = some (.int .i64 x.l1) ∧ W.cell? ⟨b, o + k * 4 + 3, none⟩ = some (.int .i64 x.c1) := by
  obtain ⟨b, o, x, vs, rfl, _, hx, hvs, hc⟩ := h.at_ hk
  have hvs : vs = [.int .i64 x.l0, .int .i64 x.c0, .int .i64 x.l1, .int .i64 x.c1] := hvs
  subst hvs
  exact ⟨b, o, x, rfl, hx, hc 0 _ rfl, hc 1 _ rfl, hc 2 _ rfl, hc 3 _ rfl⟩
section
variable {w : World} {a : Option Addr} {n cp : Nat} {ls : List Ln} {first : Int} {p : ByteArray}
set_option maxHeartbeats 2000000 in
theorem next_any (hst : Std w) (ht : Tabs w) (ha : lnEl.Rd (fun b => b < w.heap.size) w (.slice a n cp) ls) (hn : ls.length ≤ 1000000) (hc : ∀ x ∈ ls, x.cells.length ≤ 1000000) (hp : p.size ≤ 1000000000) (fold : Bool) (l c : Int) :
    Calls Tryd.prog 77 #[.slice a n cp, .int .i64 first, .string p, .bool fold, .agg #[.int .i64 l, .int .i64 c]] w fun e w' => e = .returned (.tuple #[(nxt ls first p fold l c).1.val, .int .i64 (nxt ls first p fold l c).2]) ∧ Sees w w' := by
  by_cases h : foR ls first p l c = 0
  · have e : nxt ls first p fold l c = (nextR (allM ls first p.data.toList fold) l c, noneE (allM ls first p.data.toList fold)) := if_pos h
    rw [e]
    exact next_ok hst ht ha fold l c h
  · have e : nxt ls first p fold l c = (zeroMt, foR ls first p l c) := if_neg h
    rw [e]
    exact next_err ht ha hn hc hp fold l c _ rfl h
set_option maxHeartbeats 4000000 in
theorem nexts_any (hst : Std w) (ht : Tabs w) (ha : lnEl.Rd (fun b => b < w.heap.size) w (.slice a n cp) ls) (hn : ls.length ≤ 1000000) (hc : ∀ x ∈ ls, x.cells.length ≤ 1000000) (hp : p.size ≤ 1000000000) (fold : Bool) (l c : Int) (m : Mt) (k : Int) (hm : nxt ls first p fold l c = (m, k)) :
    Calls Tryd.prog 19 #[.slice a n cp, .int .i64 first, .string p, .bool fold, .agg #[.int .i64 l, .int .i64 c], .agg #[.int .i64 m.l0, .int .i64 m.c0, .int .i64 m.l1, .int .i64 m.c1], .int .i64 k] w fun e w' => e = .returned (.bool true) ∧ Sees w w' := by
  have K := Lib.hid (fun W (hs : Sees w W) => by have q := next_any (first := first) (p := p) (hst.sees hs) (ht.sees hs) (rd_up ha hs) hn hc hp fold l c; rw [hm] at q; exact q)
  clear hst ht ha hm
  go_enter Tryd.func19, Tryd.ntmps19
  go_wp2_with fail
  refine calls_world fun W1 hW1 => ?_
  have s1 : Sees w W1 := by subst hW1; exact ((Sees.refl w).alloc _).alloc _
  have h1 : MtAt W1 (w.heap.size + 1) m := by
    subst hW1
    have q := heap_alloc_new (w.alloc (.cells #[.int .i64 l, .int .i64 c] 31)) (.cells #[.int .i64 m.l0, .int .i64 m.c0, .int .i64 m.l1, .int .i64 m.c1] 33)
    rw [World.size_alloc] at q
    exact q
  clear hW1
  refine (K.out W1 s1).mono ?_
  rintro e W2 ⟨rfl, s2⟩
  have hmv : Mt.val m = .agg #[.int .i64 m.l0, .int .i64 m.c0, .int .i64 m.l1, .int .i64 m.c1] := rfl
  show (_ : Prop)
  dsimp only
  rw [hmv]
  clear hmv
  go_upto_region 2 with fail
  refine wp_world fun W3 hW3 => ?_
  have r3 : MtAt W3 W2.heap.size m ∧ MtAt W3 (w.heap.size + 1) m ∧ Sees w W3 := by subst hW3; exact ⟨heap_alloc_new W2 _, (h1.sees s2).sees ((Sees.refl _).alloc _), (s1.trans s2).alloc _⟩
  obtain ⟨m0, m1, m2, m3⟩ := r3.1.c
  obtain ⟨n0, n1, n2, n3⟩ := r3.2.1.c
  have S2 := Lib.hid r3.2.2
  clear s1 s2 h1 K hW3 r3
  go_wp2
  go_ret
  exact ⟨rfl, S2.out⟩
set_option maxHeartbeats 2000000 in
theorem prev_any (hst : Std w) (ht : Tabs w) (ha : lnEl.Rd (fun b => b < w.heap.size) w (.slice a n cp) ls) (hn : ls.length ≤ 1000000) (hc : ∀ x ∈ ls, x.cells.length ≤ 1000000) (hp : p.size ≤ 1000000000) (fold : Bool) (l c : Int) :
    Calls Tryd.prog 112 #[.slice a n cp, .int .i64 first, .string p, .bool fold, .agg #[.int .i64 l, .int .i64 c]] w fun e w' => e = .returned (.tuple #[(prv ls first p fold l c).1.val, .int .i64 (prv ls first p fold l c).2]) ∧ Sees w w' := by
  by_cases h : foR ls first p l c = 0
  · have e : prv ls first p fold l c = (prevR (allM ls first p.data.toList fold) l c, noneE (allM ls first p.data.toList fold)) := if_pos h
    rw [e]
    exact prev_ok hst ht ha fold l c h
  · have e : prv ls first p fold l c = (zeroMt, foR ls first p l c) := if_neg h
    rw [e]
    exact prev_err ht ha hn hc hp fold l c _ rfl h
set_option maxHeartbeats 4000000 in
theorem prevs_any (hst : Std w) (ht : Tabs w) (ha : lnEl.Rd (fun b => b < w.heap.size) w (.slice a n cp) ls) (hn : ls.length ≤ 1000000) (hc : ∀ x ∈ ls, x.cells.length ≤ 1000000) (hp : p.size ≤ 1000000000) (fold : Bool) (l c : Int) (m : Mt) (k : Int) (hm : prv ls first p fold l c = (m, k)) :
    Calls Tryd.prog 74 #[.slice a n cp, .int .i64 first, .string p, .bool fold, .agg #[.int .i64 l, .int .i64 c], .agg #[.int .i64 m.l0, .int .i64 m.c0, .int .i64 m.l1, .int .i64 m.c1], .int .i64 k] w fun e w' => e = .returned (.bool true) ∧ Sees w w' := by
  have K := Lib.hid (fun W (hs : Sees w W) => by have q := prev_any (first := first) (p := p) (hst.sees hs) (ht.sees hs) (rd_up ha hs) hn hc hp fold l c; rw [hm] at q; exact q)
  clear hst ht ha hm
  go_enter Tryd.func74, Tryd.ntmps74
  go_wp2_with fail
  refine calls_world fun W1 hW1 => ?_
  have s1 : Sees w W1 := by subst hW1; exact ((Sees.refl w).alloc _).alloc _
  have h1 : MtAt W1 (w.heap.size + 1) m := by
    subst hW1
    have q := heap_alloc_new (w.alloc (.cells #[.int .i64 l, .int .i64 c] 31)) (.cells #[.int .i64 m.l0, .int .i64 m.c0, .int .i64 m.l1, .int .i64 m.c1] 33)
    rw [World.size_alloc] at q
    exact q
  clear hW1
  refine (K.out W1 s1).mono ?_
  rintro e W2 ⟨rfl, s2⟩
  have hmv : Mt.val m = .agg #[.int .i64 m.l0, .int .i64 m.c0, .int .i64 m.l1, .int .i64 m.c1] := rfl
  show (_ : Prop)
  dsimp only
  rw [hmv]
  clear hmv
  go_upto_region 2 with fail
  refine wp_world fun W3 hW3 => ?_
  have r3 : MtAt W3 W2.heap.size m ∧ MtAt W3 (w.heap.size + 1) m ∧ Sees w W3 := by subst hW3; exact ⟨heap_alloc_new W2 _, (h1.sees s2).sees ((Sees.refl _).alloc _), (s1.trans s2).alloc _⟩
  obtain ⟨m0, m1, m2, m3⟩ := r3.1.c
  obtain ⟨n0, n1, n2, n3⟩ := r3.2.1.c
  have S2 := Lib.hid r3.2.2
  clear s1 s2 h1 K hW3 r3
  go_wp2
  go_ret
  exact ⟨rfl, S2.out⟩
set_option maxHeartbeats 4000000 in
theorem alls_no (ht : Tabs w) (ha : lnEl.Rd (fun b => b < w.heap.size) w (.slice a n cp) ls) (hn : ls.length ≤ 1000000) (hc : ∀ x ∈ ls, x.cells.length ≤ 1000000) (hp : p.size ≤ 1000000000) (fold : Bool) (h : ckR ls first p = 2) :
    Calls Tryd.prog 72 #[.slice a n cp, .int .i64 first, .string p, .bool fold, .slice none 0 0, .int .i64 2] w fun e w' => e = .returned (.bool true) ∧ Sees w w' := by
  have KA := Lib.hid (fun W (hs : Sees w W) => all_err (first := first) (p := p) (ht.sees hs) (rd_up ha hs) hn hc hp fold h)
  have KC := Lib.hid (fun W (hs : Sees w W) => count_err (first := first) (p := p) (ht.sees hs) (rd_up ha hs) hn hc hp fold h)
  clear ht ha h
  have s0 := Sees.refl w
  go_enter Tryd.func72, Tryd.ntmps72
  go_wp2_with fail
  refine (KA.out _ s0).mono ?_
  rintro e W1 ⟨rfl, s1⟩
  go_wp2_with fail
  refine (KC.out _ s1).mono ?_
  rintro e W2 ⟨rfl, s2⟩
  have S2 := Lib.hid (s1.trans s2)
  clear s1 s2
  go_wp2
  go_loopw [17] (fun i wr => i = .int .i64 0 ∧ wr = W2) (fun _ _ => 0)
  case atStart => exact ⟨rfl, rfl⟩
  case round =>
    obtain ⟨rfl, rfl⟩ := hrel
    go_wp2
    go_ret
    exact ⟨rfl, S2.out⟩
set_option maxHeartbeats 4000000 in
set_option maxRecDepth 100000 in
theorem alls_ok (hst : Std w) (ht : Tabs w) (ha : lnEl.Rd (fun b => b < w.heap.size) w (.slice a n cp) ls) (fold : Bool) (h : ckR ls first p = 0) {v : Value} {ms : List Mt} (hv : mtEl.Rd (fun b => b < w.heap.size) w v ms) (hms : ms = allM ls first p.data.toList fold) (hl : ms.length ≤ 10000) :
    Calls Tryd.prog 72 #[.slice a n cp, .int .i64 first, .string p, .bool fold, v, .int .i64 0] w fun e w' => e = .returned (.bool true) ∧ Sees w w' := by
  have KA := Lib.hid (fun W (hs : Sees w W) => by have q := sall_ok (first := first) (p := p) (hst.sees hs) (ht.sees hs) (rd_up ha hs) fold h; rw [← hms, List.take_of_length_le hl] at q; exact q)
  have KC := Lib.hid (fun W (hs : Sees w W) => count_ok (first := first) (p := p) (hst.sees hs) (ht.sees hs) (rd_up ha hs) fold h ms.length (by rw [hms]) (by omega))
  obtain ⟨av, cv, rfl⟩ := hv.slice
  have HV := Lib.hid hv
  have HL := Lib.hid hl
  clear hst ht ha h hms hv hl
  have s0 := Sees.refl w
  go_enter Tryd.func72, Tryd.ntmps72
  go_wp2_with fail
  refine (KA.out _ s0).mono ?_
  rintro e W1 ⟨v1, rfl, ho, s1⟩
  obtain ⟨a1, c1, rfl, _⟩ := ho.slice
  have HO := Lib.hid ho
  clear ho
  go_wp2_with fail
  refine (KC.out _ s1).mono ?_
  rintro e W2 ⟨rfl, s2⟩
  have S2 := Lib.hid (s1.trans s2)
  have HV2 := Lib.hid (HV.out.sees S2.out)
  have HO2 := Lib.hid (HO.out.sees s2).rd
  clear s1 s2
  generalize ms.length = N at *
  have hN : N ≤ 10000 := HL.out
  clear HL HV HO KA KC s0
  go_wp2
  go_loopw [17] (fun i wr => ∃ k : Nat, k ≤ N ∧ i = .int .i64 k ∧ Sees W2 wr) (fun i _ => N - (intOf i).toNat)
  case atStart => exact ⟨0, by omega, rfl, Sees.refl _⟩
  case round =>
    obtain ⟨k, hk, rfl, hS⟩ := hrel
    by_cases hlt : k < N
    · as_aux_lemma =>
      have k1 : (k : Int) < N := by omega
      obtain ⟨b1, o1, x, rfl, hx, p0, p1, p2, p3⟩ := mt_at (HO2.out.sees hS) hlt
      obtain ⟨b2, o2, y, rfl, hy, q0, q1, q2, q3⟩ := mt_at (HV2.out.sees hS) hlt
      have exy : y = x := by rw [hx] at hy; exact (Option.some.inj hy).symm
      subst exy
      have HSS := Lib.hid hS
      have gp0 := fun d os => (sees_grow wr d os).cell p0
      have gp1 := fun d os => (sees_grow wr d os).cell p1
      have gp2 := fun d os => (sees_grow wr d os).cell p2
      have gp3 := fun d os => (sees_grow wr d os).cell p3
      have gq0 := fun d os => (sees_grow wr d os).cell q0
      have gq1 := fun d os => (sees_grow wr d os).cell q1
      have gq2 := fun d os => (sees_grow wr d os).cell q2
      have gq3 := fun d os => (sees_grow wr d os).cell q3
      clear hx hy hS p0 p1 p2 p3 q0 q1 q2 q3
      go_wp2
      refine wp_region_quiet_below (by kernel_rfl) (by kernel_rfl) ?_
      repeat (first | go_big_quiet_skip | (go_big_quiet_want; go_big_quiet_op; go_big_quiet_on))
      refine wpQuiet_nil ?_; intro w2 hw2'; have hw2 := regrown_sees hw2'; clear hw2'
      go_wp2
      refine ⟨⟨k + 1, by omega, by go_num, HSS.out.trans hw2⟩, by simp [intOf]; omega⟩
    · obtain rfl : k = N := by omega
      go_wp2
      go_ret
      exact ⟨rfl, S2.out.trans hS⟩
end
end Go.Proofs.YtfdolhppbimbmaaDoor

namespace Go.Proofs.YtfdolhppbimbmaaDoor
set_option linter.unusedVariables false
set_option linter.unusedSimpArgs false
open Go.RowKit Go.Shelf

def aB : ByteArray := ⟨#[97, 98]⟩
def knL : List Ln := [⟨chL ⟨#[97, 98, 65, 66]⟩, true⟩, ⟨[⟨97, 0, 0, 0, 1, 0, 0, 0, 0, 0, 0, 0, 0, 0, 0, 0⟩, ⟨28450, 0, 0, 0, 2, 0, 0, 0, 0, 0, 0, 0, 0, 0, 0, 0⟩, ⟨0, 0, 0, 0, 0, 0, 0, 0, 0, 0, 0, 0, 0, 0, 0, 0⟩, ⟨98, 0, 0, 0, 1, 0, 0, 0, 0, 0, 0, 0, 0, 0, 0, 0⟩], false⟩, ⟨chL ⟨#[97, 98, 32, 98]⟩, false⟩]
theorem kn_rows : rowsOk knL 5 = true := by kernel_rfl
theorem kn_ck (p : ByteArray) (h : patOk p = true) : ckR knL 5 p = 0 := ckR_ok kn_rows (by decide) h
theorem kn_b : ckR knL 5 ⟨#[98]⟩ = 0 := kn_ck _ (by kernel_rfl)
theorem kn_bn : 5 = (allM knL 5 (⟨#[98]⟩ : ByteArray).data.toList true).length := by kernel_rfl
theorem kn_ab : ckR knL 5 ⟨#[97, 98]⟩ = 0 := kn_ck _ (by kernel_rfl)
theorem kn_ab1 : [⟨5, 0, 5, 1⟩, ⟨7, 0, 7, 1⟩] = allM knL 5 (⟨#[97, 98]⟩ : ByteArray).data.toList false := by kernel_rfl
theorem kn_ab2 : [⟨5, 0, 5, 1⟩, ⟨5, 2, 5, 3⟩, ⟨7, 0, 7, 1⟩] = allM knL 5 (⟨#[97, 98]⟩ : ByteArray).data.toList true := by kernel_rfl
theorem kn_c : ckR knL 5 ⟨#[66, 97, 230, 188, 162]⟩ = 0 := kn_ck _ (by kernel_rfl)
theorem kn_c1 : [⟨5, 3, 6, 1⟩] = allM knL 5 (⟨#[66, 97, 230, 188, 162]⟩ : ByteArray).data.toList false := by kernel_rfl
theorem kn_d : ckR knL 5 ⟨#[230, 188, 162]⟩ = 0 := kn_ck _ (by kernel_rfl)
theorem kn_d1 : [⟨6, 1, 6, 1⟩] = allM knL 5 (⟨#[230, 188, 162]⟩ : ByteArray).data.toList false := by kernel_rfl
theorem kn_e : ckR knL 5 ⟨#[98, 97, 98]⟩ = 0 := kn_ck _ (by kernel_rfl)
theorem kn_e1 : [] = allM knL 5 (⟨#[98, 97, 98]⟩ : ByteArray).data.toList false := by kernel_rfl
theorem kn_f : ckR knL 5 ⟨#[]⟩ = 2 := ckR_pat (by kernel_rfl)
theorem kn_n1 : nxt knL 5 ⟨#[97, 98]⟩ false 5 0 = (⟨7, 0, 7, 1⟩, 0) := by kernel_rfl
theorem kn_n2 : nxt knL 5 ⟨#[97, 98]⟩ false 7 0 = (⟨5, 0, 5, 1⟩, 0) := by kernel_rfl
theorem kn_p1 : prv knL 5 ⟨#[97, 98]⟩ false 5 0 = (⟨7, 0, 7, 1⟩, 0) := by kernel_rfl
theorem kn_z : nxt knL 5 ⟨#[122, 122]⟩ false 5 0 = (⟨0, 0, 0, 0⟩, 9) := by kernel_rfl
end Go.Proofs.YtfdolhppbimbmaaDoor
