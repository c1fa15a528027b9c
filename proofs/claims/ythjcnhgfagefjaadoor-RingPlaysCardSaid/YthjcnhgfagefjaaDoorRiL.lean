/- A ring's lines: Get and Set, in all cases. A ring that has too many lines: evict. A ring's pages one by one: the iterator, and a loop over it. A ring: New, Limit, Clear, Pop. A ring: Limit, Clear, Pop, Push. A ring: the last line is popped. A ring: a line is pushed. No condition. -/
import Derived.Test.YthjcnhgfagefjaaDoorRiA
import Derived.Test.YthjcnhgfagefjaaDoorRefV
import Derived.RangeFuncNested
import Derived.RangeFuncBound
import Derived.RangeFuncCalls
import Derived.RangeFuncLeaves
import Derived.Shelf.Abstract
import Derived.WalkKit
import Derived.OwnWalkIn
import Derived.TacticsInMore
import Derived.LoopNIn
import Derived.LoopIn
import Derived.Deep.CutRange
namespace Go.Proofs.YthjcnhgfagefjaaDoor
set_option linter.unusedVariables false
set_option linter.unusedSimpArgs false
open Go.RowKit

theorem linesP_split {ps : List Pg} {j : Nat} {x : Pg} (h : ps[j]? = some x) : linesP ps = linesP (ps.take j) ++ (x.ls ++ linesP (ps.drop (j + 1))) := by
  obtain ⟨hj, rfl⟩ := List.getElem?_eq_some_iff.1 h
  conv => lhs; rw [← List.take_append_drop j ps, List.drop_eq_getElem_cons hj, linesP_append, linesP_cons]
theorem linesP_get {ps : List Pg} {j k : Nat} {x : Pg} (h : ps[j]? = some x) (hk : k < x.ls.length) : (linesP ps)[(linesP (ps.take j)).length + k]? = x.ls[k]? := by
  rw [linesP_split h, List.getElem?_append_right (by omega), Nat.add_sub_cancel_left, List.getElem?_append_left hk]
theorem linesP_set {ps : List Pg} {j k : Nat} {x : Pg} {l : Ln} (h : ps[j]? = some x) (hk : k < x.ls.length) : linesP (ps.set j { x with ls := x.ls.set k l }) = (linesP ps).set ((linesP (ps.take j)).length + k) l := by
  have hj := (List.getElem?_eq_some_iff.1 h).1
  rw [linesP_split h, List.set_eq_take_append_cons_drop, if_pos hj, linesP_append, linesP_cons, List.set_append_right _ _ (by omega), Nat.add_sub_cancel_left, List.set_append_left _ _ hk]
theorem gl_set {ps : List Pg} {j : Nat} {x y : Pg} (h : ps[j]? = some x) (h1 : y.gone = x.gone) (h2 : y.ls.length = x.ls.length) : gl (ps.set j y) = gl ps := by
  obtain ⟨hj, rfl⟩ := List.getElem?_eq_some_iff.1 h
  unfold gl
  rw [List.map_set]
  refine List.ext_getElem? fun i => ?_
  rw [List.getElem?_set]
  split
  · rename_i e; subst e
    simp [hj, h1, h2]
  · rfl

theorem rat_no (w : World) (v : Value) (n : Int) (h : NoRi w v) : Calls Tryd.prog 44 #[v, .int .i64 n] w fun e w' => e = .returned (.tuple #[.pointer none, .int .i64 0, .int .i64 1]) ∧ Sees w w' := by
  have H := Lib.hid h; clear h
  go_enter Tryd.func44, Tryd.ntmps44
  go_wp2_with fail
  refine (rzero_no _ _ H.out).mono ?_
  rintro e w1 ⟨rfl, hs⟩
  go_wp2
  refine bodyPost_ret_by (v := .tuple #[.pointer none, .int .i64 0, .int .i64 1]) (by simp [results, Tryd.results44, go_sem]) rfl ⟨rfl, hs⟩
theorem rat_range (w : World) (r : Nat) (most page first next : Int) (sv : Value) (h : RiAt w r most page first next sv) (hm : 1 ≤ page) (n : Int) (hn : decide (n < 0) = true ∨ (decide (n < 0) = false ∧ decide (n ≥ next) = true)) :
    Calls Tryd.prog 44 #[.pointer (some ⟨r, 0, none⟩), .int .i64 n] w fun e w' => e = .returned (.tuple #[.pointer none, .int .i64 0, .int .i64 3]) ∧ Sees w w' := by
  have H := Lib.hid h; clear h
  have Hm := Lib.hid hm; clear hm
  rcases hn with h1 | ⟨h1, h2⟩
  · go_enter Tryd.func44, Tryd.ntmps44
    go_wp2_with fail
    refine (rzero_at _ r _ _ _ _ _ H.out Hm.out).mono ?_
    rintro e w1 ⟨rfl, hs⟩
    obtain ⟨c0, c1, c2, c3, c4⟩ := (H.out.sees hs).c
    go_wp2
    refine bodyPost_ret_by (v := .tuple #[.pointer none, .int .i64 0, .int .i64 3]) (by simp [results, Tryd.results44, go_sem]) rfl ⟨rfl, hs⟩
  · have h2' : decide (next ≤ n) = true := h2
    go_enter Tryd.func44, Tryd.ntmps44
    go_wp2_with fail
    refine (rzero_at _ r _ _ _ _ _ H.out Hm.out).mono ?_
    rintro e w1 ⟨rfl, hs⟩
    obtain ⟨c0, c1, c2, c3, c4⟩ := (H.out.sees hs).c
    go_wp2
    refine bodyPost_ret_by (v := .tuple #[.pointer none, .int .i64 0, .int .i64 3]) (by simp [results, Tryd.results44, go_sem]) rfl ⟨rfl, hs⟩
theorem rat_gone (w : World) (r : Nat) (most page first next : Int) (sv : Value) (h : RiAt w r most page first next sv) (hm : 1 ≤ page) (n : Int) (h1 : decide (n < 0) = false) (h2 : decide (n ≥ next) = false) (h3 : decide (n < first) = true) :
    Calls Tryd.prog 44 #[.pointer (some ⟨r, 0, none⟩), .int .i64 n] w fun e w' => e = .returned (.tuple #[.pointer none, .int .i64 0, .int .i64 14]) ∧ Sees w w' := by
  have H := Lib.hid h; clear h
  have Hm := Lib.hid hm; clear hm
  have h2' : decide (next ≤ n) = false := h2
  go_enter Tryd.func44, Tryd.ntmps44
  go_wp2_with fail
  refine (rzero_at _ r _ _ _ _ _ H.out Hm.out).mono ?_
  rintro e w1 ⟨rfl, hs⟩
  obtain ⟨c0, c1, c2, c3, c4⟩ := (H.out.sees hs).c
  go_wp2
  refine bodyPost_ret_by (v := .tuple #[.pointer none, .int .i64 0, .int .i64 14]) (by simp [results, Tryd.results44, go_sem]) rfl ⟨rfl, hs⟩

/-- Get, where there is none. -/
theorem rget_err (w : World) (v : Value) (n er : Int) (hne : (er == 0) = false) (hat : ∀ W, Sees w W → Calls Tryd.prog 44 #[v, .int .i64 n] W fun e w' => e = .returned (.tuple #[.pointer none, .int .i64 0, .int .i64 er]) ∧ Sees W w') :
    Calls Tryd.prog 38 #[v, .int .i64 n] w fun e w' => e = .returned (.tuple #[.agg #[.slice none 0 0, .bool false], .int .i64 er]) ∧ Sees w w' := by
  have H := Lib.hid hat; clear hat
  have hne' : (er != 0) = true := by rw [bne, hne]; rfl
  go_enter Tryd.func38, Tryd.ntmps38
  go_wp2_with fail
  refine (H.out _ ((Sees.refl w).alloc _)).mono ?_
  rintro e w1 ⟨rfl, hs⟩
  have c0 : w1.cell? ⟨w.heap.size, 0, none⟩ = some (.slice none 0 0) := by rw [hs.cells _ _ (by simp)]; simp
  have c1 : w1.cell? ⟨w.heap.size, 1, none⟩ = some (.bool false) := by rw [hs.cells _ _ (by simp)]; simp
  have f1 : ∀ i, w1.frozen? ⟨w.heap.size, i, none⟩ = false := fun i => by rw [hs.frozens _ _ (by simp)]; simp
  have Hs := Lib.hid (((Sees.refl w).alloc _).trans hs); clear hs
  go_wp2
  refine bodyPost_ret_by (v := .tuple #[.agg #[.slice none 0 0, .bool false], .int .i64 er]) (by simp [results, Tryd.results38, go_sem, c0, c1]) rfl ⟨rfl, ?_⟩
  exact (Hs.out.setCell (p := ⟨w.heap.size, 0, none⟩) (Nat.le_refl _) _).setCell (p := ⟨w.heap.size, 1, none⟩) (Nat.le_refl _) _

section
variable {w1 W : World} {F : Nat → Prop} {r : Nat} {d : RD}
set_option maxHeartbeats 1000000 in
theorem rget_ok (h : RiM w1 F W r d) (hd : d.Ok) (n : Int) (i : Nat) (l : Ln) (hn : n = d.first + i) (hl : (linesP d.ps)[i]? = some l) :
    Calls Tryd.prog 38 #[.pointer (some ⟨r, 0, none⟩), .int .i64 n] W fun e w' => ∃ v', e = .returned (.tuple #[.agg #[v', .bool l.soft], .int .i64 0]) ∧ OwnCells w' W.heap.size v' l.cells ∧ Sees W w' := by
  have H := Lib.hid h
  have HD := Lib.hid hd
  have Hl := Lib.hid hl
  have hil := (List.getElem?_eq_some_iff.1 hl).1
  have htot := hd.tot
  have h1 : d.first ≤ n := by omega
  have h2 : n < d.next := by omega
  have Hn := Lib.hid hn
  have H1 := Lib.hid h1
  have H2 := Lib.hid h2
  clear h hd hl hil htot hn h1 h2
  go_enter Tryd.func38, Tryd.ntmps38
  go_wp2_with fail
  have HA := Lib.hid ((Sees.refl W).alloc (.cells #[.slice none 0 0, .bool false] 36))
  refine (rat_ok (H.out.sees HA.out) HD.out n H1.out H2.out).mono ?_
  rintro e w2 ⟨j, k, p, x, hj, hk, hnk, hp, rfl, hs⟩
  have hxl : x.ls[k]? = some l := by
    have := linesP_get hj hk
    rw [← this, ← Hl.out]
    congr 1
    have := Hn.out
    omega
  obtain ⟨Fx, hpg, _, _⟩ := (H.out.sees HA.out).pageAt HD.out hj hp
  have HP := Lib.hid (hpg.sees hs)
  have HX := Lib.hid hxl
  have c0 : w2.cell? ⟨W.heap.size, 0, none⟩ = some (.slice none 0 0) := by rw [hs.cells _ _ (by simp)]; simp
  have c1 : w2.cell? ⟨W.heap.size, 1, none⟩ = some (.bool false) := by rw [hs.cells _ _ (by simp)]; simp
  have f1 : ∀ i, w2.frozen? ⟨W.heap.size, i, none⟩ = false := fun i => by rw [hs.frozens _ _ (by simp)]; simp
  have hsz : W.heap.size + 1 ≤ w2.heap.size := by have := hs.size; simp at this; omega
  have HZ := Lib.hid hsz
  have C0 := Lib.hid c0
  have C1 := Lib.hid c1
  have F1 := Lib.hid f1
  have HS := Lib.hid (HA.out.trans hs)
  clear hj hk hnk hp hpg hs hxl c0 c1 f1 hsz
  go_wp2_with fail
  refine (HP.out.toS.get k l HX.out).mono ?_
  rintro e w3 ⟨v', rfl, ho, hs⟩
  have c0 := hs.cell C0.out
  have c1 := hs.cell C1.out
  have f1 : ∀ i, w3.frozen? ⟨W.heap.size, i, none⟩ = false := fun i => by rw [hs.frozens _ _ (by have := HZ.out; omega)]; exact F1.out i
  have Ho := Lib.hid ho
  have HS3 := Lib.hid (HS.out.trans hs)
  obtain ⟨a', c', rfl⟩ := ho.slice
  clear ho hs
  go_wp2
  refine bodyPost_ret_by (v := .tuple #[.agg #[.slice a' l.cells.length c', .bool l.soft], .int .i64 0]) (by simp [results, Tryd.results38, go_sem, c0, c1]) rfl ⟨_, rfl, ?_, ?_⟩
  · exact ((Ho.out.setCell (p := ⟨W.heap.size, 0, none⟩) HZ.out _).setCell (p := ⟨W.heap.size, 1, none⟩) HZ.out _).mono (by have := HZ.out; omega)
  · exact (HS3.out.setCell (p := ⟨W.heap.size, 0, none⟩) (Nat.le_refl _) _).setCell (p := ⟨W.heap.size, 1, none⟩) (Nat.le_refl _) _
end

/-- Set, where there is none. -/
theorem rset_no (w : World) (v : Value) (n : Int) (u : Value) (soft : Bool) (h : NoRi w v) :
    Calls Tryd.prog 21 #[v, .int .i64 n, .agg #[u, .bool soft]] w fun e w' => e = .returned (.int .i64 1) ∧ Sees w w' := by
  have H := Lib.hid h; clear h
  have hw := Sees.refl w
  have HA := Lib.hid (((hw.alloc (.cells #[u, .bool soft] 36))))
  clear hw
  go_enter Tryd.func21, Tryd.ntmps21
  go_wp2_with fail
  refine (rzero_no _ _ (H.out.sees HA.out)).mono ?_
  rintro e w1 ⟨rfl, hs⟩
  have HS := Lib.hid (HA.out.trans hs)
  clear hs
  go_wp2_with fail
  refine (rat_no _ v n (H.out.sees HS.out)).mono ?_
  rintro e w2 ⟨rfl, hs⟩
  have HS2 := Lib.hid (HS.out.trans hs)
  clear hs
  go_wp2
  go_ret
  exact ⟨rfl, HS2.out⟩
theorem rset_arg (w : World) (ht : Tabs w) (r : Nat) (most page first next : Int) (sv : Value) (h : RiAt w r most page first next sv) (hm : 1 ≤ page) (n : Int) (u : Value) (cs : List Cell) (soft : Bool) (hu : RdCells w u cs) (hn : cs.length ≤ 1000000) (hok : lnOk cs = false) :
    Calls Tryd.prog 21 #[.pointer (some ⟨r, 0, none⟩), .int .i64 n, .agg #[u, .bool soft]] w fun e w' => e = .returned (.int .i64 2) ∧ Sees w w' := by
  have H := Lib.hid h; clear h
  have Hm := Lib.hid hm; clear hm
  have Ht := Lib.hid ht; clear ht
  have Hu := Lib.hid hu; clear hu
  have Hn := Lib.hid hn; clear hn
  have Hok := Lib.hid hok; clear hok
  have hw := Sees.refl w
  have HA := Lib.hid (((hw.alloc (.cells #[u, .bool soft] 36))))
  clear hw
  go_enter Tryd.func21, Tryd.ntmps21
  go_wp2_with fail
  refine (rzero_at _ r _ _ _ _ _ (H.out.sees HA.out) Hm.out).mono ?_
  rintro e w1 ⟨rfl, hs⟩
  have HS := Lib.hid (HA.out.trans hs)
  have b0 : w1.cell? ⟨w.heap.size, 0, none⟩ = some u := by rw [hs.cells _ _ (by simp)]; simp
  have b1 : w1.cell? ⟨w.heap.size, 1, none⟩ = some (.bool soft) := by rw [hs.cells _ _ (by simp)]; simp
  clear hs
  go_wp2_with fail
  refine (lineValid_any u cs soft _ (Ht.out.sees HS.out) (Hu.out.sees HS.out) Hn.out).mono ?_
  rintro e w2 ⟨rfl, hs⟩
  have HS2 := Lib.hid (HS.out.trans hs)
  have ok := Hok.out
  clear hs b0 b1
  go_wp2
  go_ret
  exact ⟨rfl, HS2.out⟩
theorem rset_err (w : World) (ht : Tabs w) (r : Nat) (most page first next : Int) (sv : Value) (h : RiAt w r most page first next sv) (hm : 1 ≤ page) (n er : Int) (hne : (er == 0) = false) (u : Value) (cs : List Cell) (soft : Bool) (hu : RdCells w u cs) (hok : lnOk cs = true)
    (hat : ∀ W, Sees w W → Calls Tryd.prog 44 #[.pointer (some ⟨r, 0, none⟩), .int .i64 n] W fun e w' => e = .returned (.tuple #[.pointer none, .int .i64 0, .int .i64 er]) ∧ Sees W w') :
    Calls Tryd.prog 21 #[.pointer (some ⟨r, 0, none⟩), .int .i64 n, .agg #[u, .bool soft]] w fun e w' => e = .returned (.int .i64 er) ∧ Sees w w' := by
  have H := Lib.hid h; clear h
  have Hm := Lib.hid hm; clear hm
  have Ht := Lib.hid ht; clear ht
  have Hu := Lib.hid hu; clear hu
  have Hok := Lib.hid hok; clear hok
  have Hat := Lib.hid hat; clear hat
  have hne' : (er != 0) = true := by rw [bne, hne]; rfl
  have hw := Sees.refl w
  have HA := Lib.hid (((hw.alloc (.cells #[u, .bool soft] 36))))
  clear hw
  go_enter Tryd.func21, Tryd.ntmps21
  go_wp2_with fail
  refine (rzero_at _ r _ _ _ _ _ (H.out.sees HA.out) Hm.out).mono ?_
  rintro e w1 ⟨rfl, hs⟩
  have HS := Lib.hid (HA.out.trans hs)
  have b0 : w1.cell? ⟨w.heap.size, 0, none⟩ = some u := by rw [hs.cells _ _ (by simp)]; simp
  have b1 : w1.cell? ⟨w.heap.size, 1, none⟩ = some (.bool soft) := by rw [hs.cells _ _ (by simp)]; simp
  clear hs
  go_wp2_with fail
  refine (lineValid_any u cs soft _ (Ht.out.sees HS.out) (Hu.out.sees HS.out) (by have := lnOk_len Hok.out; omega)).mono ?_
  rintro e w2 ⟨rfl, hs⟩
  have HS2 := Lib.hid (HS.out.trans hs)
  have ok := Hok.out
  clear hs b0 b1
  go_wp2_with fail
  refine (Hat.out _ HS2.out).mono ?_
  rintro e w3 ⟨rfl, hs⟩
  have HS3 := Lib.hid (HS2.out.trans hs)
  clear hs ok
  go_wp2
  go_ret
  exact ⟨rfl, HS3.out⟩

section
variable {w1 W : World} {F G : Nat → Prop} {r : Nat} {d : RD}
theorem rset_ok (ht : Tabs W) (h : RiM w1 F W r d) (hd : d.Ok) (n : Int) (i : Nat) (hn : n = d.first + i) (hi : i < (linesP d.ps).length) (u : Value) (cs : List Cell) (soft : Bool) (hu : RdC G W u cs) (hG : ∀ b, G b → ¬ F b) (hok : lnOk cs = true) :
    Calls Tryd.prog 21 #[.pointer (some ⟨r, 0, none⟩), .int .i64 n, .agg #[u, .bool soft]] W fun e w' => e = .returned (.int .i64 0) ∧
      ∃ ps', RiM w1 (fun b => F b ∨ W.heap.size ≤ b) w' r { d with ps := ps' } ∧ PsOk d.page ps' ∧ linesP ps' = (linesP d.ps).set i ⟨cs, soft⟩ ∧ gl ps' = gl d.ps ∧ Keeps F W w' := by
  have H := Lib.hid h
  have HD := Lib.hid hd
  have htot := hd.tot
  have h1 : d.first ≤ n := by omega
  have h2 : n < d.next := by omega
  have Hn := Lib.hid hn
  have Hi := Lib.hid hi
  have H1 := Lib.hid h1
  have H2 := Lib.hid h2
  have Hm := Lib.hid hd.page0
  have Ht := Lib.hid ht
  have HG := Lib.hid hG
  have HU := Lib.hid hu
  have Hok := Lib.hid hok
  obtain ⟨a, c, hA, _⟩ := h.words
  have HW := Lib.hid hA
  obtain ⟨ao, ca, rfl, _⟩ := hu.rd
  clear h hd htot hn hi h1 h2 ht hG hu hok hA
  obtain ⟨N, hN⟩ : ∃ N, N = cs.length := ⟨_, rfl⟩
  rw [← hN] at HU ⊢
  have HN := Lib.hid hN
  clear hN
  have hw := Sees.refl W
  have HA := Lib.hid (((hw.alloc (.cells #[.slice ao N ca, .bool soft] 36))))
  clear hw
  go_enter Tryd.func21, Tryd.ntmps21
  go_wp2_with fail
  refine (rzero_at _ r _ _ _ _ _ (HW.out.sees HA.out) Hm.out).mono ?_
  rintro e W1 ⟨rfl, hs⟩
  have HS := Lib.hid (HA.out.trans hs)
  have b0 : W1.cell? ⟨W.heap.size, 0, none⟩ = some (.slice ao N ca) := by rw [hs.cells _ _ (by simp)]; simp
  have b1 : W1.cell? ⟨W.heap.size, 1, none⟩ = some (.bool soft) := by rw [hs.cells _ _ (by simp)]; simp
  have B0 := Lib.hid b0
  have B1 := Lib.hid b1
  clear hs
  go_wp2_with fail
  refine (lineValid_any (.slice ao N ca) cs soft _ (Ht.out.sees HS.out) (HU.out.rd.sees HS.out) (by have := lnOk_len Hok.out; omega)).mono ?_
  rintro e W2 ⟨rfl, hs⟩
  have HS2 := Lib.hid (HS.out.trans hs)
  have B2 := Lib.hid (hs.cell B0.out)
  have B3 := Lib.hid (hs.cell B1.out)
  have ok := Hok.out
  clear hs b0 b1 B0 B1 HS
  go_wp2_with fail
  refine (rat_ok (H.out.sees HS2.out) HD.out n H1.out H2.out).mono ?_
  rintro e W3 ⟨j, k, p, x, hj, hk, hnk, hp, rfl, hs⟩
  have hik : (linesP (d.ps.take j)).length + k = i := by have := Hn.out; omega
  obtain ⟨Fx, hpg, hFx, hback⟩ := ((H.out.sees HS2.out).sees hs).pageAt HD.out hj (hp.sees hs)
  have HJ := Lib.hid hj
  have HK := Lib.hid hk
  have HIK := Lib.hid hik
  have HP := Lib.hid hpg
  have HFx := Lib.hid hFx
  have HB := Lib.hid hback
  have b0 := hs.cell B2.out
  have b1 := hs.cell B3.out
  have HS3 := Lib.hid (HS2.out.trans hs)
  clear hj hk hnk hp hpg hs hik hFx hback ok B2 B3 HS2
  go_wp2_with fail
  refine (HP.out.set (Ht.out.sees HS3.out) k HK.out _ cs soft (by rw [HN.out] at HU ⊢; exact HU.out.sees HS3.out) (fun b hb hF => HG.out b hb (HFx.out b hF).1) Hok.out).mono ?_
  rintro e W4 ⟨rfl, hpg, hk4⟩
  have HR := Lib.hid (HB.out W4 { x with ls := x.ls.set k ⟨cs, soft⟩ } hk4 (by rw [show ({ x with ls := x.ls.set k ⟨cs, soft⟩ } : Pg).most = d.page from (HD.out.pgs x (List.mem_iff_getElem?.2 ⟨j, HJ.out⟩)).1.most]; exact hpg.page))
  have HK4 := Lib.hid hk4
  clear hpg hk4 b0 b1
  go_wp2
  go_ret
  have hsz := HS3.out.size
  have hx := HD.out.pgs x (List.mem_iff_getElem?.2 ⟨j, HJ.out⟩)
  refine ⟨rfl, _, (HR.out.mono (fun b _ hb => ?_) (fun b hb => ?_)), ?_, ?_, ?_, ?_⟩
  · rcases hb with hb | hb
    · exact .inl hb
    · exact .inr (by omega)
  · rcases hb with hb | hb
    · exact H.out.low b hb
    · have := H.out.see.size; omega
  · intro q hq
    rcases List.mem_or_eq_of_mem_set hq with hq | rfl
    · exact HD.out.pgs q hq
    · refine ⟨⟨hx.1.most, hx.1.gone0, by show x.gone + ((x.ls.set k ⟨cs, soft⟩).length : Int) ≤ d.page; rw [List.length_set]; exact hx.1.room, fun l hl => ?_⟩, ?_⟩
      · rcases List.mem_or_eq_of_mem_set hl with hl | rfl
        · exact hx.1.ok l hl
        · exact Hok.out
      · intro e
        have := congrArg List.length e
        rw [List.length_set] at this
        exact hx.2 (List.length_eq_zero_iff.1 this)
  · rw [linesP_set HJ.out HK.out, HIK.out]
  · exact gl_set HJ.out rfl (List.length_set ..)
  · exact (Keeps.of_sees HS3.out).trans' HK4.out (fun b _ hF => (HFx.out b hF).1)
end
end Go.Proofs.YthjcnhgfagefjaaDoor

namespace Go.Proofs.YthjcnhgfagefjaaDoor
set_option linter.unusedVariables false
set_option linter.unusedSimpArgs false
open Go.RowKit

/-- The number of the first line, read off the world (a loop's measure). -/
def ringFirst (W : World) (r : Nat) : Int := match W.cell? ⟨r, 2, none⟩ with | some v => intOf v | none => 0
theorem RiAt.ringFirst {W : World} {r : Nat} {m p f x : Int} {v : Value} (h : RiAt W r m p f x v) : Go.Proofs.YthjcnhgfagefjaaDoor.ringFirst W r = f := by
  unfold Go.Proofs.YthjcnhgfagefjaaDoor.ringFirst; rw [h.c.2.2.1]; rfl

section
variable {w1 W : World} {F : Nat → Prop} {r : Nat} {d : RD}
theorem RiM.tail (h : RiM w1 F W r d) {x : Pg} {rest : List Pg} (hd : d.ps = x :: rest) : ∃ (b c : Nat) (Fn : Nat → Prop) (news : List Value), RiAt W r d.most d.page d.first d.next (.slice (some ⟨b, 0, none⟩) (rest.length + 1) c) ∧ rest.length + 1 ≤ c ∧
    pgEl.ownIn Fn W news rest ∧ (∀ c, Fn c → F c ∧ c ≠ r ∧ c < W.heap.size) ∧ ∀ (j : Nat) u, news[j]? = some u → W.cell? ((⟨b, 1, none⟩ : Addr).add j) = some u := by
  obtain ⟨v, h1, h2⟩ := h.mem
  rw [hd] at h2
  obtain ⟨b, cap, Fx, vs, rfl, hc, _⟩ := h2.grow (i := 0) (x := x) rfl
  obtain ⟨Fn, news, k1, k2, k3⟩ := h2.tail
  exact ⟨b, cap, Fn, news, h1, hc, k1, fun c hc => ⟨(k2 c hc).1.1, (k2 c hc).1.2, (k2 c hc).2.2⟩, k3⟩

theorem PgF.keeps {X : Nat → Prop} {W' : World} {p : Nat} {most gone : Int} {ls : List Ln} (h : PgF w1 F W p most gone ls) (hk : Keeps X W W') (hd : ∀ b, F b → ¬ X b) (hx : ∀ b, X b → w1.heap.size ≤ b) : PgF w1 F W' p most gone ls :=
  ⟨((Keeps.of_sees (F := fun _ => False) h.see).trans' hk (fun b hb e => by have := hx b e; omega)).sees_end (fun _ _ h => h), h.page.keeps hk hd, h.low, h.most0, h.most1, h.gone0, h.room, h.ok⟩
theorem RiM.set2 (h : RiM w1 F W r d) (x : Int) : RiM w1 F (W.setCell ⟨r, 2, none⟩ (.int .i64 x)) r { d with first := x } := by
  obtain ⟨v, h1, h2⟩ := h.mem
  exact h.turn (Keeps.setCell (F := fun b => b = r) (Keeps.refl _ W) (p := ⟨r, 2, none⟩) (fun _ => rfl) _) (h1.set2 x) h2
theorem RiM.set3 (h : RiM w1 F W r d) (x : Int) : RiM w1 F (W.setCell ⟨r, 3, none⟩ (.int .i64 x)) r { d with next := x } := by
  obtain ⟨v, h1, h2⟩ := h.mem
  exact h.turn (Keeps.setCell (F := fun b => b = r) (Keeps.refl _ W) (p := ⟨r, 3, none⟩) (fun _ => rfl) _) (h1.set3 x) h2
theorem RiM.set0 (h : RiM w1 F W r d) (x : Int) : RiM w1 F (W.setCell ⟨r, 0, none⟩ (.int .i64 x)) r { d with most := x } := by
  obtain ⟨v, h1, h2⟩ := h.mem
  exact h.turn (Keeps.setCell (F := fun b => b = r) (Keeps.refl _ W) (p := ⟨r, 0, none⟩) (fun _ => rfl) _) (h1.set0 x) h2
theorem RiM.set4 (h : RiM w1 F W r d) (v : Value) (ps : List Pg) (ho : pgEl.Own (fun b => F b ∧ b ≠ r) W v ps) : RiM w1 F (W.setCell ⟨r, 4, none⟩ v) r { d with ps := ps } := by
  obtain ⟨_, h1, _⟩ := h.mem
  exact h.turn (Keeps.setCell (F := fun b => b = r) (Keeps.refl _ W) (p := ⟨r, 4, none⟩) (fun _ => rfl) _) (h1.set4 v) ho

/-- How many lines are too many. -/
def RD.over (d : RD) : Nat := (d.next - d.first - d.most).toNat

set_option maxRecDepth 1000000 in
set_option maxHeartbeats 8000000 in
theorem revict_ok (h : RiM w1 F W r d) (hd : d.Ok) :
    Calls Tryd.prog 42 #[.pointer (some ⟨r, 0, none⟩)] W fun e w' => e = .returned (.tuple #[]) ∧
      RiM w1 (fun b => F b ∨ W.heap.size ≤ b) w' r { d with first := d.first + d.over, ps := dropF d.over d.ps } ∧ Keeps F W w' := by
  have HL := Lib.hid h.low
  have HZ1 := Lib.hid h.see.size
  have H0 := Lib.hid (h.mono (G := fun b => F b ∨ W.heap.size ≤ b) (fun _ _ h => .inl h) (fun b hb => by rcases hb with hb | hb; exact h.low b hb; have := h.see.size; omega))
  have HR := Lib.hid h.fr
  clear h
  obtain ⟨most, page, first, next, ps⟩ := d
  obtain ⟨k, hk⟩ : ∃ k : Nat, k = (next - first - most).toNat := ⟨_, rfl⟩
  have g0 := hd.most0
  have g0' := hd.most1
  have g1 := hd.page0
  have g2 := hd.page1
  have g3 := hd.first0
  have g4 := hd.next1
  have g5 := hd.tot
  have hps := hd.pgs
  have g6 := hd.few
  simp only [] at g0 g0' g1 g2 g3 g4 g5 g6 hps
  obtain ⟨L, hL⟩ : ∃ L, L = (linesP ps).length := ⟨_, rfl⟩
  rw [← hL] at g5 g6
  have HFW := Lib.hid g6
  show Calls _ _ _ _ fun e w' => e = .returned (.tuple #[]) ∧ RiM w1 (fun b => F b ∨ W.heap.size ≤ b) w' r ⟨most, page, first + ((next - first - most).toNat : Nat), next, dropF (next - first - most).toNat ps⟩ ∧ Keeps F W w'
  rw [← hk]
  have Hps := Lib.hid hps
  have HLL := Lib.hid hL
  have HK := Lib.hid hk
  have HT := Lib.hid g5
  have Hm0 := Lib.hid g0
  have Hm1 := Lib.hid g0'
  have Hp0 := Lib.hid g1
  have Hp1 := Lib.hid g2
  have Hf0 := Lib.hid g3
  have Hx1 := Lib.hid g4
  clear hd hps hL hk g0 g0' g1 g2 g3 g4 g5 g6
  go_enter Tryd.func42, Tryd.ntmps42
  go_wp2_with fail
  go_loopw [2] (fun v wr => ∃ (j : Nat) (qs : List Pg), j ≤ k ∧ RiM w1 (fun b => F b ∨ W.heap.size ≤ b) wr r ⟨most, page, first + j, next, qs⟩ ∧ dropF (k - j) qs = dropF k ps ∧ PsOk page qs ∧ (linesP qs).length + j = L ∧ Keeps F W wr) (fun _ wr => (first + k - ringFirst wr r).toNat)
  case atStart => exact ⟨0, ps, Nat.zero_le _, by rw [show first + ((0 : Nat) : Int) = first by omega]; exact H0.out, rfl, Hps.out, HLL.out.symm, Keeps.refl _ _⟩
  case round =>
    obtain ⟨j, qs, hj, hR, hdr, hqs, hql, hkp⟩ := hrel
    obtain ⟨a0, c0, hA, hc0⟩ := hR.words
    simp only [] at hA hc0
    have Hmeas := Lib.hid hA.ringFirst
    obtain ⟨f, hf⟩ : ∃ f : Int, f = first + j := ⟨_, rfl⟩
    rw [← hf] at hA hR
    have HA := Lib.hid hA
    have HRi := Lib.hid hR
    have Hdr := Lib.hid hdr
    have Hqs := Lib.hid hqs
    have Hql := Lib.hid hql
    have Hkp := Lib.hid hkp
    have Hf := Lib.hid hf
    have k1 := HK.out
    have k2 := HT.out
    have k3 := Hm0.out
    have k4 := Hf0.out
    have k5 := Hx1.out
    have k6 := Hm1.out
    have hsub : IntKind.i64.wrap (next - f) = ((L - j : Nat) : Int) := by rw [IntWalk.i64_in _ (by omega)]; omega
    obtain ⟨e0, he0⟩ : ∃ e0, e0 = L - j := ⟨_, rfl⟩
    rw [← he0] at hsub
    by_cases hjk : j = k
    · obtain ⟨r0, r1, r2, r3, r4⟩ := hA.c
      have t1 : decide ((e0 : Int) > most) = false := decide_eq_false (by omega)
      have t1' : decide (most < (e0 : Int)) = false := t1
      have Hjk := Lib.hid hjk
      have q0 := fun d os => (sees_grow wr d os).cell r0
      have q2 := fun d os => (sees_grow wr d os).cell r2
      have q3 := fun d os => (sees_grow wr d os).cell r3
      clear hA hc0 hR hdr hqs hql hkp hf k1 k2 k3 k4 k5 k6 he0 r0 r1 r2 r3 r4 hj hjk
      go_wp2
      refine wp_region_quiet_below (by kernel_rfl) (by kernel_rfl) ?_
      repeat (first | go_big_quiet_skip | (go_big_quiet_want; go_big_quiet_op; go_big_quiet_on))
      refine wpQuiet_nil ?_; intro w2 hw2'; have hw2 := regrown_sees hw2'; clear hw2'
      go_wp2
      go_end0
      refine ⟨rfl, ?_, Hkp.out.trans (Keeps.of_sees hw2)⟩
      have h1 := Hdr.out
      rw [Hjk.out, Nat.sub_self, dropF_zero] at h1
      have h2 := HRi.out
      rw [Hf.out, Hjk.out, h1] at h2
      exact h2.sees hw2
    · obtain ⟨x, rest, hqx⟩ : ∃ x rest, qs = x :: rest := by
        cases qs with
        | nil => simp [linesP] at hql; omega
        | cons x rest => exact ⟨x, rest, rfl⟩
      subst hqx
      have t1 : decide ((e0 : Int) > most) = true := decide_eq_true (by omega)
      have t1' : decide (most < (e0 : Int)) = true := t1
      obtain ⟨q, hq⟩ : ∃ q, q = k - j := ⟨_, rfl⟩
      have hsub2 : IntKind.i64.wrap ((e0 : Int) - most) = (q : Int) := by rw [IntWalk.i64_in _ (by omega)]; omega
      have hx := hqs x (List.mem_cons_self ..)
      obtain ⟨b, cap, p, Fx, hA2, hcap, hcell, hpg, hFx, _, hback⟩ := hR.page (i := 0) rfl hx.1 ⟨Hp0.out, Hp1.out⟩
      have ea := hA.inj hA2
      simp only [Value.slice.injEq] at ea
      obtain ⟨rfl, _, rfl⟩ := ea
      obtain ⟨N, hN⟩ : ∃ N, N = (x :: rest).length := ⟨_, rfl⟩
      rw [← hN] at hA hc0
      have hN1 : 1 ≤ N := by rw [hN]; simp
      have t2 : decide ((N : Int) > 0) = true := decide_eq_true (by omega)
      have t2' : decide (0 < (N : Int)) = true := t2
      obtain ⟨m, hm⟩ : ∃ m, m = x.ls.length := ⟨_, rfl⟩
      have hm1 : 1 ≤ m := by rw [hm]; exact List.length_pos_iff.2 hx.2
      have hmL : m ≤ 1024 := by have h1 := hx.1.room; have h2 := hx.1.gone0; have h3 := Hp1.out; omega
      have hk9 : k ≤ 1000000000 := by omega
      have hfx : f ≤ 1000000000 ∧ 0 ≤ f := by have := hR.words; omega
      have HA2 := Lib.hid hA
      have HX := Lib.hid hx
      have HN := Lib.hid hN
      have HN1 := Lib.hid hN1
      have HM := Lib.hid hm
      have HM1 := Lib.hid hm1
      have HML := Lib.hid hmL
      have HQ := Lib.hid hq
      have HJK := Lib.hid hj
      have HJ2 := Lib.hid hjk
      have HC := Lib.hid hcell
      have HPG := Lib.hid hpg
      have HFx := Lib.hid hFx
      have HB := Lib.hid hback
      have HK9 := Lib.hid hk9
      have HFX := Lib.hid hfx
      have HC0 := Lib.hid hc0
      obtain ⟨r0, r1, r2, r3, r4⟩ := hA.c
      have q0 := fun d os => (sees_grow wr d os).cell r0
      have q2 := fun d os => (sees_grow wr d os).cell r2
      have q3 := fun d os => (sees_grow wr d os).cell r3
      have q4 := fun d os => (sees_grow wr d os).cell r4
      clear hA hA2 hc0 hR hdr hqs hql hkp hf k1 k2 k3 k4 k5 k6 he0 r0 r1 r2 r3 r4 hj hjk hx hN hN1 hm hm1 hmL hq hcell hpg hFx hback hk9 hfx hcap HA HK
      go_wp2
      refine wp_region_quiet_below (by kernel_rfl) (by kernel_rfl) ?_
      repeat (first | go_big_quiet_skip | (go_big_quiet_want; go_big_quiet_op; go_big_quiet_on))
      refine wpQuiet_nil ?_; intro w2 hw2'; have hw2 := regrown_sees hw2'; clear hw2'
      have S2 := Lib.hid hw2
      clear hw2 q0 q2 q3 q4
      go_wp2_with fail
      refine wpH_go (fun _ => False) 23 (by kernel_rfl) (by kernel_rfl) (by rfl) (fun hB w4 hs4 => ?_)
      have S4 := Lib.hid (S2.out.trans hs4)
      have D0 := Lib.hid (HA2.out.sees S4.out)
      have DC := Lib.hid (S4.out.cell HC.out)
      have P4 := Lib.hid (HPG.out.sees S4.out)
      clear hs4 S2
      have hS0 : Keeps (fun _ => False) w4 w4 := Keeps.refl _ w4
      refine wpH_take (i := 0) (v := .pointer (some ⟨r, 0, none⟩)) hB (by rfl) (by kernel_rfl) (fun _ _ _ _ _ h => h) (by rfl) hS0 (fun W hI => by clear hI; go_simp) ?_; (try simp only [Act.put, List.setIfInBounds_toArray, List.set_cons_zero, List.set_cons_succ])
      refine wpH_take (i := 1) (v := .pointer (some ⟨r, 0, none⟩)) hB (by rfl) (by kernel_rfl) (fun _ _ _ _ _ h => h) (by rfl) hS0 (fun W hI => by clear hI; go_simp) ?_; (try simp only [Act.put, List.setIfInBounds_toArray, List.set_cons_zero, List.set_cons_succ])
      refine wpH_take (i := 2) (v := .pointer (some ⟨r, 3, none⟩)) hB (by rfl) (by kernel_rfl) (fun _ _ _ _ _ h => h) (by rfl) hS0 (fun W hI => by clear hI; go_simp) ?_; (try simp only [Act.put, List.setIfInBounds_toArray, List.set_cons_zero, List.set_cons_succ])
      refine wpH_take (i := 3) (v := .int .i64 next) hB (by rfl) (by kernel_rfl) (fun _ _ _ _ _ h => h) (by rfl) hS0 (fun W hI => by have q := (D0.out.sees (hI.sees_end (fun _ _ h => h))).c.2.2.2.1; clear hI; go_simp) ?_; (try simp only [Act.put, List.setIfInBounds_toArray, List.set_cons_zero, List.set_cons_succ])
      refine wpH_take (i := 4) (v := .pointer (some ⟨r, 0, none⟩)) hB (by rfl) (by kernel_rfl) (fun _ _ _ _ _ h => h) (by rfl) hS0 (fun W hI => by clear hI; go_simp) ?_; (try simp only [Act.put, List.setIfInBounds_toArray, List.set_cons_zero, List.set_cons_succ])
      refine wpH_take (i := 5) (v := .pointer (some ⟨r, 0, none⟩)) hB (by rfl) (by kernel_rfl) (fun _ _ _ _ _ h => h) (by rfl) hS0 (fun W hI => by clear hI; go_simp) ?_; (try simp only [Act.put, List.setIfInBounds_toArray, List.set_cons_zero, List.set_cons_succ])
      refine wpH_take (i := 6) (v := .pointer (some ⟨r, 2, none⟩)) hB (by rfl) (by kernel_rfl) (fun _ _ _ _ _ h => h) (by rfl) hS0 (fun W hI => by clear hI; go_simp) ?_; (try simp only [Act.put, List.setIfInBounds_toArray, List.set_cons_zero, List.set_cons_succ])
      refine wpH_take (i := 7) (v := .int .i64 f) hB (by rfl) (by kernel_rfl) (fun _ _ _ _ _ h => h) (by rfl) hS0 (fun W hI => by have q := (D0.out.sees (hI.sees_end (fun _ _ h => h))).c.2.2.1; clear hI; go_simp) ?_; (try simp only [Act.put, List.setIfInBounds_toArray, List.set_cons_zero, List.set_cons_succ])
      refine wpH_take (i := 8) (v := .int .i64 e0) hB (by rfl) (by kernel_rfl) (fun _ _ _ _ _ h => h) (by rfl) hS0 (fun W hI => by clear hI; go_simp) ?_; (try simp only [Act.put, List.setIfInBounds_toArray, List.set_cons_zero, List.set_cons_succ])
      refine wpH_take (i := 9) (v := .pointer (some ⟨r, 0, none⟩)) hB (by rfl) (by kernel_rfl) (fun _ _ _ _ _ h => h) (by rfl) hS0 (fun W hI => by clear hI; go_simp) ?_; (try simp only [Act.put, List.setIfInBounds_toArray, List.set_cons_zero, List.set_cons_succ])
      refine wpH_take (i := 10) (v := .pointer (some ⟨r, 0, none⟩)) hB (by rfl) (by kernel_rfl) (fun _ _ _ _ _ h => h) (by rfl) hS0 (fun W hI => by clear hI; go_simp) ?_; (try simp only [Act.put, List.setIfInBounds_toArray, List.set_cons_zero, List.set_cons_succ])
      refine wpH_take (i := 11) (v := .pointer (some ⟨r, 0, none⟩)) hB (by rfl) (by kernel_rfl) (fun _ _ _ _ _ h => h) (by rfl) hS0 (fun W hI => by clear hI; go_simp) ?_; (try simp only [Act.put, List.setIfInBounds_toArray, List.set_cons_zero, List.set_cons_succ])
      refine wpH_take (i := 12) (v := .int .i64 most) hB (by rfl) (by kernel_rfl) (fun _ _ _ _ _ h => h) (by rfl) hS0 (fun W hI => by have q := (D0.out.sees (hI.sees_end (fun _ _ h => h))).c.1; clear hI; go_simp) ?_; (try simp only [Act.put, List.setIfInBounds_toArray, List.set_cons_zero, List.set_cons_succ])
      refine wpH_take (i := 13) (v := .int .i64 q) hB (by rfl) (by kernel_rfl) (fun _ _ _ _ _ h => h) (by rfl) hS0 (fun W hI => by clear hI; go_simp) ?_; (try simp only [Act.put, List.setIfInBounds_toArray, List.set_cons_zero, List.set_cons_succ])
      refine wpH_take (i := 14) (v := .pointer (some ⟨r, 0, none⟩)) hB (by rfl) (by kernel_rfl) (fun _ _ _ _ _ h => h) (by rfl) hS0 (fun W hI => by clear hI; go_simp) ?_; (try simp only [Act.put, List.setIfInBounds_toArray, List.set_cons_zero, List.set_cons_succ])
      refine wpH_take (i := 15) (v := .pointer (some ⟨r, 0, none⟩)) hB (by rfl) (by kernel_rfl) (fun _ _ _ _ _ h => h) (by rfl) hS0 (fun W hI => by clear hI; go_simp) ?_; (try simp only [Act.put, List.setIfInBounds_toArray, List.set_cons_zero, List.set_cons_succ])
      refine wpH_take (i := 16) (v := .pointer (some ⟨r, 4, none⟩)) hB (by rfl) (by kernel_rfl) (fun _ _ _ _ _ h => h) (by rfl) hS0 (fun W hI => by clear hI; go_simp) ?_; (try simp only [Act.put, List.setIfInBounds_toArray, List.set_cons_zero, List.set_cons_succ])
      refine wpH_take (i := 17) (v := .slice (some ⟨b, 0, none⟩) N c0) hB (by rfl) (by kernel_rfl) (fun _ _ _ _ _ h => h) (by rfl) hS0 (fun W hI => by have q := (D0.out.sees (hI.sees_end (fun _ _ h => h))).c.2.2.2.2; clear hI; go_simp) ?_; (try simp only [Act.put, List.setIfInBounds_toArray, List.set_cons_zero, List.set_cons_succ])
      refine wpH_take (i := 18) (v := .pointer (some ⟨b, 0, none⟩)) hB (by rfl) (by kernel_rfl) (fun _ _ _ _ _ h => h) (by rfl) hS0 (fun W hI => by clear hI; go_simp) ?_; (try simp only [Act.put, List.setIfInBounds_toArray, List.set_cons_zero, List.set_cons_succ])
      refine wpH_take (i := 19) (v := .pointer (some ⟨p, 0, none⟩)) hB (by rfl) (by kernel_rfl) (fun _ _ _ _ _ h => h) (by rfl) hS0 (fun W hI => by have q := (hI.sees_end (fun _ _ h => h)).cell DC.out; clear hI; go_simp) ?_; (try simp only [Act.put, List.setIfInBounds_toArray, List.set_cons_zero, List.set_cons_succ])
      refine wpH_one (i := 20) (by kernel_rfl) (wpOp_enter (fn := 54) (args := #[.pointer (some ⟨p, 0, none⟩)]) (by rfl) (by rfl) (by go_simp) ((P4.out.toS.lenIs (m : Int) (by rw [HM.out])).mono ?_))
      rintro e W8 ⟨rfl, hs8⟩
      refine ⟨_, rfl, Keeps.of_sees hs8, ?_⟩
      (try simp only [Act.put, List.setIfInBounds_toArray, List.set_cons_zero, List.set_cons_succ])
      have S8 := Lib.hid (S4.out.trans hs8)
      have S48 := Lib.hid hs8
      clear hs8
      obtain ⟨t, ht⟩ : ∃ t : Nat, t = min q m := ⟨_, rfl⟩
      have hmin : (if m < q then (m : Int) else (q : Int)) = (t : Int) := by split <;> omega
      have HT1 := Lib.hid ht
      clear ht
      have hS0 : Keeps (fun _ => False) W8 W8 := Keeps.refl _ W8
      refine wpH_one (i := 21) (by kernel_rfl) (wpOp_val (v := .int .i64 t) (w' := W8) (by rfl) (wanted_none (by rfl) _) (by go_simp) ⟨Keeps.of_sees S48.out, ?_⟩)
      (try simp only [Act.put, List.setIfInBounds_toArray, List.set_cons_zero, List.set_cons_succ])
      refine wpH_one (i := 22) (by kernel_rfl) (wpOp_val (v := .int .i64 t) (w' := W8) (by rfl) (wanted_none (by rfl) _) (by go_simp) ⟨Keeps.of_sees S48.out, ?_⟩)
      (try simp only [Act.put, List.setIfInBounds_toArray, List.set_cons_zero, List.set_cons_succ])
      refine wpH_end (by kernel_rfl) ?_
      clear hmin
      have r4_ := (HA2.out.sees S8.out).c.2.2.2.2
      have p0 := S8.out.cell HC.out
      have ht1 : t ≤ m := by have := HT1.out; omega
      clear hS0 D0 DC P4 S4 S48
      go_wp2_with fail
      refine ((HPG.out.sees S8.out).drop t (by rw [← HM.out]; exact ht1)).mono ?_
      rintro e W10 ⟨rfl, hpg10, hk10⟩
      have hR10 := HB.out W10 { x with gone := x.gone + t, ls := x.ls.drop t } ((Keeps.of_sees S8.out).trans hk10) (by rw [show (⟨x.most, x.gone + t, x.ls.drop t⟩ : Pg).most = page from HX.out.1.most]; exact hpg10.page.mono (fun c _ h => by rcases h with h | h; exact .inl h; exact .inr (by have := S8.out.size; omega)))
      have hz : W.heap.size ≤ wr.heap.size := Hkp.out.size
      have hR11 := hR10.mono (G := fun b => F b ∨ W.heap.size ≤ b) (fun c _ h => by rcases h with h | h; exact h; exact .inr (by omega)) (fun c h => by rcases h with h | h; exact HL.out c h; have := HZ1.out; omega)
      simp only [List.set_cons_zero] at hR11
      have hk11 : Keeps F W W10 := Hkp.out.trans' ((Keeps.of_sees S8.out).trans' hk10 (fun c _ h => h)) (fun c hc h => by rcases (HFx.out c h).1 with h | h; exact h; omega)
      have HR11 := Lib.hid hR11
      have HK11 := Lib.hid hk11
      obtain ⟨b2, cap2, p2, Fx2, hA12, _, hc12, hpg12, hFx2, hFb2, _⟩ := hR11.page (i := 0) rfl (x := { x with gone := x.gone + t, ls := x.ls.drop t }) ⟨HX.out.1.most, by have := HX.out.1.gone0; show 0 ≤ x.gone + (t : Int); omega, by have h1 := HX.out.1.room; have h2 := HM.out; have h3 := HT1.out; show x.gone + (t : Int) + ((x.ls.drop t).length : Int) ≤ page; rw [List.length_drop]; omega, fun l hl => HX.out.1.ok l (List.mem_of_mem_drop hl)⟩ ⟨Hp0.out, Hp1.out⟩
      have HPG12 := Lib.hid (hpg12.keeps (Keeps.setCell (F := fun b => b = r) (Keeps.refl _ W10) (p := ⟨r, 2, none⟩) (fun _ => rfl) (.int .i64 (f + t))) (fun c hc e => (hFx2 c hc).2.1 e) (fun c e => by subst e; exact hR11.low _ hR11.fr))
      obtain ⟨q0, q1, r2, q3, r4⟩ := hA12.c
      have f2 := hA12.fr
      have hadd : IntKind.i64.wrap (f + (t : Int)) = f + (t : Int) := IntWalk.i64_in _ (by have := HFX.out; have := HML.out; omega)
      obtain ⟨N2, hN2⟩ : ∃ N2, N2 = (({ x with gone := x.gone + (t : Int), ls := x.ls.drop t } : Pg) :: rest).length := ⟨_, rfl⟩
      simp only [] at r4
      rw [← hN2] at r4
      have hN21 : 1 ≤ N2 := by rw [hN2]; simp
      have hne1 : b2 ≠ r := hFb2.2.1
      have hne2 : r ≠ b2 := hne1.symm
      clear hpg10 hk10 hR10 hR11 hz hk11 r4_ p0 ht1 HB HPG HC HA2 S8 q0 q1 q3 hpg12 hFx2 hFb2 hN2 hA12
      go_wp2_with fail
      refine (HPG12.out.toS.lenIs ((m - t : Nat) : Int) (by show ((x.ls.drop t).length : Int) = _; rw [List.length_drop, ← HM.out])).mono ?_
      rintro e W13 ⟨rfl, hs13⟩
      have HR13 := Lib.hid ((HR11.out.set2 (f + t)).sees hs13)
      have HK13 := Lib.hid ((HK11.out.setCell (p := ⟨r, 2, none⟩) (fun _ => HR.out) (.int .i64 (f + t))).trans (Keeps.of_sees hs13))
      clear r2 f2 hadd hs13 HR11 HK11 HPG12 hc12 r4 hN21 hne1 hne2
      by_cases hmt : m = t
      · have t3 : (((m - t : Nat) : Int) == 0) = true := beq_iff_eq.2 (by omega)
        have HMT := Lib.hid hmt
        clear hmt
        obtain ⟨b3, c3, Fn, news, hA13, hc13, hown, hFn, hnews⟩ := HR13.out.tail rfl
        have r4 := hA13.c.2.2.2.2
        have f4 := hA13.fr
        obtain ⟨N3, hN3⟩ : ∃ N3, N3 = rest.length := ⟨_, rfl⟩
        rw [← hN3] at r4 hc13
        have HN3 := Lib.hid hN3
        have HA13 := Lib.hid hA13
        have HO13 := Lib.hid hown
        have HNW := Lib.hid hnews
        have HcN : Hid (∀ b, Fn b → b < W13.heap.size ∧ ¬ False) := Lib.hid (fun b hb => ⟨(hFn b hb).2.2, fun h => h⟩)
        have HFn := Lib.hid hFn
        have HcL : Hid (([] : List Pg).length + rest.length ≤ 100000000) := Lib.hid (by
          have h1 := ps_le (fun p hp => (Hqs.out p (List.mem_cons_of_mem x hp)).2)
          have h2 := Hql.out
          have h3 := HFW.out
          rw [linesP_cons, List.length_append] at h2
          rw [List.length_nil]; omega)
        have HS13 := Lib.hid (Sees.refl W13)
        clear hA13 hN3 hown hFn hnews
        by_cases hc31 : c3 = 1
        · have hN0 : N3 = 0 := by omega
          have hrest : rest = [] := List.length_eq_zero_iff.1 (HN3.out.symm.trans hN0)
          have hnw : ∀ (j : Nat) u, news[j]? = some u → W13.cell? ((⟨b3, 0, none⟩ : Addr).add j) = some u := by
            have h1 := HO13.out
            rw [hrest] at h1
            have h2 : news = [] := h1
            intro j u hu
            rw [h2] at hu
            cases hu
          have HNW0 := Lib.hid hnw
          clear hnw hrest hc13
          subst hN0
          subst hc31
          go_wp2_with (at_builtin; refine El.wpList_append_own (v := .slice none 0 0) typedPg rfl (.const (.slice none 0 0)) (.tmp 76) rfl (by go_simp) (El.Own.nil (fun _ => False) _) ⟨b3, 0, none⟩ 0 0 (by go_simp) news rest Fn HO13.out HN3.out HNW0.out (fun b h => h.elim) HcN.out HcL.out ?_; intro v7 w7 ho7 hk7; obtain ⟨a7, c7, rfl, _⟩ := ho7.slice; have hs7 : Sees W13 w7 := hk7.sees_end (fun _ _ h => by cases h); have r47 := (HA13.out.sees hs7).c.2.2.2.2; have f47 := (HA13.out.sees hs7).fr)
          have HS7 := Lib.hid hs7
          have HO7 := Lib.hid ho7
          have HFR7 := Lib.hid HR13.out.fr
          clear r47 f47 hs7 ho7 hk7
          have hlow : ∀ c, c < W13.heap.size ∨ W13.heap.size ≤ c := fun c => by omega
          have hz13 : W.heap.size ≤ W13.heap.size := HK13.out.size
          have hr13 := HR13.out.lt
          have hR7 := (HR13.out.sees HS7.out).set4 _ rest (HO7.out.mono (fun c _ h => by
            rcases h with h | h | h
            · exact h.elim
            · exact ⟨(HFn.out c h).1, (HFn.out c h).2.1⟩
            · exact ⟨.inr (by omega), by omega⟩))
          have hk7 : ∀ v, Keeps F W (w7.setCell ⟨r, 4, none⟩ v) := fun v => (HK13.out.trans (Keeps.of_sees HS7.out)).setCell (p := ⟨r, 4, none⟩) (fun _ => HR.out) v
          have h1 := HT1.out
          have h2 := HMT.out
          have h3 := HQ.out
          have h4 := HM1.out
          have h5 := HJK.out
          have h6 := HJ2.out
          refine ⟨⟨j + m, rest, by omega, ?_, ?_, fun c hc => Hqs.out c (List.mem_cons_of_mem _ hc), ?_, hk7 _⟩, ?_⟩
          · rw [show first + ((j + m : Nat) : Int) = f + (t : Int) by rw [Hf.out]; omega]; exact hR7
          · rw [← Hdr.out]
            simp only [dropF]
            rw [if_neg (by omega), if_neg (by rw [← HM.out]; omega), ← HM.out, show k - (j + m) = k - j - m by omega]
          · have := Hql.out
            rw [linesP_cons, List.length_append, ← HM.out] at this
            omega
          · obtain ⟨_, _, h8, _⟩ := hR7.words
            have h9 := h8.ringFirst
            simp only [List.nil_append] at h9
            rw [h9, Hmeas.out]
            show (first + (k : Int) - (f + (t : Int))).toNat < (first + (k : Int) - (first + (j : Int))).toNat
            have := Hf.out
            omega
        · have HNW1 : Hid (∀ (j : Nat) u, news[j]? = some u → W13.cell? ((⟨b3, 1, none⟩ : Addr).add j) = some u) := HNW
          go_wp2_with (at_builtin; refine El.wpList_append_own (v := .slice none 0 0) typedPg rfl (.const (.slice none 0 0)) (.tmp 76) rfl (by go_simp) (El.Own.nil (fun _ => False) _) ⟨b3, 1, none⟩ N3 (c3 - 1) (by go_simp) news rest Fn HO13.out HN3.out HNW1.out (fun b h => h.elim) HcN.out HcL.out ?_; intro v7 w7 ho7 hk7; obtain ⟨a7, c7, rfl, _⟩ := ho7.slice; have hs7 : Sees W13 w7 := hk7.sees_end (fun _ _ h => by cases h); have r47 := (HA13.out.sees hs7).c.2.2.2.2; have f47 := (HA13.out.sees hs7).fr)
          have HS7 := Lib.hid hs7
          have HO7 := Lib.hid ho7
          have HFR7 := Lib.hid HR13.out.fr
          clear r47 f47 hs7 ho7 hk7
          have hlow : ∀ c, c < W13.heap.size ∨ W13.heap.size ≤ c := fun c => by omega
          have hz13 : W.heap.size ≤ W13.heap.size := HK13.out.size
          have hr13 := HR13.out.lt
          have hR7 := (HR13.out.sees HS7.out).set4 _ rest (HO7.out.mono (fun c _ h => by
            rcases h with h | h | h
            · exact h.elim
            · exact ⟨(HFn.out c h).1, (HFn.out c h).2.1⟩
            · exact ⟨.inr (by omega), by omega⟩))
          have hk7 : ∀ v, Keeps F W (w7.setCell ⟨r, 4, none⟩ v) := fun v => (HK13.out.trans (Keeps.of_sees HS7.out)).setCell (p := ⟨r, 4, none⟩) (fun _ => HR.out) v
          have h1 := HT1.out
          have h2 := HMT.out
          have h3 := HQ.out
          have h4 := HM1.out
          have h5 := HJK.out
          have h6 := HJ2.out
          refine ⟨⟨j + m, rest, by omega, ?_, ?_, fun c hc => Hqs.out c (List.mem_cons_of_mem _ hc), ?_, hk7 _⟩, ?_⟩
          · rw [show first + ((j + m : Nat) : Int) = f + (t : Int) by rw [Hf.out]; omega]; exact hR7
          · rw [← Hdr.out]
            simp only [dropF]
            rw [if_neg (by omega), if_neg (by rw [← HM.out]; omega), ← HM.out, show k - (j + m) = k - j - m by omega]
          · have := Hql.out
            rw [linesP_cons, List.length_append, ← HM.out] at this
            omega
          · obtain ⟨_, _, h8, _⟩ := hR7.words
            have h9 := h8.ringFirst
            simp only [List.nil_append] at h9
            rw [h9, Hmeas.out]
            show (first + (k : Int) - (f + (t : Int))).toNat < (first + (k : Int) - (first + (j : Int))).toNat
            have := Hf.out
            omega
      · have t3 : (((m - t : Nat) : Int) == 0) = false := beq_eq_false_iff_ne.2 (by have := HT1.out; omega)
        have HMT := Lib.hid hmt
        clear hmt
        go_wp2
        have h1 := HT1.out
        have h2 := HMT.out
        have h3 := HQ.out
        have h4 := HM1.out
        have h5 := HJK.out
        have h6 := HJ2.out
        have htq : t = k - j := by omega
        have hjt : j + t = k := by have := HJK.out; omega
        refine ⟨⟨k, { x with gone := x.gone + (t : Int), ls := x.ls.drop t } :: rest, Nat.le_refl _, ?_, ?_, ?_, ?_, HK13.out⟩, ?_⟩
        · rw [show first + (k : Int) = f + (t : Int) by rw [Hf.out]; omega]; exact HR13.out
        · rw [Nat.sub_self, dropF_zero, ← Hdr.out]
          simp only [dropF]
          rw [if_neg (by omega), if_pos (by rw [← HM.out]; omega), htq]
        · have := Hqs.out.dropF (k - j)
          simp only [Go.Proofs.YthjcnhgfagefjaaDoor.dropF] at this
          rw [if_neg (by omega), if_pos (by rw [← HM.out]; omega), ← htq] at this
          exact this
        · have := Hql.out
          rw [linesP_cons, List.length_append] at this ⊢
          simp only [List.length_drop]
          rw [← HM.out] at this ⊢
          omega
        · obtain ⟨_, _, h5, _⟩ := HR13.out.words
          rw [h5.ringFirst, Hmeas.out]
          show (first + (k : Int) - (f + (t : Int))).toNat < (first + (k : Int) - (first + (j : Int))).toNat
          have := Hf.out
          omega
end
end Go.Proofs.YthjcnhgfagefjaaDoor

namespace Go.Proofs.YthjcnhgfagefjaaDoor
set_option linter.unusedVariables false
set_option linter.unusedSimpArgs false
open Go.RowKit Go.Shelf
attribute [local go_sem] Oper.semAt_some

theorem El.wpListIn_append_own {α : Type} {E : El α} {st : TypeId} {Fe : Fence} {n : Nat} {F : Nat → Prop} {W : World} {v : Value} {xs : List α} {ops : Array Oper} {rest : List Oper} {o : Oper} {a : Act} {Q : Exit → Act → World → Prop} (T : El.Typed Tryd.prog E st) (hgd : o.guard = none) (s x : Operand) (ho : o.op = .call { callee := .builtin .append, args := #[s, x], argTypes := #[st, st] }) (hs : a.eval s = v) (h : E.Own F W v xs)
    (ad : Addr) (m c : Nat) (hx : a.eval x = .slice (some ad) m c) (news : List Value) (ys : List α) (Fn : Nat → Prop) (hown : E.ownIn Fn W news ys) (hm : m = ys.length) (hnews : ∀ j u, news[j]? = some u → W.cell? (ad.add j) = some u)
    (hF : ∀ b, F b → b < W.heap.size) (hFn : ∀ b, Fn b → b < W.heap.size ∧ ¬ F b) (hn : xs.length + ys.length ≤ 100000000)
    (hQ : ∀ v' W', E.Own (fun b => F b ∨ Fn b ∨ W.heap.size ≤ b) W' v' (xs ++ ys) → Keeps (fun b => v.ownBlock = some b) W W' → wpListIn Fe n Tryd.prog ops Q rest (a.put o.dst v') W') : wpListIn Fe n Tryd.prog ops Q (o :: rest) a W := by
  obtain ⟨v', W', h1, h2, h3⟩ := El.run_append_own T o.type h ad m c news ys Fn hown hm hnews hF hFn hn
  refine wpListIn_plain hgd fun K hK' => ?_
  unfold Oper.wpIn
  refine ⟨?_, ?_⟩
  · simp [Oper.about, ho, resolve, Target.leads, Sem.run_pure]
  · rw [Oper.semAt_plain Fe _ _ (by rw [ho]; intro c hc'; cases hc')]
    simp [execOp, ho, resolve, invoke, builtin, hs, hx, h1, Result.andThen]
    exact hK' _ _ (hQ v' W' h2 h3)
/-- A variable's block. -/
def Bx (W : World) (b : Nat) (t : TypeId) (v : Value) : Prop := W.heap[b]? = some (.cells #[v] t (0, 0))
namespace Bx
variable {W W' : World} {b : Nat} {t : TypeId} {v : Value}
theorem lt (h : Bx W b t v) : b < W.heap.size := (Array.getElem?_eq_some_iff.1 h).1
theorem c (h : Bx W b t v) : W.cell? ⟨b, 0, none⟩ = some v := by rw [cell_of_row _ _ _ _ _ _ h]; rfl
theorem fr (h : Bx W b t v) : W.frozen? ⟨b, 0, none⟩ = false := frozen_of_row W b 0 _ _ h
theorem keeps {F : Nat → Prop} (h : Bx W b t v) (hk : Keeps F W W') (hF : ¬ F b) : Bx W' b t v := by
  unfold Bx; rw [hk.block _ h.lt hF]; exact h
theorem sees (h : Bx W b t v) (hs : Sees W W') : Bx W' b t v := h.keeps (Keeps.of_sees (F := fun _ => False) hs) (fun h => h)
theorem new {n : Nat} (hn : n = W.heap.size) : Bx (W.alloc (.cells #[v] t)) n t v := by subst hn; exact heap_alloc_new W _
theorem set (h : Bx W b t v) (x : Value) : Bx (W.setCell ⟨b, 0, none⟩ x) b t x := heap_setCell_same W b 0 _ _ x h
theorem other {c : Nat} (h : Bx W b t v) (hne : b ≠ c) (x : Value) : Bx (W.setCell ⟨c, 0, none⟩ x) b t v := h.keeps (Keeps.setCell (F := fun y => y = c) (Keeps.refl _ W) (p := ⟨c, 0, none⟩) (fun _ => rfl) x) hne
end Bx
/-- A function that went over a function returns. -/
theorem marks_ret {fn : Func} {R : Ending → World → Prop} {a : Act} {w : World} {D : Nat} {v : Value} (hd : a.defers = [{ target := .collected D, args := #[] }]) (hD : w.heap[D]? = some (.deferred (some [])))
    (hr : (results fn a.tmps).run Tryd.prog (w.putObj D (.deferred none)) = .ok v (w.putObj D (.deferred none))) (hR : R (.returned v) (w.putObj D (.deferred none))) : bodyPostM Fence.wide 0 Tryd.prog fn R .ret a w := by
  show LeavesInM _ _ _ _ _ _ a.defers _ _
  rw [hd]
  exact ⟨by simp, .inl ⟨D, _, rfl, run_takeDeferred hD, v, hr, hR⟩⟩

/-- The pages of a ring, as words. -/
structure PgsAt (W : World) (r : Nat) (n : Nat) (av : Option Addr) (c : Nat) (pp : Nat → Nat) : Prop where
  ring : W.cell? ⟨r, 4, none⟩ = some (.slice av n c)
  pages : ∀ j, j < n → ∃ b, av = some ⟨b, 0, none⟩ ∧ W.cell? ⟨b, j, none⟩ = some (.pointer (some ⟨pp j, 0, none⟩))

set_option maxRecDepth 100000 in
set_option maxHeartbeats 2000000 in
theorem pages_in (r n : Nat) (av : Option Addr) (c : Nat) (pp : Nat → Nat) (hn : n ≤ 1000000000) (l : Nat) (J : Nat → World → Prop) (hJ : ∀ j W, J j W → PgsAt W r n av c pp)
    (hY : ∀ j W, j < n → J j W → YieldAt Fence.wide 0 Tryd.prog l #[.pointer (some ⟨pp j, 0, none⟩)] W fun e W' => e = .returned (.bool true) ∧ J (j + 1) W') (W : World) (h0 : J 0 W) :
    CallsIn Fence.wide 0 Tryd.prog 49 #[.pointer (some ⟨r, 0, none⟩), .func (.yield l) #[] #[]] W fun e W' => e = .returned (.tuple #[]) ∧ J n W' := by
  have H0 := Lib.hid h0
  have c4 := (hJ 0 W h0).ring
  have HY := Lib.hid hY
  have HJ := Lib.hid hJ
  clear hY hJ h0
  refine callsIn_of_wp Tryd.func49 rfl trivial ?_ rfl
  simp only [Tryd.ntmps49, List.size_toArray, List.length_cons, List.length_nil, Nat.reduceAdd, Nat.reduceSub, Array.replicate_succ, Array.replicate_zero, List.push_toArray, List.append_toArray, List.nil_append, List.cons_append]
  gi_wp2
  gi_loopw [11] (fun i wr => ∃ k : Nat, k ≤ n ∧ i = .int .i64 k ∧ J k wr) (fun i _ => n - (intOf i).toNat)
  case atStart => exact ⟨0, Nat.zero_le _, rfl, H0.out⟩
  case round =>
    obtain ⟨k, hk, rfl, hj⟩ := hrel
    by_cases hlt : k < n
    · obtain ⟨b, rfl, hc⟩ := (HJ.out k wr hj).pages k hlt
      obtain ⟨fn, tmps, assign, body, hy, hR⟩ := HY.out k wr hlt hj
      clear hj
      gi_wp2
      refine ⟨rfl, hR.mono ?_⟩
      rintro e W3 ⟨rfl, hJ3⟩
      gi_wp2
      go_roundw
      case rel => exact ⟨k + 1, by omega, by go_num, hJ3⟩
      case measure => simp [intOf]; omega
    · obtain rfl : k = n := by omega
      gi_wp2
      go_end0
      exact ⟨rfl, hj⟩

/-- How a round may end: it goes on. -/
def onward (R : World → Prop) : Exit → Act → World → Prop
  | .normal, _, W' => R W'
  | _, _, _ => False

/-- 'for s := range r.pages'. -/
theorem wp_pages {g : Operand} {ps : Array Tmp} {assign body : Code} {Q : Exit → Act → World → Prop} {a : Act} {w : World} (r n : Nat) (av : Option Addr) (c : Nat) (pp : Nat → Nat) (hn : n ≤ 1000000000)
    (hg : a.eval g = .func (.func 49) #[.pointer (some ⟨r, 0, none⟩)] #[]) (hps : ps.size = 1)
    (I : Nat → World → Prop) (hI : ∀ j W W', I j W → Keeps (fun b => b = w.heap.size ∨ b = w.heap.size + 1) W W' → I j W') (hIp : ∀ j W, I j W → PgsAt W r n av c pp) (h0 : I 0 w)
    (hround : ∀ (l j : Nat) (W : World), j < n → assign.wpIn (Fence.wide.inRound l) 0 Tryd.prog (Exit.then (fun a₁ w₁ => w₁ = W ∧ ∀ W', I j W' → w.heap.size + 2 ≤ W'.heap.size → body.wpIn (Fence.wide.inRound l) 0 Tryd.prog (onward fun W'' => I (j + 1) W'' ∧ Keeps (fun b => b ≠ w.heap.size ∧ b ≠ w.heap.size + 1) W' W'') a₁ W') (fun _ _ _ => False)) { tmps := (ps.zip #[.pointer (some ⟨pp j, 0, none⟩)]).foldl (fun t (p, v) => t.setIfInBounds p v) a.tmps, defers := [] } W)
    (hdone : ∀ W, I n W → W.heap[w.heap.size]? = some (.deferred (some [])) → Q .normal { a with defers := { target := .collected w.heap.size, args := #[] } :: a.defers } W) :
    (Code.rangeFunc g ps assign body).wp Tryd.prog Q a w := by
  refine wpIn_wide (n := 0) |>.1 (wpIn_rangeFunc ?_)
  intro fn _
  obtain ⟨rec, hrec⟩ : ∃ rec : LoopState → Loop, rec = fun st => { state := st, pending := none, fn, tmps := a.tmps, params := ps, assign, body, defers := w.heap.size } := ⟨_, rfl⟩
  obtain ⟨W1, hW1⟩ : ∃ W1, W1 = (w.alloc (.deferred (some []))).alloc (.loop (rec .ready)) := ⟨_, rfl⟩
  have hs1 : Sees w W1 := by rw [hW1]; exact ((Sees.refl w).alloc _).alloc _
  have hz1 : W1.heap.size = w.heap.size + 2 := by rw [hW1, World.size_alloc, World.size_alloc]
  have hL1 : W1.heap[w.heap.size + 1]? = some (.loop (rec .ready)) := by
    have := World.alloc_heap_new (w.alloc (.deferred (some []))) (.loop (rec .ready))
    rw [World.size_alloc] at this
    rw [hW1]; exact this
  have hD1 : W1.heap[w.heap.size]? = some (.deferred (some [])) := by
    rw [hW1, Below.heap_alloc _ _ _ (by simp)]; exact World.alloc_heap_new w _
  have hput : ∀ (W : World) (l : Nat) (o : Obj), (l = w.heap.size ∨ l = w.heap.size + 1) → Keeps (fun b => b = w.heap.size ∨ b = w.heap.size + 1) W (W.putObj l o) := fun W l o hl =>
    ⟨rfl, rfl, rfl, by rw [World.putObj_size]; exact Nat.le_refl _, fun b _ hb => World.putObj_heap_other (fun e => hb (by subst e; exact hl))⟩
  refine ⟨w.heap.size + 1, [{ target := .collected w.heap.size, args := #[] }], W1, { target := .fn (.func 49) #[], args := #[.pointer (some ⟨r, 0, none⟩), .func (.yield (w.heap.size + 1)) #[] #[]] }, W1, 49,
    #[.pointer (some ⟨r, 0, none⟩), .func (.yield (w.heap.size + 1)) #[] #[]], W1, ?_, ?_, fun _ _ => trivial, ?_, fun h => (by cases h), ?_⟩
  · rw [hW1, hrec]; exact run_enterLoop_outer _ _ _ _ _
  · simp only [resolve, rangeCall, hg]
    simp [go_sem]
  · simp [invoke, go_sem, enters_of (P := Tryd.prog) Tryd.func49 (by kernel_rfl) rfl]
  · refine (pages_in r n av c pp hn (w.heap.size + 1) (fun j W => I j W ∧ W.heap[w.heap.size + 1]? = some (.loop (rec .ready)) ∧ W.heap[w.heap.size]? = some (.deferred (some [])) ∧ w.heap.size + 2 ≤ W.heap.size)
      (fun j W h => hIp j W h.1) ?_ W1 ⟨hI 0 w W1 h0 (Keeps.of_sees hs1), hL1, hD1, by omega⟩).mono ?_
    · rintro j W hj ⟨hi, hl, hd, hz⟩
      have hy := run_yield (P := Tryd.prog) (args := #[.pointer (some ⟨pp j, 0, none⟩)]) hl (by rw [hrec]; simp [hps])
      rw [hrec] at hy
      have hk1 := hput W (w.heap.size + 1) (.loop { rec .ready with state := .busy }) (.inr rfl)
      have hl2 : (W.putObj (w.heap.size + 1) (.loop { rec .ready with state := .busy })).heap[w.heap.size + 1]? = some (.loop { rec .ready with state := .busy }) := World.putObj_heap_same (by omega)
      have hd2 : (W.putObj (w.heap.size + 1) (.loop { rec .ready with state := .busy })).heap[w.heap.size]? = some (.deferred (some [])) := (World.putObj_heap_other (by omega)).trans hd
      refine ⟨fn, _, assign, body, hy, roundIn_of_wpIn trivial (wpIn_mono (hround _ j W hj) ?_)⟩
      rintro e a1 w1 hq
      cases e with
      | exit id => exact hq
      | goto t => exact hq
      | ret => exact hq
      | panic ch => exact hq
      | outgrown => exact hq
      | normal =>
      obtain ⟨rfl, hb⟩ := hq
      refine ⟨_, run_beginRound hl (by rw [hrec]), ?_⟩
      refine wpIn_mono (hb _ (hI j _ _ hi hk1) (by rw [World.putObj_size]; exact hz)) ?_
      rintro e a3 W3 hp
      cases e with
      | normal =>
        obtain ⟨hi3, hk3⟩ := hp
        have hl3 := (hk3.block _ (Array.getElem?_eq_some_iff.1 hl2).1 (fun h => h.2 rfl)).trans hl2
        have hd3 := (hk3.block _ (Array.getElem?_eq_some_iff.1 hd2).1 (fun h => h.1 rfl)).trans hd2
        have hz3 := hk3.size
        rw [World.putObj_size] at hz3
        have he := run_endRound (P := Tryd.prog) none hl3
        refine ⟨_, _, he, rfl, hI _ _ _ hi3 (hput W3 (w.heap.size + 1) _ (.inr rfl)), ?_, (World.putObj_heap_other (by omega)).trans hd3, by rw [World.putObj_size]; omega⟩
        rw [World.putObj_heap_same (Array.getElem?_eq_some_iff.1 hl3).1, hrec]; rfl
      | ret => exact hp.elim
      | exit id => exact hp.elim
      | goto t => exact hp.elim
      | panic ch => exact hp.elim
      | outgrown => exact hp.elim
    · rintro e W2 ⟨rfl, hi, hl, hd, hz⟩
      have he := run_endLoop (P := Tryd.prog) hl (by rw [hrec]; simp)
      rw [hrec] at he
      exact ⟨none, _, he, hdone _ (hI _ _ _ hi (hput W2 (w.heap.size + 1) _ (.inr rfl))) ((World.putObj_heap_other (by omega)).trans hd)⟩
end Go.Proofs.YthjcnhgfagefjaaDoor

namespace Go.Proofs.YthjcnhgfagefjaaDoor
set_option linter.unusedVariables false
set_option linter.unusedSimpArgs false
open Go.RowKit

namespace El
variable {α : Type} {E : El α} {F G : Nat → Prop} {w W : World} {v : Value} {vs : List Value} {xs : List α}
theorem ownIn_take : ∀ {xs : List α} {vs : List Value} {F : Nat → Prop} (k : Nat), E.ownIn F w vs xs → E.ownIn F w (vs.take (k * E.n)) (xs.take k)
  | [], vs, F, k, h => by
    have h : vs = [] := h
    subst h
    simp [ownIn]
  | x :: xs, vs, F, 0, h => by simp [ownIn]
  | x :: xs, vs, F, k + 1, h => by
    obtain ⟨F1, F2, h1, h2, h3, h4, h5⟩ := h
    have ih := ownIn_take (xs := xs) (vs := vs.drop E.n) (F := F2) k h5
    refine ⟨F1, F2, h1, h2, h3, ?_, ?_⟩
    · rw [List.take_take, Nat.min_eq_left (by rw [Nat.add_mul]; omega)]; exact h4
    · rw [List.drop_take, show (k + 1) * E.n - E.n = k * E.n by rw [Nat.add_mul, Nat.one_mul, Nat.add_sub_cancel]]; exact ih
/-- The first data of a slice of the call's own. -/
theorem Own.take {b n c : Nat} (h : E.Own F w (.slice (some ⟨b, 0, none⟩) n c) xs) (k : Nat) (hk : k ≤ xs.length) : E.Own F w (.slice (some ⟨b, 0, none⟩) k c) (xs.take k) := by
  obtain ⟨vals, ⟨hl, hrow⟩, hF, hin⟩ := h
  rcases hrow with ⟨h, _⟩ | ⟨b', cap, cur, hv, h0, hg, hc1, hc2, hsz, htk⟩
  · cases h
  cases hv
  have e : (xs.take k).length = k := by rw [List.length_take]; omega
  refine ⟨vals.take (k * E.n), ⟨?_, .inr ⟨b, c, cur, by rw [e], h0, hg, by omega, hc2, hsz, ?_⟩⟩, hF, ownIn_take k hin⟩
  · rw [List.length_take, e, hl]; exact Nat.min_eq_left (Nat.mul_le_mul_right _ hk)
  · rw [e, ← htk, List.take_take, Nat.min_eq_left (Nat.mul_le_mul_right _ hk)]
/-- One datum is turned, and may give memory away. -/
theorem Own.grow2 (h : E.Own F w v xs) {i : Nat} {x : α} (hx : xs[i]? = some x) : ∃ (b cap : Nat) (Fx : Nat → Prop) (vs : List Value), v = .slice (some ⟨b, 0, none⟩) xs.length cap ∧ xs.length ≤ cap ∧ F b ∧ b < w.heap.size ∧ (∀ c, Fx c → F c ∧ c ≠ b ∧ c < w.heap.size) ∧ E.own Fx w vs x ∧ vs.length = E.n ∧
    (∀ (j : Nat) u, vs[j]? = some u → w.cell? ⟨b, i * E.n + j, none⟩ = some u) ∧
    ∀ (W' : World) (x' : α) (Fy : Nat → Prop), (∀ c, Fy c → Fx c ∨ w.heap.size ≤ c) → Keeps Fx w W' → E.own Fy W' vs x' → E.Own (fun c => (F c ∧ c < w.heap.size ∧ ¬ Fx c) ∨ Fy c) W' v (xs.set i x') := by
  obtain ⟨b, cap, cur, Fx, Fr, vs, hv, hc, hFb, hFx, hFr, hg, hown, hvl, hvc, hback⟩ := h.cut.focus hx
  refine ⟨b, cap, Fx, vs, hv, hc, hFb.1, hFb.2, fun c hc => ⟨(hFx c hc).1.1, (hFx c hc).2, (hFx c hc).1.2⟩, hown, hvl, fun j u hu => by rw [cell_of_row _ _ _ _ _ _ hg]; exact hvc j u hu, fun W' x' Fy hy hk ho => ?_⟩
  refine (hback Fx W' cur Fy vs x' ?_ (turned_same hvc) hk (fun c hc => (hFr c hc).2.2) ho (fun c hc => ?_)).mono ?_
  · rw [hk.block _ (Array.getElem?_eq_some_iff.1 hg).1 (fun hz => (hFx b hz).2 rfl)]; exact hg
  · rcases hy c hc with hc | hc
    · exact ⟨(hFx c hc).2, fun h => (hFr c h).2.2 hc⟩
    · exact ⟨fun e => by have := hFb.2; omega, fun h => by have := (hFr c h).1.2; omega⟩
  · rintro c _ (h | h | h)
    · subst h; exact .inl ⟨hFb.1, hFb.2, fun h => (hFx c h).2 rfl⟩
    · exact .inl ⟨(hFr c h).1.1, (hFr c h).1.2, (hFr c h).2.2⟩
    · exact .inr h
end El

section
variable {w1 W : World} {F : Nat → Prop} {r : Nat} {d : RD}
theorem RiM.page2 (h : RiM w1 F W r d) {i : Nat} {x : Pg} (hi : d.ps[i]? = some x) (hx : PgOk d.page x) (hp : 1 ≤ d.page ∧ d.page ≤ 1024) :
    ∃ (b cap p : Nat) (Fx : Nat → Prop), RiAt W r d.most d.page d.first d.next (.slice (some ⟨b, 0, none⟩) d.ps.length cap) ∧ d.ps.length ≤ cap ∧ W.cell? ⟨b, i, none⟩ = some (.pointer (some ⟨p, 0, none⟩)) ∧ PgF w1 Fx W p d.page x.gone x.ls ∧ (∀ c, Fx c → F c ∧ c ≠ r ∧ c ≠ b ∧ c < W.heap.size) ∧
      ∀ (W' : World) (x' : Pg) (Fy : Nat → Prop), (∀ c, Fy c → Fx c) → Keeps Fx W W' → Page Fy W' p x'.most x'.gone x'.ls → RiM w1 (fun c => F c ∧ (Fx c → Fy c)) W' r { d with ps := d.ps.set i x' } := by
  obtain ⟨v, h1, h2⟩ := h.mem
  obtain ⟨b, cap, Fx, vs, rfl, hc, hFb, hbl, hFx, ⟨p, rfl, hpg⟩, -, hcell, hback⟩ := h2.grow2 hi
  have hx1 := hx.most
  have hc0 := hcell 0 _ rfl
  rw [show pgEl.n = 1 from rfl, Nat.mul_one, Nat.add_zero] at hc0
  refine ⟨b, cap, p, Fx, h1, hc, hc0, ⟨h.see, hx1 ▸ hpg, fun c hc => h.low c (hFx c hc).1.1, by omega, by omega, hx.gone0, hx.room, hx.ok⟩, fun c hc => ⟨(hFx c hc).1.1, (hFx c hc).1.2, (hFx c hc).2⟩, fun W' x' Fy hy hk hpg' => ?_⟩
  have ho := hback W' x' Fy (fun c hc => .inl (hy c hc)) hk ⟨p, rfl, hpg'⟩
  refine ⟨((Keeps.of_sees (F := fun _ => False) h.see).trans' hk (fun c hc e => by have := h.low c (hFx c e).1.1; omega)).sees_end (fun _ _ h => h), ⟨h.fr, fun e => absurd rfl (hFx r e).1.2⟩, fun c hc => h.low c hc.1, _, h1.keeps hk (fun e => (hFx r e).1.2 rfl), ho.mono (fun c _ hc => ?_)⟩
  rcases hc with ⟨hc, _, hn⟩ | hc
  · exact ⟨⟨hc.1, fun e => absurd e hn⟩, hc.2⟩
  · exact ⟨⟨(hFx c (hy c hc)).1.1, fun _ => hc⟩, (hFx c (hy c hc)).1.2⟩
end

theorem rnew_bad (most page : Int) (w : World) (h : decide (most < 0) = true ∨ (decide (most < 0) = false ∧ decide (most > 1048576) = true) ∨ (decide (most < 0) = false ∧ decide (most > 1048576) = false ∧ decide (page < 1) = true) ∨ (decide (most < 0) = false ∧ decide (most > 1048576) = false ∧ decide (page < 1) = false ∧ decide (page > 1024) = true)) :
    Calls Tryd.prog 6 #[.int .i64 most, .int .i64 page] w fun e w' => e = .returned (.tuple #[.pointer none, .int .i64 2]) ∧ Sees w w' := by
  have hw := Sees.refl w
  rcases h with h1 | ⟨h1, h2⟩ | ⟨h1, h2, h3⟩ | ⟨h1, h2, h3, h4⟩
  all_goals
    go_enter Tryd.func6, Tryd.ntmps6
    (try have h2' : decide (1048576 < most) = _ := h2)
    (try have h4' : decide (1024 < page) = _ := h4)
    go_wp2
    go_ret2
    exact ⟨rfl, hw⟩
theorem rnew_ok (most page : Int) (w : World) (h0 : 0 ≤ most) (h1 : most ≤ 1048576) (h2 : 1 ≤ page) (h3 : page ≤ 1024) :
    Calls Tryd.prog 6 #[.int .i64 most, .int .i64 page] w fun e w' => e = .returned (.tuple #[.pointer (some ⟨w.heap.size, 0, none⟩), .int .i64 0]) ∧ RiM w (fun b => b = w.heap.size) w' w.heap.size ⟨most, page, 0, 0, []⟩ := by
  have d1 : decide (most < 0) = false := decide_eq_false (by omega)
  have d2 : decide (most > 1048576) = false := decide_eq_false (by omega)
  have d2' : decide (1048576 < most) = false := d2
  have d3 : decide (page < 1) = false := decide_eq_false (by omega)
  have d4 : decide (page > 1024) = false := decide_eq_false (by omega)
  have d4' : decide (1024 < page) = false := d4
  have hw := Sees.refl w
  clear h0 h1 h2 h3
  go_enter Tryd.func6, Tryd.ntmps6
  go_wp2
  go_ret2
  exact ⟨rfl, hw.alloc _, rfl, fun b hb => Nat.le_of_eq hb.symm, .slice none 0 0, RiAt.new rfl, El.Own.nil _ _⟩
end Go.Proofs.YthjcnhgfagefjaaDoor

namespace Go.Proofs.YthjcnhgfagefjaaDoor
set_option linter.unusedVariables false
set_option linter.unusedSimpArgs false
open Go.RowKit

theorem RD.over_eq (d : RD) (hd : d.Ok) : d.over = ((linesP d.ps).length - d.most.toNat) := by
  unfold RD.over
  have := hd.tot
  have := hd.most0
  omega
section
variable {w1 W : World} {F G : Nat → Prop} {r : Nat} {d : RD}
theorem rlimit_arg (w : World) (most page first next : Int) (sv : Value) (h : RiAt w r most page first next sv) (hm : 1 ≤ page) (k : Int) (hk : decide (k < 0) = true ∨ (decide (k < 0) = false ∧ decide (k > 1048576) = true)) :
    Calls Tryd.prog 20 #[.pointer (some ⟨r, 0, none⟩), .int .i64 k] w fun e w' => e = .returned (.int .i64 2) ∧ Sees w w' := by
  have H := Lib.hid h; clear h
  have Hm := Lib.hid hm; clear hm
  rcases hk with h1 | ⟨h1, h2⟩
  all_goals
    (try have h2' : decide (1048576 < k) = true := h2)
    go_enter Tryd.func20, Tryd.ntmps20
    go_wp2_with fail
    refine (rzero_at _ r _ _ _ _ _ H.out Hm.out).mono ?_
    rintro e w2 ⟨rfl, hs⟩
    go_wp2
    go_ret
    exact ⟨rfl, hs⟩
theorem rlimit_ok (h : RiM w1 F W r d) (hd : d.Ok) (k : Int) (h0 : 0 ≤ k) (h1 : k ≤ 1048576) :
    Calls Tryd.prog 20 #[.pointer (some ⟨r, 0, none⟩), .int .i64 k] W fun e w' => e = .returned (.int .i64 0) ∧
      RiM w1 (fun b => F b ∨ W.heap.size ≤ b) w' r { d with most := k, first := d.first + ({ d with most := k } : RD).over, ps := dropF ({ d with most := k } : RD).over d.ps } ∧ Keeps F W w' := by
  have d1 : decide (k < 0) = false := decide_eq_false (by omega)
  have d2 : decide (k > 1048576) = false := decide_eq_false (by omega)
  have d2' : decide (1048576 < k) = false := d2
  have hd2 : ({ d with most := k } : RD).Ok := ⟨h0, h1, hd.page0, hd.page1, hd.first0, hd.next1, hd.tot, hd.few, hd.pgs⟩
  obtain ⟨a, c, hA, _⟩ := h.words
  have HA := Lib.hid hA
  have Hm := Lib.hid hd.page0
  have H := Lib.hid h
  have HD2 := Lib.hid hd2
  have HR := Lib.hid h.fr
  clear hA h hd hd2 h0 h1
  go_enter Tryd.func20, Tryd.ntmps20
  go_wp2_with fail
  refine (rzero_at _ r _ _ _ _ _ HA.out Hm.out).mono ?_
  rintro e w2 ⟨rfl, hs⟩
  have f0 := (HA.out.sees hs).fr
  have r0 := (HA.out.sees hs).c.1
  have HS := Lib.hid hs
  clear hs
  go_wp2_with fail
  have h3 := (H.out.sees HS.out).set0 k
  have hk3 : Keeps F W (w2.setCell ⟨r, 0, none⟩ (.int .i64 k)) := (Keeps.of_sees HS.out).setCell (p := ⟨r, 0, none⟩) (fun _ => HR.out) _
  have H3 := Lib.hid h3
  have HK3 := Lib.hid hk3
  clear h3 hk3 f0 r0
  refine (revict_ok H3.out HD2.out).mono ?_
  rintro e w4 ⟨rfl, h4, hk4⟩
  have H4 := Lib.hid (h4.mono (G := fun b => F b ∨ W.heap.size ≤ b) (fun b _ hb => by rcases hb with hb | hb; exact .inl hb; exact .inr (Nat.le_trans HK3.out.size hb)) (fun b hb => by rcases hb with hb | hb; exact H.out.low b hb; have := H.out.see.size; omega))
  have HK4 := Lib.hid (HK3.out.trans hk4)
  clear h4 hk4
  go_wp2
  go_ret
  exact ⟨rfl, H4.out, HK4.out⟩
theorem rclear_ok (h : RiM w1 F W r d) (hp : 1 ≤ d.page) :
    Calls Tryd.prog 22 #[.pointer (some ⟨r, 0, none⟩)] W fun e w' => e = .returned (.tuple #[]) ∧ RiM w1 F w' r { d with first := d.next, ps := [] } ∧ Keeps F W w' := by
  obtain ⟨a, c, hA, _⟩ := h.words
  have HA := Lib.hid hA
  have Hm := Lib.hid hp
  have H := Lib.hid h
  have HR := Lib.hid h.fr
  clear hA h hp
  go_enter Tryd.func22, Tryd.ntmps22
  go_wp2_with fail
  refine (rzero_at _ r _ _ _ _ _ HA.out Hm.out).mono ?_
  rintro e w2 ⟨rfl, hs⟩
  have f0 := (HA.out.sees hs).fr
  obtain ⟨r0, r1, r2, r3, r4⟩ := (HA.out.sees hs).c
  have HS := Lib.hid hs
  clear hs
  go_wp2
  first | go_end0 | skip
  have h3 := (((H.out.sees HS.out).set2 d.next).set4 (.slice none 0 0) [] (El.Own.nil _ _))
  have hk3 : Keeps F W ((w2.setCell ⟨r, 2, none⟩ (.int .i64 d.next)).setCell ⟨r, 4, none⟩ (.slice none 0 0)) := ((Keeps.of_sees HS.out).setCell (p := ⟨r, 2, none⟩) (fun _ => HR.out) _).setCell (p := ⟨r, 4, none⟩) (fun _ => HR.out) _
  first | exact ⟨rfl, h3, hk3⟩ | exact bodyPost_ret (results_none rfl _ _ _) rfl ⟨rfl, h3, hk3⟩
end
end Go.Proofs.YthjcnhgfagefjaaDoor

namespace Go.Proofs.YthjcnhgfagefjaaDoor
set_option linter.unusedVariables false
set_option linter.unusedSimpArgs false
open Go.RowKit

theorem rpop_none (w : World) (r : Nat) (most page first next : Int) (sv : Value) (h : RiAt w r most page first next sv) (hm : 1 ≤ page) (hf : first = next) (h0 : 0 ≤ first ∧ next ≤ 1000000000) :
    Calls Tryd.prog 41 #[.pointer (some ⟨r, 0, none⟩)] w fun e w' => e = .returned (.tuple #[.agg #[.slice none 0 0, .bool false], .int .i64 9]) ∧ Sees w w' := by
  have H := Lib.hid h; clear h
  have Hm := Lib.hid hm; clear hm
  have Hf := Lib.hid hf; clear hf
  have HA := Lib.hid ((Sees.refl w).alloc (.cells #[.slice none 0 0, .bool false] 36))
  go_enter Tryd.func41, Tryd.ntmps41
  go_wp2_with fail
  refine (rzero_at _ r _ _ _ _ _ (H.out.sees HA.out) Hm.out).mono ?_
  rintro e w2 ⟨rfl, hs⟩
  have c0 : w2.cell? ⟨w.heap.size, 0, none⟩ = some (.slice none 0 0) := by rw [hs.cells _ _ (by simp)]; simp
  have c1 : w2.cell? ⟨w.heap.size, 1, none⟩ = some (.bool false) := by rw [hs.cells _ _ (by simp)]; simp
  have f1 : ∀ i, w2.frozen? ⟨w.heap.size, i, none⟩ = false := fun i => by rw [hs.frozens _ _ (by simp)]; simp
  have hz : w.heap.size < w2.heap.size := by have := hs.size; simp at this; omega
  have C0 := Lib.hid c0
  have C1 := Lib.hid c1
  have F1 := Lib.hid f1
  have HZ := Lib.hid hz
  have HS := Lib.hid (HA.out.trans hs)
  clear c0 c1 f1 hz hs
  go_wp2_with fail
  refine (rlen_at _ r _ _ _ _ _ (H.out.sees HS.out) Hm.out 0 (by have := Hf.out; omega) ⟨h0.1, by omega, h0.2⟩).mono ?_
  rintro e w3 ⟨rfl, hs⟩
  have c0 := hs.cell C0.out
  have c1 := hs.cell C1.out
  have f1 : ∀ i, w3.frozen? ⟨w.heap.size, i, none⟩ = false := fun i => by rw [hs.frozens _ _ HZ.out]; exact F1.out i
  have HS3 := Lib.hid (HS.out.trans hs)
  clear hs
  go_wp2
  refine bodyPost_ret_by (v := .tuple #[.agg #[.slice none 0 0, .bool false], .int .i64 9]) (by simp [results, Tryd.results41, go_sem, c0, c1]) rfl ⟨rfl, ?_⟩
  exact (HS3.out.setCell (p := ⟨w.heap.size, 0, none⟩) (Nat.le_refl _) _).setCell (p := ⟨w.heap.size, 1, none⟩) (Nat.le_refl _) _

section
variable {w1 W : World} {F : Nat → Prop} {r : Nat} {d : RD}
set_option maxRecDepth 100000 in
set_option maxHeartbeats 4000000 in
theorem rpop_ok (h : RiM w1 F W r d) (hd : d.Ok) (ps0 : List Pg) (x : Pg) (ls0 : List Ln) (l : Ln) (hps : d.ps = ps0 ++ [x]) (hx : x.ls = ls0 ++ [l]) :
    Calls Tryd.prog 41 #[.pointer (some ⟨r, 0, none⟩)] W fun e w' => ∃ (v' : Value) (qs : List Pg), e = .returned (.tuple #[.agg #[v', .bool l.soft], .int .i64 0]) ∧ ((ls0 = [] ∧ qs = ps0) ∨ (ls0 ≠ [] ∧ qs = ps0 ++ [{ x with ls := ls0 }])) ∧
      OwnCells w' 0 v' l.cells ∧ (∀ g, v'.ownBlock = some g → F g ∧ g < W.heap.size) ∧ RiM w1 (fun c => F c ∧ v'.ownBlock ≠ some c) w' r { d with next := d.next - 1, ps := qs } ∧ Keeps F W w' := by
  obtain ⟨most, page, first, next, ps⟩ := d
  have hps : ps = ps0 ++ [x] := hps
  subst hps
  obtain ⟨a0, c0, hA, hc0⟩ := h.words
  have htot := hd.tot
  have hf0 := hd.first0
  have hx1 := hd.next1
  have hpx := (hd.pgs x (by simp)).1
  have hle := ps_le (fun p hp => (hd.pgs p hp).2)
  simp only [] at hA hc0 htot hf0 hx1 hpx hle
  obtain ⟨N, hN⟩ : ∃ N, N = (ps0 ++ [x]).length := ⟨_, rfl⟩
  obtain ⟨L, hL⟩ : ∃ L, L = (linesP (ps0 ++ [x])).length := ⟨_, rfl⟩
  rw [← hN] at hA hc0 hle
  rw [← hL] at htot hle
  have hk0 : ps0.length + 1 = N := by rw [hN]; simp
  obtain ⟨k, hk⟩ : ∃ k, k = ps0.length := ⟨_, rfl⟩
  have hwN : IntKind.i64.wrap ((N : Int) - 1) = (k : Int) := by rw [IntWalk.i64_in _ (by omega)]; omega
  have hwx : IntKind.i64.wrap (next - 1) = next - 1 := by rw [IntWalk.i64_in _ (by omega)]
  have hkN : k < N := by omega
  have tL : ((L : Int) == 0) = false := beq_eq_false_iff_ne.2 (by omega)
  have HW := Lib.hid hA
  have Hm := Lib.hid hd.page0
  have HM1 := Lib.hid hd.page1
  have H := Lib.hid h.cut
  have HX := Lib.hid hpx
  have Hx := Lib.hid hx
  have HN := Lib.hid hN
  have HK := Lib.hid hk
  have HT := Lib.hid htot
  have HR := Lib.hid h.fr
  have HLW := Lib.hid h.low
  have HC0 := Lib.hid hc0
  have HL0 := Lib.hid hle
  have Hi : Hid ((ps0 ++ [x])[k]? = some x) := by unfold Hid; rw [hk]; simp
  have HA := Lib.hid ((Sees.refl W).alloc (.cells #[.slice none 0 0, .bool false] 36))
  clear hA hc0 htot hpx hle h hd hx hk0 hN hk hL
  go_enter Tryd.func41, Tryd.ntmps41
  go_wp2_with fail
  refine (rzero_at _ r _ _ _ _ _ (HW.out.sees HA.out) Hm.out).mono ?_
  rintro e W2 ⟨rfl, hs⟩
  have b0 : W2.cell? ⟨W.heap.size, 0, none⟩ = some (.slice none 0 0) := by rw [hs.cells _ _ (by simp)]; simp
  have b1 : W2.cell? ⟨W.heap.size, 1, none⟩ = some (.bool false) := by rw [hs.cells _ _ (by simp)]; simp
  have f1 : ∀ i, W2.frozen? ⟨W.heap.size, i, none⟩ = false := fun i => by rw [hs.frozens _ _ (by simp)]; simp
  have hz : W.heap.size < W2.heap.size := by have := hs.size; simp at this; omega
  have B0 := Lib.hid b0
  have B1 := Lib.hid b1
  have F1 := Lib.hid f1
  have HZ := Lib.hid hz
  have HS := Lib.hid (HA.out.trans hs)
  clear b0 b1 f1 hz hs
  go_wp2_with fail
  refine (rlen_at _ r _ _ _ _ _ (HW.out.sees HS.out) Hm.out (L : Int) HT.out ⟨hf0, by omega, hx1⟩).mono ?_
  rintro e W3 ⟨rfl, hs⟩
  have B0' := Lib.hid (hs.cell B0.out)
  have B1' := Lib.hid (hs.cell B1.out)
  have F1' := Lib.hid (fun i => by rw [hs.frozens _ _ HZ.out]; exact F1.out i : ∀ i, W3.frozen? ⟨W.heap.size, i, none⟩ = false)
  have HZ3 := Lib.hid (Nat.lt_of_lt_of_le HZ.out hs.size)
  have HS3 := Lib.hid (HS.out.trans hs)
  clear hs B0 B1 F1 HZ HS
  obtain ⟨b, cap, p, Fx, hA2, hcap, hcell, hpg, hFx, hback⟩ := (H.out.sees HS3.out).page2 (i := k) Hi.out HX.out ⟨Hm.out, HM1.out⟩
  have ea := (HW.out.sees HS3.out).inj hA2
  simp only [Value.slice.injEq] at ea
  obtain ⟨rfl, ea2, rfl⟩ := ea
  clear ea2
  have r4 := (HW.out.sees HS3.out).c.2.2.2.2
  rw [Hx.out] at hpg
  have HPG := Lib.hid hpg
  have HFx := Lib.hid hFx
  have HB := Lib.hid hback
  clear hpg hFx hback hcap hA2
  go_wp2_with fail
  refine (HPG.out.pop l).mono ?_
  rintro e W4 ⟨v', rfl, hown, hog, hpg4, hk4⟩
  have hpF : Fx p := HPG.out.page.1
  have hkx : Keeps Fx W3 W4 := hk4.mono (fun b _ e => by subst e; exact hpF)
  have hR4 := HB.out W4 { x with ls := ls0 } (fun b => Fx b ∧ v'.ownBlock ≠ some b) (fun c hc => hc.1) hkx (by rw [show (⟨x.most, x.gone, ls0⟩ : Pg).most = page from HX.out.most]; exact hpg4.page)
  obtain ⟨a', c', rfl⟩ := hown.slice
  have hR5 := hR4.mono (G := fun c => (F c ∧ c < W.heap.size) ∧ (Value.slice a' l.cells.length c').ownBlock ≠ some c) (fun c _ hc => ⟨hc.1, fun e => (hc.2 (hog c e).1).2 e⟩) (fun c hc => H.out.low c hc.1)
  have HR5 := Lib.hid hR5
  have HOG := Lib.hid (fun g hg => HFx.out g (hog g hg).1 : ∀ g, (Value.slice a' l.cells.length c').ownBlock = some g → (F g ∧ g < W.heap.size) ∧ g ≠ r ∧ g ≠ b ∧ g < W3.heap.size)
  have HO := Lib.hid hown
  have HKx := Lib.hid hkx
  have hnb : ¬ Fx W.heap.size := fun e => by have := (HFx.out _ e).1.2; omega
  have B0 := hkx.cell (a := ⟨W.heap.size, 0, none⟩) hnb B0'.out
  have B1 := hkx.cell (a := ⟨W.heap.size, 1, none⟩) hnb B1'.out
  have hz4 : W.heap.size < W4.heap.size := Nat.lt_of_lt_of_le HZ3.out hkx.size
  have FB : ∀ i, W4.frozen? ⟨W.heap.size, i, none⟩ = false := fun i => by
    have h1 := F1'.out i
    unfold World.frozen? at h1 ⊢
    rw [hkx.block _ HZ3.out hnb]; exact h1
  have FB := Lib.hid FB
  have HK4 := Lib.hid ((Keeps.of_sees HS3.out).trans' hkx (fun c _ hc => (HFx.out c hc).1.1) : Keeps F W W4)
  have B0 := Lib.hid B0
  have B1 := Lib.hid B1
  have HZ4 := Lib.hid hz4
  have HR5r := Lib.hid HR5.out.lt
  clear hR4 hR5 hog hpg4 hk4 hkx hown hnb hz4 hpF B0' B1' F1' HB HPG r4 hcell
  -- the line's own variable
  obtain ⟨b6, cap6, p6, F6, hA6, hcap6, hc6, hpg6, hF6, hb6, _⟩ := HR5.out.page (i := k) (x := { x with ls := ls0 }) (by show ((ps0 ++ [x]).set k _)[k]? = _; rw [List.getElem?_set_self (by rw [← HN.out]; exact hkN)]) ⟨HX.out.most, HX.out.gone0, by have h1 := HX.out.room; rw [Hx.out, List.length_append] at h1; show x.gone + (ls0.length : Int) ≤ page; omega, fun m hm => HX.out.ok m (by rw [Hx.out]; exact List.mem_append_left _ hm)⟩ ⟨Hm.out, HM1.out⟩
  have hlen6 : ((ps0 ++ [x]).set k { x with ls := ls0 }).length = N := by rw [List.length_set, HN.out]
  simp only [hlen6] at hA6 hcap6
  obtain ⟨q0, q1, q2, r3, r4⟩ := hA6.c
  have fr := hA6.fr
  have hne1 : r ≠ W4.heap.size := by have := HR5r.out; omega
  have hl1 : r < W4.heap.size := HR5r.out
  have hl2 : b6 < W4.heap.size := hb6.2.2
  have hl3 : W.heap.size < W4.heap.size := HZ4.out
  have hne2 : W4.heap.size ≠ r := hne1.symm
  have hne3 : b6 ≠ W4.heap.size := by have := hb6.2.2; omega
  have hne4 : b6 ≠ r := hb6.2.1
  have hne5 : r ≠ b6 := hne4.symm
  have hne6 : W.heap.size ≠ W4.heap.size := by have := HZ4.out; omega
  have hA6 := Lib.hid hA6
  have HPG6 := Lib.hid hpg6
  have HF6 := Lib.hid hF6
  have HCP6 := Lib.hid hcap6
  clear q0 q1 q2 hpg6 hF6 hb6 hcap6 hlen6
  go_wp2_with fail
  refine calls_world (fun W7 hW7 => ?_)
  have K7 : Keeps (fun c => c = r) W4 W7 := by rw [hW7]; exact ((Keeps.refl _ W4).setCell (F := fun c => c = r) (p := ⟨r, 3, none⟩) (fun _ => rfl) _).trans (Keeps.of_sees ((Sees.refl _).alloc _))
  have R7 : RiM w1 (fun c => (F c ∧ c < W.heap.size) ∧ (Value.slice a' l.cells.length c').ownBlock ≠ some c) W7 r ⟨most, page, first, next - 1, (ps0 ++ [x]).set k { x with ls := ls0 }⟩ := by rw [hW7]; exact (HR5.out.set3 (next - 1)).sees ((Sees.refl _).alloc _)
  have A7 : RiAt W7 r most page first (next - 1) (.slice (some ⟨b6, 0, none⟩) N cap6) := by rw [hW7]; exact (hA6.out.set3 (next - 1)).sees ((Sees.refl _).alloc _)
  have X0 : W7.cell? ⟨W4.heap.size, 0, none⟩ = some (.slice a' l.cells.length c') := by rw [hW7]; go_simp
  have X1 : W7.cell? ⟨W4.heap.size, 1, none⟩ = some (.bool l.soft) := by rw [hW7]; go_simp
  have P7 : PgF w1 F6 W7 p6 page x.gone ls0 := HPG6.out.keeps K7 (fun c hc e => (HF6.out c hc).2.1 e) (fun c e => by subst e; exact HR5.out.low _ HR5.out.fr)
  have KZ : Keeps (fun c => c = r ∨ c = W.heap.size) W4 W7 := K7.mono (fun c _ h => .inl h)
  clear hW7 r3 r4 fr hc6 hne3 hne4 hne5 hl1 hl2 hl3
  have K7' := Lib.hid K7
  have R7' := Lib.hid R7
  have A7' := Lib.hid A7
  have X0' := Lib.hid X0
  have X1' := Lib.hid X1
  have Y0 := Lib.hid (K7.cell (a := ⟨W.heap.size, 0, none⟩) (by intro e; have e : W.heap.size = r := e; have := HR5.out.fr.1.2; omega) B0.out)
  have Y1 := Lib.hid (K7.cell (a := ⟨W.heap.size, 1, none⟩) (by intro e; have e : W.heap.size = r := e; have := HR5.out.fr.1.2; omega) B1.out)
  have YF : Hid (∀ i, W7.frozen? ⟨W.heap.size, i, none⟩ = false) := Lib.hid (fun i => by
    have h1 := FB.out i
    unfold World.frozen? at h1 ⊢
    rw [K7.block _ HZ4.out (by intro e; have e : W.heap.size = r := e; have := HR5.out.fr.1.2; omega)]; exact h1)
  have KZ' := Lib.hid KZ
  have HZ7 := Lib.hid (Nat.lt_of_lt_of_le HZ4.out K7.size)
  clear K7 R7 A7 X0 X1 KZ
  refine (P7.toS.lenIs (ls0.length : Int) rfl).mono ?_
  rintro e W8 ⟨rfl, hs8⟩
  have R8 := Lib.hid (R7'.out.sees hs8)
  have A8 := Lib.hid (A7'.out.sees hs8)
  have x0 := hs8.cell X0'.out
  have x1 := hs8.cell X1'.out
  have y0 := hs8.cell Y0.out
  have y1 := hs8.cell Y1.out
  have yf : ∀ i, W8.frozen? ⟨W.heap.size, i, none⟩ = false := fun i => by rw [hs8.frozens _ _ HZ7.out]; exact YF.out i
  have K8 := Lib.hid (KZ'.out.trans (Keeps.of_sees hs8))
  have hrw : r < W.heap.size := HR5.out.fr.1.2
  have hne7 : r ≠ W.heap.size := by omega
  have hne8 : W.heap.size ≠ r := by omega
  clear hs8 X0' X1' Y0 Y1 YF K7' R7' A7' KZ' P7
  have Fin : ∀ (qs : List Pg) (Wf : World), ((ls0 = [] ∧ qs = ps0) ∨ (ls0 ≠ [] ∧ qs = ps0 ++ [{ x with ls := ls0 }])) → RiM w1 (fun c => (F c ∧ c < W.heap.size) ∧ (Value.slice a' l.cells.length c').ownBlock ≠ some c) Wf r ⟨most, page, first, next - 1, qs⟩ → Keeps (fun c => c = r ∨ c = W.heap.size) W4 Wf →
      ∃ (v' : Value) (qs : List Pg), Ending.returned (.tuple #[.agg #[.slice a' l.cells.length c', .bool l.soft], .int .i64 0]) = .returned (.tuple #[.agg #[v', .bool l.soft], .int .i64 0]) ∧ ((ls0 = [] ∧ qs = ps0) ∨ (ls0 ≠ [] ∧ qs = ps0 ++ [{ x with ls := ls0 }])) ∧
      OwnCells Wf 0 v' l.cells ∧ (∀ g, v'.ownBlock = some g → F g ∧ g < W.heap.size) ∧ RiM w1 (fun c => F c ∧ v'.ownBlock ≠ some c) Wf r ⟨most, page, first, next - 1, qs⟩ ∧ Keeps F W Wf := fun qs Wf hq hr hk =>
    ⟨_, qs, rfl, hq, HO.out.keeps hk (fun c hc e => by
        have h1 := HOG.out c hc
        rcases e with e | e
        · exact h1.2.1 e
        · have := h1.1.2; omega), fun g hg => (HOG.out g hg).1, hr.mono (fun c _ h => ⟨h.1.1, h.2⟩) (fun c h => HLW.out c h.1), HK4.out.trans' hk (fun c hc e => by
        rcases e with e | e
        · rw [e]; exact HR.out
        · omega)⟩
  have FIN := Lib.hid Fin
  clear Fin
  have SETW : Hid (∀ (Wx : World) (qs : List Pg) (u s : Value), RiM w1 (fun c => (F c ∧ c < W.heap.size) ∧ (Value.slice a' l.cells.length c').ownBlock ≠ some c) Wx r ⟨most, page, first, next - 1, qs⟩ → RiM w1 (fun c => (F c ∧ c < W.heap.size) ∧ (Value.slice a' l.cells.length c').ownBlock ≠ some c) ((Wx.setCell ⟨W.heap.size, 0, none⟩ u).setCell ⟨W.heap.size, 1, none⟩ s) r ⟨most, page, first, next - 1, qs⟩) := Lib.hid (fun Wx qs u s h =>
    h.keeps (X := fun c => c = W.heap.size) (((Keeps.refl _ Wx).setCell (F := fun c => c = W.heap.size) (p := ⟨W.heap.size, 0, none⟩) (fun _ => rfl) u).setCell (p := ⟨W.heap.size, 1, none⟩) (fun _ => rfl) s) (fun c hc e => by have := hc.1.2; omega) (fun c e => by subst e; have := H.out.see.size; omega))
  by_cases hl0 : ls0 = []
  · have tz : ((ls0.length : Int) == 0) = true := by rw [hl0]; rfl
    have hset : (ps0 ++ [x]).set k { x with ls := ls0 } = ps0 ++ [{ x with ls := ls0 }] := by rw [HK.out]; simp
    obtain ⟨r0, r1, r2, r3, r4⟩ := A8.out.c
    have fr := A8.out.fr
    have hR8 := R8.out
    obtain ⟨v8, hv8, ho8⟩ := hR8.mem
    cases A8.out.inj hv8
    have ho9 := ho8.take k (by show k ≤ ((ps0 ++ [x]).set k _).length; rw [List.length_set, ← HN.out]; omega)
    have hR9 := R8.out.set4 _ _ ho9
    have hps9 : ((ps0 ++ [x]).set k { x with ls := ls0 }).take k = ps0 := by rw [hset, HK.out]; simp
    have HL0 := Lib.hid hl0
    have HR9 := Lib.hid hR9
    have HPS9 := Lib.hid hps9
    have hkc : k ≤ cap6 := by have := HCP6.out; omega
    clear hR8 hv8 ho8 ho9 hR9 hps9 hset hl0 r0 r1 r2 r3
    go_wp2
    refine bodyPost_ret_by (v := .tuple #[.agg #[.slice a' l.cells.length c', .bool l.soft], .int .i64 0]) (by simp [results, Tryd.results41, go_sem, y0, y1, hne7, hne8]) rfl ?_
    have h9 := HR9.out
    simp only [HPS9.out] at h9
    exact FIN.out ps0 _ (.inl ⟨HL0.out, rfl⟩) (SETW.out _ _ _ _ h9) (((K8.out.setCell (p := ⟨r, 4, none⟩) (fun _ => .inl rfl) _).setCell (p := ⟨W.heap.size, 0, none⟩) (fun _ => .inr rfl) _).setCell (p := ⟨W.heap.size, 1, none⟩) (fun _ => .inr rfl) _)
  · have tz : ((ls0.length : Int) == 0) = false := beq_eq_false_iff_ne.2 (by have := List.length_pos_iff.2 hl0; omega)
    have hset : (ps0 ++ [x]).set k { x with ls := ls0 } = ps0 ++ [{ x with ls := ls0 }] := by rw [HK.out]; simp
    have HL0 := Lib.hid hl0
    have HST := Lib.hid hset
    clear hl0 hset
    go_wp2
    refine bodyPost_ret_by (v := .tuple #[.agg #[.slice a' l.cells.length c', .bool l.soft], .int .i64 0]) (by simp [results, Tryd.results41, go_sem, y0, y1, hne7, hne8]) rfl ?_
    have h9 := R8.out
    rw [HST.out] at h9
    exact FIN.out _ _ (.inr ⟨HL0.out, rfl⟩) (SETW.out _ _ _ _ h9) ((K8.out.setCell (p := ⟨W.heap.size, 0, none⟩) (fun _ => .inr rfl) _).setCell (p := ⟨W.heap.size, 1, none⟩) (fun _ => .inr rfl) _)
end
end Go.Proofs.YthjcnhgfagefjaaDoor

namespace Go.Proofs.YthjcnhgfagefjaaDoor
set_option linter.unusedVariables false
set_option linter.unusedSimpArgs false
open Go.RowKit

theorem rpush_arg (w : World) (ht : Tabs w) (r : Nat) (most page first next : Int) (sv : Value) (h : RiAt w r most page first next sv) (hm : 1 ≤ page) (u : Value) (cs : List Cell) (soft : Bool) (hu : RdCells w u cs) (hn : cs.length ≤ 1000000) (hok : lnOk cs = false) :
    Calls Tryd.prog 33 #[.pointer (some ⟨r, 0, none⟩), .agg #[u, .bool soft]] w fun e w' => e = .returned (.tuple #[.int .i64 0, .int .i64 2]) ∧ Sees w w' := by
  have H := Lib.hid h; clear h
  have Hm := Lib.hid hm; clear hm
  have Ht := Lib.hid ht; clear ht
  have Hu := Lib.hid hu; clear hu
  have Hn := Lib.hid hn; clear hn
  have Hok := Lib.hid hok; clear hok
  have hw := Sees.refl w
  have HA := Lib.hid (((hw.alloc (.cells #[u, .bool soft] 36))))
  clear hw
  go_enter Tryd.func33, Tryd.ntmps33
  go_wp2_with fail
  refine (rzero_at _ r _ _ _ _ _ (H.out.sees HA.out) Hm.out).mono ?_
  rintro e w1 ⟨rfl, hs⟩
  have HS := Lib.hid (HA.out.trans hs)
  have b0 : w1.cell? ⟨w.heap.size, 0, none⟩ = some u := by rw [hs.cells _ _ (by simp)]; simp
  have b1 : w1.cell? ⟨w.heap.size, 1, none⟩ = some (.bool soft) := by rw [hs.cells _ _ (by simp)]; simp
  clear hs
  go_wp2_with fail
  refine (lineValid_any u cs soft _ (Ht.out.sees HS.out) (Hu.out.sees HS.out) Hn.out).mono ?_
  rintro e w2 ⟨rfl, hs⟩
  have HS2 := Lib.hid (HS.out.trans hs)
  have ok := Hok.out
  clear hs b0 b1
  go_wp2
  go_ret2
  exact ⟨rfl, HS2.out⟩

section
variable {w1 W : World} {F G : Nat → Prop} {r : Nat} {d : RD}
set_option maxRecDepth 1000000 in
set_option maxHeartbeats 8000000 in
theorem rpush_ok (ht : Tabs w1) (h : RiM w1 F W r d) (hd : d.Ok) (hnx : d.next < 1000000000) (hfew : (linesP d.ps).length ≤ 1048576) (v : Value) (cs : List Cell) (soft : Bool) (hv : RdC G W v cs) (hG : ∀ b, G b → ¬ F b) (hok : lnOk cs = true) (d1 : RD) (hd1 : d1 = { d with next := d.next + 1, ps := pushP d.page d.ps ⟨cs, soft⟩ }) :
    Calls Tryd.prog 33 #[.pointer (some ⟨r, 0, none⟩), .agg #[v, .bool soft]] W fun e w' => e = .returned (.tuple #[.int .i64 d.next, .int .i64 0]) ∧
      RiM w1 (fun b => F b ∨ W.heap.size ≤ b) w' r { d1 with first := d1.first + d1.over, ps := dropF d1.over d1.ps } ∧ Keeps F W w' := by
  have hd1ok : d1.Ok := by
    subst hd1
    refine ⟨hd.most0, hd.most1, hd.page0, hd.page1, hd.first0, by show d.next + 1 ≤ 1000000000; omega, ?_, by show (linesP (pushP d.page d.ps ⟨cs, soft⟩)).length ≤ 1048577; rw [linesP_pushP, List.length_append, List.length_cons, List.length_nil]; omega, PsOk.pushP (l := ⟨cs, soft⟩) hok hd.page0 hd.pgs⟩
    have := hd.tot
    show d.first + ((linesP (pushP d.page d.ps ⟨cs, soft⟩)).length : Int) = d.next + 1
    rw [linesP_pushP, List.length_append, List.length_cons, List.length_nil]; omega
  obtain ⟨most, page, first, next, ps⟩ := d
  obtain ⟨a0, c0, hA, hc0⟩ := h.words
  have hle := ps_le (fun p hp => (hd.pgs p hp).2)
  have htot := hd.tot
  have hf0 := hd.first0
  simp only [] at hA hc0 hle htot hf0 hnx
  have hN9 : ps.length ≤ 1000000000 := by omega
  obtain ⟨ao, ca, rfl, _⟩ := hv.rd
  have HV := Lib.hid (hv.mono (G := fun b => G b ∧ b < W.heap.size) (fun b hb h => ⟨h, hb⟩))
  have HW := Lib.hid hA
  have Hm := Lib.hid hd.page0
  have Hm1 := Lib.hid hd.page1
  have Ht := Lib.hid ht
  have HG := Lib.hid hG
  have Hok := Lib.hid hok
  have H := Lib.hid (h.mono (G := fun b => (F b ∧ b < W.heap.size) ∨ W.heap.size + 1 ≤ b) (fun b hb h => .inl ⟨h, hb⟩) (fun b hb => by rcases hb with hb | hb; exact h.low b hb.1; have := h.see.size; omega))
  have HL := Lib.hid h.low
  have HR := Lib.hid h.fr
  have HZ1 := Lib.hid h.see.size
  have HS1 := Lib.hid h.see
  have HP := Lib.hid hd.pgs
  have HD1 := Lib.hid hd1ok
  have HE1 := Lib.hid hd1
  have HX := Lib.hid hnx
  have HF0 := Lib.hid hf0
  have HN9 := Lib.hid hN9
  have HCUT := Lib.hid h.cut
  have HT := Lib.hid htot
  obtain ⟨cn, hcn⟩ : ∃ cn, cn = cs.length := ⟨_, rfl⟩
  rw [← hcn] at HV ⊢
  have HCN := Lib.hid hcn
  obtain ⟨N, hN⟩ : ∃ N, N = ps.length := ⟨_, rfl⟩
  rw [← hN] at hc0
  have HW2 : Hid (RiAt W r most page first next (.slice a0 N c0)) := Lib.hid (by rw [hN]; exact hA)
  have HNN := Lib.hid hN
  have hN2 : N ≤ 1048577 := by have := hd.few; simp only [] at this; omega
  have HN2 := Lib.hid hN2
  have HC0 := Lib.hid hc0
  clear hA hc0 hle h hd hv ht hG hok hd1ok hd1 hnx hf0 hN9 htot hcn hN HW hN2
  have HA := Lib.hid ((Sees.refl W).alloc (.cells #[.slice ao cn ca, .bool soft] 36))
  go_enter Tryd.func33, Tryd.ntmps33
  go_wp2_with fail
  refine (rzero_at _ r _ _ _ _ _ (HW2.out.sees HA.out) Hm.out).mono ?_
  rintro e W1 ⟨rfl, hs⟩
  have b0 : W1.cell? ⟨W.heap.size, 0, none⟩ = some (.slice ao cn ca) := by rw [hs.cells _ _ (by simp)]; simp
  have b1 : W1.cell? ⟨W.heap.size, 1, none⟩ = some (.bool soft) := by rw [hs.cells _ _ (by simp)]; simp
  have HS := Lib.hid (HA.out.trans hs)
  have HZ := Lib.hid (by have := hs.size; simp at this; omega : W.heap.size < W1.heap.size)
  have B0 := Lib.hid b0
  have B1 := Lib.hid b1
  clear hs
  go_wp2_with fail
  refine (lineValid_any (.slice ao cn ca) cs soft _ (Ht.out.sees (HS1.out.trans HS.out)) (HV.out.rd.sees HS.out) (by have := lnOk_len Hok.out; omega)).mono ?_
  rintro e W2 ⟨rfl, hs⟩
  have ok := Hok.out
  have HS2 := Lib.hid (HS.out.trans hs)
  have HZ2 := Lib.hid (Nat.lt_of_lt_of_le HZ.out hs.size)
  have B02 := Lib.hid (hs.cell B0.out)
  have B12 := Lib.hid (hs.cell B1.out)
  have r4 := (HW2.out.sees HS2.out).c.2.2.2.2
  clear hs b0 b1 B0 B1 HZ HS
  go_upto_region 6 with fail
  go_cut [35] from 22 to 35 (fun s35 wx => ∃ tb : Bool, s35 = .bool tb ∧ Sees W2 wx ∧ ((tb = true ∧ ∀ l, pushP page ps l = ps ++ [⟨page, 0, [l]⟩]) ∨ (tb = false ∧ ∃ ps0 x, ps = ps0 ++ [x] ∧ x.gone + x.ls.length < page)))
  case first =>
    rcases List.eq_nil_or_concat ps with hps | ⟨ps0, x, hps⟩
    · have hN0 : N = 0 := by rw [HNN.out, hps]; rfl
      have Hps := Lib.hid hps
      clear hps r4
      subst hN0
      go_wp2_with fail
      go_meet
      exact ⟨true, rfl, Sees.refl _, .inl ⟨rfl, fun l => by rw [Hps.out]; rfl⟩⟩
    · rw [List.concat_eq_append] at hps
      subst hps
      have hNk : N = ps0.length + 1 := by rw [HNN.out]; simp
      obtain ⟨k, hk⟩ : ∃ k, k = ps0.length := ⟨_, rfl⟩
      have hkN : k < N := by omega
      have hw : IntKind.i64.wrap ((N : Int) - 1) = (k : Int) := by rw [IntWalk.i64_in _ (by have := HN2.out; omega)]; omega
      have tN : ((N : Int) == 0) = false := beq_eq_false_iff_ne.2 (by omega)
      have hpx := (HP.out x (by simp)).1
      obtain ⟨b, cap, p, Fx, hA2, hcap, hcell, hpg, hFx, _, _⟩ := (HCUT.out.sees HS2.out).page (i := k) (x := x) (by rw [hk]; simp) hpx ⟨Hm.out, Hm1.out⟩
      have ea := (HW2.out.sees HS2.out).inj hA2
      simp only [Value.slice.injEq] at ea
      obtain ⟨rfl, ea2, rfl⟩ := ea
      have HPG := Lib.hid hpg
      have HK := Lib.hid hk
      have HPX := Lib.hid hpx
      clear ea2 hA2 hcap hpg hFx hpx hNk hk
      obtain ⟨rm, hrm⟩ : ∃ rm : Int, rm = page - x.gone - (x.ls.length : Int) := ⟨_, rfl⟩
      have HRM := Lib.hid hrm
      have hrm0 : 0 ≤ rm := by have := HPX.out.room; omega
      clear hrm
      by_cases hr0 : rm = 0
      · have t2 : (rm == 0) = true := beq_iff_eq.2 hr0
        have HR0 := Lib.hid hr0
        clear hr0
        go_wp2_with fail
        refine (HPG.out.toS.roomIs rm HRM.out.symm).mono ?_
        rintro e W3 ⟨rfl, hs⟩
        go_wp2_with fail
        go_meet
        exact ⟨true, rfl, hs, .inl ⟨rfl, fun l => pushP_full (by have := HRM.out; have := HR0.out; omega)⟩⟩
      · have t2 : (rm == 0) = false := beq_eq_false_iff_ne.2 hr0
        have HR0 := Lib.hid hr0
        clear hr0
        go_wp2_with fail
        refine (HPG.out.toS.roomIs rm HRM.out.symm).mono ?_
        rintro e W3 ⟨rfl, hs⟩
        go_wp2_with fail
        go_meet
        exact ⟨false, rfl, hs, .inr ⟨rfl, ps0, x, rfl, by have := HRM.out; have := HR0.out; omega⟩⟩
  case rest =>
    obtain ⟨W3, rfl⟩ : ∃ W3, W3 = wc := ⟨_, rfl⟩
    obtain ⟨tb, rfl, s, hcase⟩ := hcut
    have HS3 := Lib.hid (HS2.out.trans s)
    have HZ3 := Lib.hid (Nat.lt_of_lt_of_le HZ2.out s.size)
    have B03 := Lib.hid (s.cell B02.out)
    have B13 := Lib.hid (s.cell B12.out)
    have HCASE := Lib.hid hcase
    clear s hcase r4 HS2 HZ2 B02 B12
    go_upto_if 35 with fail
    go_cut [7, 8] from 36 to 56 (fun s7 s8 wx => ∃ (qs : List Pg) (y : Pg), pushP page ps ⟨cs, soft⟩ = qs ++ [{ y with ls := y.ls ++ [⟨cs, soft⟩] }] ∧ RiM w1 (fun b => (F b ∧ b < W.heap.size) ∨ W.heap.size + 1 ≤ b) wx r ⟨most, page, first, next, qs ++ [y]⟩ ∧ PgOk page y ∧ y.gone + y.ls.length < page ∧ Keeps F W wx ∧ wx.cell? ⟨W.heap.size, 0, none⟩ = some (.slice ao cn ca) ∧ wx.cell? ⟨W.heap.size, 1, none⟩ = some (.bool soft))
    case first =>
      cases tb with
      | false =>
        go_wp2_with fail
        go_meet
        rcases HCASE.out with ⟨h, _⟩ | ⟨_, ps0, x, hps, hroom⟩
        · cases h
        · exact ⟨ps0, x, by rw [hps]; exact pushP_room (by omega), by rw [← hps]; exact H.out.sees HS3.out, (HP.out x (by rw [hps]; simp)).1, hroom, Keeps.of_sees HS3.out, B03.out, B13.out⟩
      | true =>
        have r1 := (HW2.out.sees HS3.out).c.2.1
        go_wp2_with fail
        refine (new_pg page _ Hm.out Hm1.out).mono ?_
        rintro e W4 ⟨rfl, P4⟩
        have HP4 := Lib.hid (PgF.of_new 0 P4)
        have HS4 := Lib.hid (HS3.out.trans P4.see)
        have HZ4 := Lib.hid (Nat.lt_of_lt_of_le HZ3.out P4.see.size)
        have B04 := Lib.hid (P4.see.cell B03.out)
        have B14 := Lib.hid (P4.see.cell B13.out)
        clear P4 r1
        have hA4 := HW2.out.sees HS4.out
        obtain ⟨v4, hA4', ho4⟩ := (HCUT.out.sees HS4.out).mem
        cases hA4.inj hA4'
        simp only [] at ho4
        have r4 := hA4.c.2.2.2.2
        have fr := hA4.fr
        have SA : Sees W4 (W4.alloc (.cells #[.pointer (some ⟨W3.heap.size, 0, none⟩)] 88)) := (Sees.refl W4).alloc _
        have hrl : r < W.heap.size := HCUT.out.fr.2
        have hne1 : r ≠ W4.heap.size := by have := HZ4.out; omega
        have hl1 : r < W4.heap.size := by have := HZ4.out; omega
        have HO4 := Lib.hid (ho4.sees SA)
        have HA4 := Lib.hid (hA4.sees SA)
        have HPA := Lib.hid (HP4.out.sees SA)
        have HSA := Lib.hid (HS4.out.trans SA)
        have B0A := Lib.hid (SA.cell B04.out)
        have B1A := Lib.hid (SA.cell B14.out)
        have HRL := Lib.hid hrl
        have HcF : Hid (∀ b, ((F b ∧ b < W.heap.size) ∧ b ≠ r) → b < (W4.alloc (.cells #[.pointer (some ⟨W3.heap.size, 0, none⟩)] 88)).heap.size) := Lib.hid (fun b hb => by have := hb.1.2; have := HZ4.out; rw [World.size_alloc]; omega)
        have HcN : Hid (∀ b, (W3.heap.size ≤ b ∧ b < W4.heap.size) → b < (W4.alloc (.cells #[.pointer (some ⟨W3.heap.size, 0, none⟩)] 88)).heap.size ∧ ¬ ((F b ∧ b < W.heap.size) ∧ b ≠ r)) := Lib.hid (fun b hb => ⟨by rw [World.size_alloc]; omega, fun h => by have := h.1.2; have := HZ3.out; omega⟩)
        have HcL : Hid (ps.length + [(⟨page, 0, []⟩ : Pg)].length ≤ 100000000) := Lib.hid (by rw [← HNN.out, List.length_cons, List.length_nil]; have := HN2.out; omega)
        clear hA4 hA4' ho4 SA hrl
        go_wp2_with (at_builtin; refine El.wpList_append_own (v := .slice a0 N c0) typedPg rfl (.tmp 51) (.tmp 53) rfl (by go_simp) HO4.out ⟨W4.heap.size, 0, none⟩ 1 1 (by go_simp) [.pointer (some ⟨W3.heap.size, 0, none⟩)] [⟨page, 0, []⟩] _ (El.ownIn_one (E := pgEl) ⟨_, rfl, HPA.out.page⟩) rfl (fun j u hu => El.row_cells (heap_alloc_new W4 _) j u hu) HcF.out HcN.out HcL.out ?_; intro v7 w7 ho7 hk7; obtain ⟨a7, c7, rfl, _⟩ := ho7.slice; have hkx : Keeps (fun b => (F b ∧ b < W.heap.size) ∧ b ≠ r) (W4.alloc (.cells #[.pointer (some ⟨W3.heap.size, 0, none⟩)] 88)) w7 := hk7.mono (fun b _ e => (HO4.out.base e).1); have hA7 := HA4.out.keeps hkx (fun h => h.2 rfl); have r47 := hA7.c.2.2.2.2; have f47 := hA7.fr; have HA7 := Lib.hid hA7; have HKX := Lib.hid hkx; have HO7 := Lib.hid ho7; clear hA7 hkx ho7 hk7 r4 fr)
        go_meet
        have hk7 : Keeps (fun b => F b ∧ b < W.heap.size) W w7 := (Keeps.of_sees HSA.out).trans' HKX.out (fun b _ h => h.1)
        have hnb : ∀ {i}, ¬ ((fun b => (F b ∧ b < W.heap.size) ∧ b ≠ r) (⟨W.heap.size, i, none⟩ : Addr).block) := fun h => by have := h.1.2; simp at this
        have hk8 : ∀ v, Keeps (fun b => F b ∧ b < W.heap.size) W (w7.setCell ⟨r, 4, none⟩ v) := fun v => hk7.setCell (p := ⟨r, 4, none⟩) (fun _ => HCUT.out.fr) v
        have hbx : ∀ (v x : Value) i, w7.cell? ⟨W.heap.size, i, none⟩ = some x → (w7.setCell ⟨r, 4, none⟩ v).cell? ⟨W.heap.size, i, none⟩ = some x := fun v x i h =>
          (Keeps.setCell (F := fun b => b = r) (Keeps.refl _ w7) (p := ⟨r, 4, none⟩) (fun _ => rfl) v).cell (a := ⟨W.heap.size, i, none⟩) (by intro e; have e : W.heap.size = r := e; have := HRL.out; omega) h
        refine ⟨ps, ⟨page, 0, []⟩, ?_, ⟨HCUT.out.keep (hk8 _), .inl HCUT.out.fr, fun b hb => ?_, _, HA7.out.set4 _, ?_⟩, ⟨rfl, Int.le_refl _, by have := Hm.out; simp; omega, fun l hl => by cases hl⟩, by have := Hm.out; simp; omega, (hk8 _).mono (fun b _ h => h.1), hbx _ _ _ (HKX.out.cell hnb B0A.out), hbx _ _ _ (HKX.out.cell hnb B1A.out)⟩
        · rcases HCASE.out with ⟨_, h⟩ | ⟨h, _⟩
          · exact h _
          · cases h
        · rcases hb with hb | hb
          · exact HL.out b hb.1
          · have := HZ1.out; omega
        · have hO := HO7.out
          rw [show (ps ++ [(⟨page, 0, []⟩ : Pg)]).length = ps.length + 1 by simp] at hO
          refine (hO.keeps (Keeps.setCell (F := fun b => b = r) (Keeps.refl _ w7) (p := ⟨r, 4, none⟩) (fun _ => rfl) _) (fun b hb e => ?_)).mono (fun b _ hb => ?_)
          · have h1 := HRL.out
            have h2 := HZ3.out
            have h3 := HZ4.out
            rcases hb with hb | hb | hb
            · exact hb.2 e
            · have := hb.1; omega
            · rw [World.size_alloc] at hb; omega
          · have h1 := HRL.out
            have h2 := HZ3.out
            have h3 := HZ4.out
            rcases hb with hb | hb | hb
            · exact ⟨.inl hb.1, hb.2⟩
            · exact ⟨.inr (by have := hb.1; omega), by have := hb.1; omega⟩
            · rw [World.size_alloc] at hb
              exact ⟨.inr (by omega), by omega⟩
    case rest =>
      obtain ⟨Wx, rfl⟩ : ∃ Wx, Wx = wc := ⟨_, rfl⟩
      obtain ⟨qs, y, hpush, hR, hy, hroom, hkx, b0, b1⟩ := hcut
      obtain ⟨b, cap, p, Fx, hA, hcap, hcell, hpg, hFx, hFb, hback⟩ := hR.page (i := qs.length) (x := y) (by simp) hy ⟨Hm.out, Hm1.out⟩
      obtain ⟨M, hM⟩ : ∃ M, M = (qs ++ [y]).length := ⟨_, rfl⟩
      obtain ⟨k, hk⟩ : ∃ k, k = qs.length := ⟨_, rfl⟩
      simp only [] at hA hcap
      rw [← hM] at hA hcap
      rw [← hk] at hcell
      have hMk : M = k + 1 := by rw [hM, hk]; simp
      have hkM : k < M := by omega
      have hM9 : M ≤ 1048578 := by
        have h1 := congrArg List.length hpush
        have h2 := ps_le (fun p hp => (HD1.out.pgs p hp).2)
        have h3 := HD1.out.few
        rw [HE1.out] at h2 h3
        simp only [] at h2 h3
        have h4 : (qs ++ [{ y with ls := y.ls ++ [(⟨cs, soft⟩ : Ln)] }]).length = M := by rw [hM]; simp
        omega
      have hw1 : IntKind.i64.wrap ((M : Int) - 1) = (k : Int) := by rw [IntWalk.i64_in _ (by omega)]; omega
      have hw2 : IntKind.i64.wrap (next + 1) = next + 1 := by have := HX.out; have h1 := HF0.out; have h2 := HT.out; exact IntWalk.i64_in _ (by omega)
      have hw3 : IntKind.i64.wrap next = next := by have := HX.out; have h1 := HF0.out; have h2 := HT.out; exact IntWalk.i64_in _ (by omega)
      have hbox : ¬ Fx W.heap.size := fun e => by have h1 := (hFx _ e).1; rcases h1 with h1 | h1; exact absurd h1.2 (by omega); omega
      have HPUSH := Lib.hid hpush
      have HY := Lib.hid hy
      have HROOM := Lib.hid hroom
      have HKXX := Lib.hid hkx
      have B0X := Lib.hid b0
      have B1X := Lib.hid b1
      have HAX := Lib.hid hA
      have HC := Lib.hid hcell
      have HPG := Lib.hid hpg
      have HFx := Lib.hid hFx
      have HBX := Lib.hid hbox
      have HB := Lib.hid hback
      have HK := Lib.hid hk
      have HRX := Lib.hid hR
      have HBR := Lib.hid (fun e => (hFx r e).2.1 rfl : ¬ Fx r)
      have HBB := Lib.hid (fun e => (hFx b e).2.2.1 rfl : ¬ Fx b)
      clear hpush hR hy hroom hkx b0 b1 hA hcap hcell hpg hFx hFb hback hM hk hMk hM9 hbox
      go_wp2_with fail
      refine wpH_go Fx 15 (by kernel_rfl) (by kernel_rfl) (by rfl) (fun hB wq hsq => ?_)
      have SQ := Lib.hid hsq
      have DQ := Lib.hid (HAX.out.sees hsq)
      have DC := Lib.hid (hsq.cell HC.out)
      have D0 := Lib.hid (hsq.cell B0X.out)
      have D1 := Lib.hid (hsq.cell B1X.out)
      have PQ := Lib.hid (HPG.out.sees hsq)
      have HQ0 : Hid (∀ Wz, Keeps Fx wq Wz → Wz.cell? ⟨W.heap.size, 0, none⟩ = some (.slice ao cn ca)) := Lib.hid (fun Wz h => h.cell (a := ⟨W.heap.size, 0, none⟩) HBX.out D0.out)
      have HQ1 : Hid (∀ Wz, Keeps Fx wq Wz → Wz.cell? ⟨W.heap.size, 1, none⟩ = some (.bool soft)) := Lib.hid (fun Wz h => h.cell (a := ⟨W.heap.size, 1, none⟩) HBX.out D1.out)
      clear hsq
      have hS0 : Keeps Fx wq wq := Keeps.refl _ wq
      refine wpH_take (i := 0) (v := .pointer (some ⟨r, 0, none⟩)) hB (by rfl) (by kernel_rfl) (fun _ _ _ _ _ h => h) (by rfl) hS0 (fun W hI => by clear hI; go_simp) ?_; (try simp only [Act.put, List.setIfInBounds_toArray, List.set_cons_zero, List.set_cons_succ])
      refine wpH_take (i := 1) (v := .pointer (some ⟨r, 0, none⟩)) hB (by rfl) (by kernel_rfl) (fun _ _ _ _ _ h => h) (by rfl) hS0 (fun W hI => by clear hI; go_simp) ?_; (try simp only [Act.put, List.setIfInBounds_toArray, List.set_cons_zero, List.set_cons_succ])
      refine wpH_take (i := 2) (v := .pointer (some ⟨r, 4, none⟩)) hB (by rfl) (by kernel_rfl) (fun _ _ _ _ _ h => h) (by rfl) hS0 (fun W hI => by clear hI; go_simp) ?_; (try simp only [Act.put, List.setIfInBounds_toArray, List.set_cons_zero, List.set_cons_succ])
      refine wpH_take (i := 3) (v := .slice (some ⟨b, 0, none⟩) M cap) hB (by rfl) (by kernel_rfl) (fun _ _ _ _ _ h => h) (by rfl) hS0 (fun W hI => by have q := (DQ.out.keeps hI HBR.out).c.2.2.2.2; clear hI; go_simp) ?_; (try simp only [Act.put, List.setIfInBounds_toArray, List.set_cons_zero, List.set_cons_succ])
      refine wpH_take (i := 4) (v := .pointer (some ⟨r, 0, none⟩)) hB (by rfl) (by kernel_rfl) (fun _ _ _ _ _ h => h) (by rfl) hS0 (fun W hI => by clear hI; go_simp) ?_; (try simp only [Act.put, List.setIfInBounds_toArray, List.set_cons_zero, List.set_cons_succ])
      refine wpH_take (i := 5) (v := .pointer (some ⟨r, 0, none⟩)) hB (by rfl) (by kernel_rfl) (fun _ _ _ _ _ h => h) (by rfl) hS0 (fun W hI => by clear hI; go_simp) ?_; (try simp only [Act.put, List.setIfInBounds_toArray, List.set_cons_zero, List.set_cons_succ])
      refine wpH_take (i := 6) (v := .pointer (some ⟨r, 4, none⟩)) hB (by rfl) (by kernel_rfl) (fun _ _ _ _ _ h => h) (by rfl) hS0 (fun W hI => by clear hI; go_simp) ?_; (try simp only [Act.put, List.setIfInBounds_toArray, List.set_cons_zero, List.set_cons_succ])
      refine wpH_take (i := 7) (v := .slice (some ⟨b, 0, none⟩) M cap) hB (by rfl) (by kernel_rfl) (fun _ _ _ _ _ h => h) (by rfl) hS0 (fun W hI => by have q := (DQ.out.keeps hI HBR.out).c.2.2.2.2; clear hI; go_simp) ?_; (try simp only [Act.put, List.setIfInBounds_toArray, List.set_cons_zero, List.set_cons_succ])
      refine wpH_take (i := 8) (v := .int .i64 M) hB (by rfl) (by kernel_rfl) (fun _ _ _ _ _ h => h) (by rfl) hS0 (fun W hI => by clear hI; go_simp) ?_; (try simp only [Act.put, List.setIfInBounds_toArray, List.set_cons_zero, List.set_cons_succ])
      refine wpH_take (i := 9) (v := .int .i64 k) hB (by rfl) (by kernel_rfl) (fun _ _ _ _ _ h => h) (by rfl) hS0 (fun W hI => by clear hI; go_simp) ?_; (try simp only [Act.put, List.setIfInBounds_toArray, List.set_cons_zero, List.set_cons_succ])
      refine wpH_take (i := 10) (v := .pointer (some ⟨b, k, none⟩)) hB (by rfl) (by kernel_rfl) (fun _ _ _ _ _ h => h) (by rfl) hS0 (fun W hI => by clear hI; go_simp) ?_; (try simp only [Act.put, List.setIfInBounds_toArray, List.set_cons_zero, List.set_cons_succ])
      refine wpH_take (i := 11) (v := .pointer (some ⟨p, 0, none⟩)) hB (by rfl) (by kernel_rfl) (fun _ _ _ _ _ h => h) (by rfl) hS0 (fun W hI => by have q := hI.cell (a := ⟨b, k, none⟩) HBB.out DC.out; clear hI; go_simp) ?_; (try simp only [Act.put, List.setIfInBounds_toArray, List.set_cons_zero, List.set_cons_succ])
      refine wpH_take (i := 12) (v := .agg #[.slice ao cn ca, .bool soft]) hB (by rfl) (by kernel_rfl) (fun _ _ _ _ _ h => h) (by rfl) hS0 (fun W hI => by have q0 := HQ0.out _ hI; have q1 := HQ1.out _ hI; clear hI; go_simp) ?_; (try simp only [Act.put, List.setIfInBounds_toArray, List.set_cons_zero, List.set_cons_succ])
      have hrdq : RdC (fun b => G b ∧ b < W.heap.size) wq (.slice ao cn ca) cs := (HV.out.keeps HKXX.out (fun b hb => HG.out b hb.1)).sees SQ.out
      refine wpH_one (i := 13) (by kernel_rfl) (wpOp_enter (fn := 53) (args := #[.pointer (some ⟨p, 0, none⟩), .agg #[.slice ao cn ca, .bool soft]]) (by rfl) (by rfl) (by go_simp) ((PQ.out.push (Ht.out.sees PQ.out.see) (.slice ao cn ca) cs soft hrdq (fun b hb h => by
        rcases (HFx.out b h).1 with h1 | h1
        · exact HG.out b hb.1 h1.1
        · have := hb.2; omega) Hok.out HROOM.out).mono ?_))
      rintro e Wp ⟨rfl, hpgp, hkp⟩
      refine ⟨_, rfl, hkp, ?_⟩
      (try simp only [Act.put, List.setIfInBounds_toArray, List.set_cons_zero, List.set_cons_succ])
      have HKP := Lib.hid hkp
      have HPP := Lib.hid hpgp
      clear hkp hpgp hrdq
      refine wpH_one (i := 14) (by kernel_rfl) (wpOp_val (v := .int .i64 0) (w' := Wp) (by rfl) (wanted_none (by rfl) _) (by go_simp) ⟨HKP.out, ?_⟩)
      (try simp only [Act.put, List.setIfInBounds_toArray, List.set_cons_zero, List.set_cons_succ])
      refine wpH_end (by kernel_rfl) ?_
      have hkw : Keeps Fx Wx Wp := (Keeps.of_sees SQ.out).trans HKP.out
      have hRp := HB.out Wp { y with ls := y.ls ++ [⟨cs, soft⟩] } hkw (by rw [show ({ y with ls := y.ls ++ [⟨cs, soft⟩] } : Pg).most = page from HY.out.most]; exact HPP.out.page.mono (fun c _ h => by rcases h with h | h; exact .inl h; exact .inr (by have := SQ.out.size; omega)))
      have hset : (qs ++ [y]).set qs.length { y with ls := y.ls ++ [(⟨cs, soft⟩ : Ln)] } = qs ++ [{ y with ls := y.ls ++ [⟨cs, soft⟩] }] := by simp
      simp only [hset] at hRp
      have hkF : Keeps F W Wp := HKXX.out.trans' hkw (fun c hc h => by
        rcases (HFx.out c h).1 with h1 | h1
        · exact h1.1
        · omega)
      have hzx := HKXX.out.size
      have HR9 := Lib.hid (hRp.mono (G := fun b => F b ∨ W.heap.size ≤ b) (fun c _ h => by
        rcases h with (h | h) | h
        · exact .inl h.1
        · exact .inr (by omega)
        · exact .inr (by omega)) (fun c h => by rcases h with h | h; exact HL.out c h; have := HZ1.out; omega))
      have HKF := Lib.hid hkF
      obtain ⟨_, _, hA9, _⟩ := HR9.out.words
      have r3 := hA9.c.2.2.2.1
      have fr := hA9.fr
      clear hS0 hRp hset hkw hkF hzx hA9 HPP HKP PQ D0 D1 DC DQ SQ HB HRX HAX HC HPG
      go_wp2_with fail
      have hD := HD1.out
      rw [HE1.out] at hD
      simp only [HPUSH.out] at hD
      refine (revict_ok (HR9.out.set3 (next + 1)) hD).mono ?_
      rintro e We ⟨rfl, he, hke⟩
      have hk10 : Keeps F W (Wp.setCell ⟨r, 3, none⟩ (.int .i64 (next + 1))) := HKF.out.setCell (p := ⟨r, 3, none⟩) (fun _ => HR.out) _
      have HKE := Lib.hid (hk10.trans' hke (fun c hc h => by rcases h with h | h; exact h; omega))
      have HE := Lib.hid (he.mono (G := fun b => F b ∨ W.heap.size ≤ b) (fun c _ h => by
        rcases h with h | h
        · exact h
        · exact .inr (Nat.le_trans hk10.size h)) (fun c h => by rcases h with h | h; exact HL.out c h; have := HZ1.out; omega))
      obtain ⟨_, _, hA10, _⟩ := he.words
      have r3' := hA10.c.2.2.2.1
      clear r3 fr hk10 hke he hA10 hD
      go_wp2
      go_ret2
      refine ⟨rfl, ?_, HKE.out⟩
      have hE := HE.out
      rw [HE1.out]
      simp only [HPUSH.out]
      exact hE
end
end Go.Proofs.YthjcnhgfagefjaaDoor
