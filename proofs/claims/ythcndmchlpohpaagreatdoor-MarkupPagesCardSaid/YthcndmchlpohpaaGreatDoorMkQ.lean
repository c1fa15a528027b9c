/- markup's read (48). The library's variables hold what the program's text lays. -/
import Derived.Test.YthcndmchlpohpaaGreatDoorMkO
namespace Go.Proofs.YthcndmchlpohpaaGreatDoor
set_option linter.unusedVariables false
set_option linter.unusedSimpArgs false
open Go.RowKit Go.Shelf
attribute [local go_sem] Oper.semAt_some

/-- What a markup says: cells, soft, and whether it may be read. -/
def readStep (go : List UInt8 → List Cell → Cell → List Cell × Bool × Bool) (c : UInt8) (t : List UInt8) (cs : List Cell) (q : Cell) : List Cell × Bool × Bool :=
  if c = 92 ∧ t = [] then (cs, true, true)
  else if c = 91 then (if (Lib.cut t [93]).2.2 then go (Lib.cut t [93]).2.1 cs (taggedB (Lib.cut t [93]).1) else (cs, false, false))
  else if c = 95 then go t (cs ++ [q.blankP]) q
  else match putB cs ((Lib.decodeGo (strL (if c = 92 then t else c :: t))).1 : Int) q with
    | none => (cs, false, false)
    | some ds => go ((if c = 92 then t else c :: t).drop (Lib.decodeGo (strL (if c = 92 then t else c :: t))).2) ds q
def readF : Nat → List UInt8 → List Cell → Cell → List Cell × Bool × Bool
  | 0 => fun _ cs _ => (cs, false, true)
  | n + 1 => fun l cs q => match l with
    | [] => (cs, false, true)
    | c :: t => readStep (readF n) c t cs q
theorem readF_cons (n : Nat) (c : UInt8) (t : List UInt8) (cs : List Cell) (q : Cell) : readF (n + 1) (c :: t) cs q = readStep (readF n) c t cs q := rfl
def readB (l : List UInt8) : List Cell × Bool × Bool := readF l.length l [] zeroM
theorem decGo_width (l : List UInt8) (h : l ≠ []) : 1 ≤ (Lib.decodeGo (strL l)).2 ∧ (Lib.decodeGo (strL l)).2 ≤ l.length := by
  have hpos : 0 < (strL l).size := by
    rw [strL_size]
    rcases Nat.eq_zero_or_pos l.length with h0 | h0
    · exact absurd (List.eq_nil_of_length_eq_zero h0) h
    · exact h0
  have hd : Lib.decodeGo (strL l) = Utf8.decode (strL l) 0 := by unfold Lib.decodeGo; rw [if_neg (by omega)]
  rw [hd]
  have hwid := Lib.decodeL_width ((strL l).data.toList.drop 0)
  have hwle := Lib.decodeL_le ((strL l).data.toList.drop 0) (by rw [strL_list, List.drop_zero]; exact h)
  rw [Lib.decodeL_drop] at hwid hwle
  rw [strL_list, List.drop_zero] at hwle
  omega
theorem putB_len {cs : List Cell} {r : Int} {q : Cell} {ds : List Cell} (h : putB cs r q = some ds) : ds.length ≤ cs.length + 2 := by
  unfold putB at h
  split at h
  · split at h
    · cases h
      rw [List.length_append]
      unfold ofL
      split <;> simp
    · cases h
  · split at h
    · cases h
    · split at h
      · cases h; rw [List.length_set]; omega
      · cases h
theorem cut_len (t : List UInt8) (x : UInt8) : (Lib.cut t [x]).2.1.length ≤ t.length ∧ (Lib.cut t [x]).1.length ≤ t.length := by
  unfold Lib.cut
  split
  · constructor
    · show (t.drop _).length ≤ _; rw [List.length_drop]; omega
    · show (t.take _).length ≤ _; rw [List.length_take]; omega
  · exact ⟨Nat.zero_le _, Nat.le_refl _⟩
/-- What stands in memory: the result, the line so far, the pen. -/
structure RdS (w : World) (v : Value) (so : Bool) (q : Cell) (W : World) : Prop where
  s : Sees w W
  z : LnAt W w.heap.size (.slice none 0 0) false
  o : LnAt W (w.heap.size + 1) v so
  p : PeAt W (w.heap.size + 2) q
namespace RdS
variable {w W W' : World} {v : Value} {so : Bool} {q : Cell}
theorem sees (h : RdS w v so q W) (hs : Sees W W') : RdS w v so q W' := ⟨h.s.trans hs, h.z.sees hs, h.o.sees hs, h.p.sees hs⟩
theorem keeps (h : RdS w v so q W) (hk : Keeps (fun b => w.heap.size + 3 ≤ b) W W') : RdS w v so q W' :=
  ⟨((Keeps.of_sees (F := fun _ => False) h.s).trans' hk (fun b hb e => by omega)).sees_end (fun _ _ h => h), h.z.keeps hk (by omega), h.o.keeps hk (by omega), by
    unfold PeAt
    rw [hk.block _ (Array.getElem?_eq_some_iff.1 h.p).1 (by omega)]
    exact h.p⟩
theorem pen (h : RdS w v so q W) (d : Cell) : RdS w v so d (W.setRow (w.heap.size + 2) d.pvals.toArray) :=
  ⟨(Keeps.setRow' (F := fun _ => False) (Keeps.of_sees h.s) (by omega) _).sees_end (fun _ _ h => h), by unfold LnAt; rw [setRow_other _ _ _ _ (by omega)]; exact h.z, by unfold LnAt; rw [setRow_other _ _ _ _ (by omega)]; exact h.o, setRow_heap _ _ _ _ _ _ h.p⟩
theorem cells (h : RdS w v so q W) (u : Value) : RdS w u so q (W.setCell ⟨w.heap.size + 1, 0, none⟩ u) :=
  ⟨h.s.setCell (Nat.le_succ _) _, by unfold LnAt; rw [heap_setCell_other _ _ _ _ (by show w.heap.size ≠ w.heap.size + 1; omega)]; exact h.z, heap_setCell_same _ _ _ _ _ _ h.o, by unfold PeAt; rw [heap_setCell_other _ _ _ _ (by show w.heap.size + 2 ≠ w.heap.size + 1; omega)]; exact h.p⟩
theorem soft (h : RdS w v so q W) (b : Bool) : RdS w v b q (W.setCell ⟨w.heap.size + 1, 1, none⟩ (.bool b)) :=
  ⟨h.s.setCell (Nat.le_succ _) _, by unfold LnAt; rw [heap_setCell_other _ _ _ _ (by show w.heap.size ≠ w.heap.size + 1; omega)]; exact h.z, heap_setCell_same _ _ _ _ _ _ h.o, by unfold PeAt; rw [heap_setCell_other _ _ _ _ (by show w.heap.size + 2 ≠ w.heap.size + 1; omega)]; exact h.p⟩
end RdS
theorem ln_isAgg : ∀ W, (isAgg 27).run Tryz.prog W = .ok true W := fun _ => by kernel_rfl
theorem ln_sizeOf : ∀ W, (sizeOf 27).run Tryz.prog W = .ok 2 W := fun _ => by kernel_rfl
theorem run_loadLn {W : World} {b : Nat} {v : Value} {so : Bool} (h : LnAt W b v so) : (Instr.loadAt 27 (.pointer (some ⟨b, 0, none⟩))).run Tryz.prog W = .ok (.agg #[v, .bool so]) W :=
  run_load_agg 27 b 0 [v, .bool so] ln_isAgg ln_sizeOf fun j x hx => by
    rw [Nat.zero_add, cell_of_row _ _ _ _ _ _ h]
    simpa using hx
theorem run_storeLn {W : World} {b : Nat} {v u : Value} {so so' : Bool} (h : LnAt W b v so) (h1 : u.oneCell' = true) : (Instr.storeAt 27 (.pointer (some ⟨b, 0, none⟩)) (.agg #[u, .bool so'])).run Tryz.prog W = .ok () (W.setRow b #[u, .bool so']) :=
  run_storeAt_row (P := Tryz.prog) (W := W) 27 b _ 27 [u, .bool so'] ln_sizeOf h rfl (by intro v hv; simp at hv; rcases hv with rfl | rfl; exact h1; rfl)
theorem exec_buildBl {ρ : Operand → Value} {o : Oper} {x : Operand} {q : Cell} {W : World} (ho : o.op = .build 42 #[(2, .const (.int .i64 1)), (3, x)]) (hc : ρ (.const (.int .i64 1)) = .int .i64 1) (hx : ρ x = q.pen) : (execOp ρ o).run Tryz.prog W = .ok (.value q.blankP.val) W := by
  have h : (Instr.build 42 #[(2, .int .i64 1), (3, q.pen)]).run Tryz.prog W = .ok q.blankP.val W := by
    unfold Cell.pen Cell.blankP Cell.val
    go_simp
  unfold execOp
  rw [ho]
  simp only [List.map_toArray, List.map_cons, List.map_nil, hx, hc, Sem.run_bind, h, Result.andThen_ok]
  rfl
theorem run_buildOne (d : Cell) (W : World) : (Instr.buildSlice 25 1 #[(0, d.val)]).run Tryz.prog W = .ok (.slice (some ⟨W.heap.size, 0, none⟩) 1 1) (W.alloc (.cells d.vals.toArray 42)) := by
  unfold Cell.val; go_simp; rfl
theorem run_storeCs {W : World} {b : Nat} {v : Value} {so : Bool} (h : LnAt W b v so) (a : Option Addr) (n c : Nat) : (Instr.storeAt 25 (.pointer (some ⟨b, 0, none⟩)) (.slice a n c)).run Tryz.prog W = .ok () (W.setCell ⟨b, 0, none⟩ (.slice a n c)) := by
  have hc : W.cell? ⟨b, 0, none⟩ = some v := h.c.1
  have hf : W.frozen? ⟨b, 0, none⟩ = false := frozen_of_row _ _ _ _ _ h
  go_simp
theorem run_storeSoft {W : World} {b : Nat} {v : Value} {so : Bool} (h : LnAt W b v so) (y : Bool) : (Instr.storeAt 4 (.pointer (some ⟨b, 1, none⟩)) (.bool y)).run Tryz.prog W = .ok () (W.setCell ⟨b, 1, none⟩ (.bool y)) := by
  have hc : W.cell? ⟨b, 1, none⟩ = some (.bool so) := h.c.2
  have hf : W.frozen? ⟨b, 1, none⟩ = false := frozen_of_row _ _ _ _ _ h
  go_simp
theorem results_ln {fn : Func} {tmps : Array Value} {W : World} {i j b : Nat} {v u : Value} {so : Bool} (hr : fn.results = #[.cell i 27, .tmp j]) (hi : tmps[i]?.getD undef = .pointer (some ⟨b, 0, none⟩)) (hj : tmps[j]?.getD undef = u) (h : LnAt W b v so) :
    (results fn tmps).run Tryz.prog W = .ok (.tuple #[.agg #[v, .bool so], u]) W := by
  have h1 : (loadVar 27 ⟨b, 0, none⟩).run Tryz.prog W = .ok (.agg #[v, .bool so]) W := run_loadLn h
  unfold results
  rw [hr]
  simp [hi, hj, asAddr, h1]
/-- What read answers, and what it may touch. -/
def RdP (w : World) (R : List Cell × Bool × Bool) (e : Ending) (w' : World) : Prop := ∃ a n c so, e = .returned (.tuple #[.agg #[.slice a n c, .bool so], .bool R.2.2]) ∧ Sees w w' ∧ (R.2.2 = true → so = R.2.1 ∧ cellEl.Own (fun b => w.heap.size ≤ b) w' (.slice a n c) R.1)
set_option maxHeartbeats 2000000 in
set_option maxRecDepth 100000 in
theorem read_any (l : List UInt8) (hl : l.length ≤ 1500000) (w : World) (hw : Sd w) :
    Calls Tryz.prog 31 #[.string (strL l)] w fun e w' => RdP w (readB l) e w' := by
  obtain ⟨R, hR⟩ : ∃ R, R = readB l := ⟨_, rfl⟩
  rw [← hR]
  have HR := Lib.hid hR
  have HW := Lib.hid hw
  have H0 : Hid (∀ X, X = w.alloc (.cells #[.slice none 0 0, .bool false] 27) → ∀ Y, Y = X.alloc (.cells #[.slice none 0 0, .bool false] 27) → ∀ Z, Z = Y.alloc (.cells zeroM.pvals.toArray 40) → RdS w (.slice none 0 0) false zeroM Z) := by
    rintro X rfl Y rfl Z rfl
    have e1 : (w.alloc (.cells #[.slice none 0 0, .bool false] 27)).heap.size = w.heap.size + 1 := World.size_alloc _ _
    refine ⟨(((Sees.refl w).alloc _).alloc _).alloc _, (LnAt.new rfl : LnAt (w.alloc _) _ _ _).sees (((Sees.refl _).alloc _).alloc _), (LnAt.new e1.symm : LnAt ((w.alloc _).alloc _) _ _ _).sees ((Sees.refl _).alloc _), ?_⟩
    have := heap_alloc_new ((w.alloc (.cells #[.slice none 0 0, .bool false] 27)).alloc (.cells #[.slice none 0 0, .bool false] 27)) (.cells zeroM.pvals.toArray 40)
    rwa [World.size_alloc, World.size_alloc] at this
  clear hR hw
  go_enter Tryz.func31, Tryz.ntmps31
  go_upto_region 3 with fail
  refine wp_world fun W1 hW1 => ?_
  have T1 := Lib.hid (H0.out _ rfl _ rfl W1 hW1)
  clear hW1 H0
  go_loopw [0] (fun x W => ∃ (L : List UInt8) (fu : Nat) (cs : List Cell) (q : Cell) (v : Value), x = .string (strL L) ∧ L.length ≤ fu ∧ fu ≤ 1500000 ∧ cs.length + 2 * L.length ≤ 3000000 ∧ Hid (readF fu L cs q = R) ∧ RdS w v false q W ∧ cellEl.Own (fun b => w.heap.size + 3 ≤ b) W v cs) (fun x _ => strSz x)
  case atStart => exact ⟨l, l.length, [], zeroM, .slice none 0 0, rfl, Nat.le_refl _, hl, by simp; omega, by unfold RowKit.Hid; rw [HR.out]; rfl, T1.out, El.Own.nil _ _⟩
  case round =>
    obtain ⟨L, fu, cs, q, v, rfl, hfu, hfu2, hcl, hE, hT, hO⟩ := hrel
    obtain ⟨a, cp, rfl, hcp⟩ := hO.slice
    obtain ⟨N, hN⟩ : ∃ N, N = cs.length := ⟨_, rfl⟩
    rw [← hN] at hT hO hcl hcp
    have HN := Lib.hid hN
    have T2 := Lib.hid hT
    have O2 := Lib.hid hO
    clear hT hO T1 hN
    cases L with
    | nil =>
      have hq : R = (cs, false, true) := by
        rw [← hE.out]
        cases fu <;> rfl
      have HQ := Lib.hid hq
      have hem : strL [] = ⟨#[]⟩ := rfl
      rw [hem]
      clear hE hq hem
      go_wp2_with (first
        | (guard_target = wpList _ _ _ ({ dst := _, op := Op.load 27 _, type := _, pos := _, after := _, guard := _ } :: _) _ _; refine wpList_val rfl (exec_load (v := .agg #[.slice a N cp, .bool false]) rfl rfl (run_loadLn T2.out.o)) (fun K hK => ?_); go_simp; refine hK _ _ ?_; clear hK K)
        | (guard_target = wpList _ _ _ ({ dst := _, op := Op.store 27 _ _, type := _, pos := _, after := _, guard := _ } :: _) _ _; refine wpList_skip rfl (exec_store (v := .agg #[.slice a N cp, .bool false]) rfl rfl rfl (run_storeLn T2.out.z (by rfl))) (fun K hK => ?_); go_simp; refine hK _ _ ?_; clear hK K))
      have hzz : LnAt (wr.setRow w.heap.size #[.slice a N cp, .bool false]) w.heap.size (.slice a N cp) false := setRow_heap _ _ _ _ _ _ T2.out.z
      have hss : Sees w (wr.setRow w.heap.size #[.slice a N cp, .bool false]) := (Keeps.setRow' (F := fun _ => False) (Keeps.of_sees T2.out.s) (Nat.le_refl _) _).sees_end (fun _ _ h => h)
      have O3 : cellEl.Own (fun b => w.heap.size + 3 ≤ b) (wr.setRow w.heap.size #[.slice a N cp, .bool false]) (.slice a N cp) cs := O2.out.keeps (Keeps.setRowF (F := fun b => b = w.heap.size) (Keeps.refl _ wr) rfl _) (fun b hb e => by omega)
      exact bodyPost_ret (results_ln rfl rfl rfl hzz) rfl ⟨a, N, cp, false, by rw [HQ.out]; rfl, hss, fun _ => by rw [HQ.out]; exact ⟨rfl, O3.mono fun b _ hb => by omega⟩⟩
    | cons c t =>
      obtain ⟨fu, rfl⟩ : ∃ k, fu = k + 1 := ⟨fu - 1, by simp at hfu; omega⟩
      have hlt : t.length ≤ fu := by simpa using hfu
      have hlt2 : N + 2 * t.length + 2 ≤ 3000000 := by simp at hcl; omega
      clear hfu hcl
      have hemp : (strL (c :: t)).toList.isEmpty = false := by
        rw [← decide_eq_emptyBytes]
        exact decide_eq_false (fun h => by have := congrArg ByteArray.size h; rw [strL_size] at this; cases this)
      have hsz : (strL (c :: t)).size = t.length + 1 := by rw [strL_size]; rfl
      have hb1 : ¬ ((t.length : Int) + 1 < 1) := by omega
      have hg : ∀ h, (strL (c :: t))[0]'h = c := fun h => strL_get (c :: t) 0
      have hx : (strL (c :: t)).extract 1 (t.length + 1) = strL t := by rw [strL_extract, List.take_of_length_le (by simp)]; rfl
      replace hE := (readF_cons fu c t cs q).symm.trans hE.out
      unfold readStep at hE
      by_cases h1 : c = 92 ∧ t = []
      · rw [if_pos h1] at hE
        obtain ⟨rfl, rfl⟩ := h1
        have HQ := Lib.hid hE.symm
        have hbs : strL [92] = ⟨#[92]⟩ := rfl
        rw [hbs]
        clear hE hbs hemp hsz hg hx
        have T3 : ∀ W', W' = wr.setCell ⟨w.heap.size + 1, 1, none⟩ (.bool true) → RdS w (.slice a N cp) true q W' := by rintro W' rfl; exact T2.out.soft true
        have hfz : wr.frozen? ⟨w.heap.size + 1, 1, none⟩ = false := frozen_of_row _ _ _ _ _ T2.out.o
        have hc1 := T2.out.o.c.2
        clear hc1 hfz
        go_upto_region 20 with (guard_target = wpList _ _ _ ({ dst := _, op := Op.store 4 _ _, type := _, pos := _, after := _, guard := _ } :: _) _ _; refine wpList_skip rfl (exec_store (v := .bool true) rfl rfl rfl (run_storeSoft T2.out.o true)) (fun K hK => ?_); go_simp; refine hK _ _ ?_; clear hK K)
        refine wp_world fun W2 hW2 => ?_
        have T4 := Lib.hid (T3 W2 hW2)
        have O4 : cellEl.Own (fun b => w.heap.size + 3 ≤ b) W2 (.slice a N cp) cs := by rw [hW2]; exact O2.out.keeps (Keeps.setCell (F := fun b => b = w.heap.size + 1) (Keeps.refl _ wr) (fun _ => rfl) _) (fun b hb e => by omega)
        clear hW2 T3 T2
        go_wp2_with (first
          | (guard_target = wpList _ _ _ ({ dst := _, op := Op.load 27 _, type := _, pos := _, after := _, guard := _ } :: _) _ _; refine wpList_val rfl (exec_load (v := .agg #[.slice a N cp, .bool true]) rfl rfl (run_loadLn T4.out.o)) (fun K hK => ?_); go_simp; refine hK _ _ ?_; clear hK K)
          | (guard_target = wpList _ _ _ ({ dst := _, op := Op.store 27 _ _, type := _, pos := _, after := _, guard := _ } :: _) _ _; refine wpList_skip rfl (exec_store (v := .agg #[.slice a N cp, .bool true]) rfl rfl rfl (run_storeLn T4.out.z (by rfl))) (fun K hK => ?_); go_simp; refine hK _ _ ?_; clear hK K))
        have hzz : LnAt (W2.setRow w.heap.size #[.slice a N cp, .bool true]) w.heap.size (.slice a N cp) true := setRow_heap _ _ _ _ _ _ T4.out.z
        have hss : Sees w (W2.setRow w.heap.size #[.slice a N cp, .bool true]) := (Keeps.setRow' (F := fun _ => False) (Keeps.of_sees T4.out.s) (Nat.le_refl _) _).sees_end (fun _ _ h => h)
        have O5 : cellEl.Own (fun b => w.heap.size + 3 ≤ b) (W2.setRow w.heap.size #[.slice a N cp, .bool true]) (.slice a N cp) cs := O4.keeps (Keeps.setRowF (F := fun b => b = w.heap.size) (Keeps.refl _ W2) rfl _) (fun b hb e => by omega)
        exact bodyPost_ret (results_ln rfl rfl rfl hzz) rfl ⟨a, N, cp, true, by rw [HQ.out]; rfl, hss, fun _ => by rw [HQ.out]; exact ⟨rfl, O5.mono fun b _ hb => by omega⟩⟩
      · rw [if_neg h1] at hE
        have hne : ((strL (c :: t)).toList == [92]) = false := by
          rw [ByteArray.toList_eq, strL_list, beq_eq_false_iff_ne]
          intro e
          exact h1 ⟨(List.cons.inj e).1, (List.cons.inj e).2⟩
        by_cases hc : c = 91
        · rw [if_pos hc] at hE
          obtain ⟨K, hK⟩ : ∃ K, K = Lib.cut t [93] := ⟨_, rfl⟩
          rw [← hK] at hE
          have hkl := cut_len t 93
          rw [← hK] at hkl
          obtain ⟨tg, rs, is⟩ := K
          have KC : Hid (∀ W, Sees w W → Calls Tryz.prog 47 #[.string (strL t), .string ⟨#[93]⟩] W fun e w' => e = .returned (.tuple #[.string (strL tg), .string (strL rs), .bool is]) ∧ Sees W w') := fun W hs => by
            have q := cut_any (strL t) (by rw [strL_size]; omega) 93 W (HW.out.sees hs)
            rw [strL_list, ← hK] at q
            exact q
          have hm : c.toNat = 91 := by rw [hc]; rfl
          have HE := Lib.hid hE
          clear hE hK hc h1
          go_wp2_with fail
          refine (KC.out _ T2.out.s).mono ?_
          rintro e W2 ⟨rfl, s2⟩
          have T3 := Lib.hid (T2.out.sees s2)
          have O3 := Lib.hid (O2.out.sees s2)
          clear s2 T2 O2 KC
          cases is with
          | false =>
            have HQ : Hid (R = (cs, false, false)) := HE.out.symm
            go_wp2_with (first
              | (guard_target = wpList _ _ _ ({ dst := _, op := Op.load 27 _, type := _, pos := _, after := _, guard := _ } :: _) _ _; refine wpList_val rfl (exec_load (v := .agg #[.slice a N cp, .bool false]) rfl rfl (run_loadLn T3.out.o)) (fun K hK => ?_); go_simp; refine hK _ _ ?_; clear hK K)
              | (guard_target = wpList _ _ _ ({ dst := _, op := Op.store 27 _ _, type := _, pos := _, after := _, guard := _ } :: _) _ _; refine wpList_skip rfl (exec_store (v := .agg #[.slice a N cp, .bool false]) rfl rfl rfl (run_storeLn T3.out.z (by rfl))) (fun K hK => ?_); go_simp; refine hK _ _ ?_; clear hK K))
            have hzz : LnAt (W2.setRow w.heap.size #[.slice a N cp, .bool false]) w.heap.size (.slice a N cp) false := setRow_heap _ _ _ _ _ _ T3.out.z
            have hss : Sees w (W2.setRow w.heap.size #[.slice a N cp, .bool false]) := (Keeps.setRow' (F := fun _ => False) (Keeps.of_sees T3.out.s) (Nat.le_refl _) _).sees_end (fun _ _ h => h)
            exact bodyPost_ret (results_ln rfl rfl rfl hzz) rfl ⟨a, N, cp, false, by rw [HQ.out]; rfl, hss, fun h => by rw [HQ.out] at h; cases h⟩
          | true =>
            have HE2 : Hid (readF fu rs cs (taggedB tg) = R) := HE.out
            have KT : Hid (∀ W, Sees w W → Calls Tryz.prog 48 #[.string (strL tg)] W fun e w' => e = .returned (taggedB tg).pen ∧ Sees W w') := fun W hs => tagged_any tg (by omega) W (HW.out.sees hs)
            obtain ⟨d, hd⟩ : ∃ d, d = taggedB tg := ⟨_, rfl⟩
            rw [← hd] at HE2 KT
            clear hd HE
            go_wp2_with fail
            refine (KT.out _ T3.out.s).mono ?_
            rintro e W3 ⟨rfl, s3⟩
            have T4 := Lib.hid (T3.out.sees s3)
            have O4 := Lib.hid (O3.out.sees s3)
            clear s3 T3 O3 KT
            go_wp2_with (guard_target = wpList _ _ _ ({ dst := _, op := Op.store 40 _ _, type := _, pos := _, after := _, guard := _ } :: _) _ _; refine wpList_skip rfl (exec_store (v := d.pen) rfl rfl rfl (run_storePe T4.out.p d)) (fun K hK => ?_); go_simp; refine hK _ _ ?_; clear hK K)
            have T5 := Lib.hid (T4.out.pen d)
            have O5 : cellEl.Own (fun b => w.heap.size + 3 ≤ b) (W3.setRow (w.heap.size + 2) d.pvals.toArray) (.slice a N cp) cs := O4.out.keeps (Keeps.setRowF (F := fun b => b = w.heap.size + 2) (Keeps.refl _ W3) rfl _) (fun b hb e => by omega)
            go_roundw
            case rel => exact ⟨rs, fu, cs, d, .slice a N cp, rfl, by omega, by omega, by rw [← HN.out]; omega, HE2.out, T5.out, O5⟩
            case measure => simp [strSz, strL_size]; omega
        · rw [if_neg hc] at hE
          by_cases hc5 : c = 95
          · rw [if_pos hc5] at hE
            have hm : c.toNat = 95 := by rw [hc5]; rfl
            have HE := Lib.hid hE
            clear hE hc hc5 h1
            go_upto_region 12 with fail
            refine wpH_go (fun b => (Value.slice a N cp).ownBlock = some b ∨ b = w.heap.size + 1) 11 (by kernel_rfl) (by kernel_rfl) (by rfl) (fun hB v0 hs9 => ?_)
            have T3 := Lib.hid (T2.out.sees hs9)
            have O3 := Lib.hid (O2.out.sees hs9)
            have HV0 : Hid (w.heap.size + 3 ≤ v0.heap.size) := by
              have := (Array.getElem?_eq_some_iff.1 T3.out.p).1
              exact this
            have hS0 : Keeps (fun b => (Value.slice a N cp).ownBlock = some b ∨ b = w.heap.size + 1) v0 v0 := Keeps.refl _ v0
            have NB : Hid (¬ ((Value.slice a N cp).ownBlock = some (w.heap.size + 2) ∨ w.heap.size + 2 = w.heap.size + 1)) := fun e => e.elim (fun e => by have := (O3.out.base e).1; omega) (fun e => by omega)
            have HPK : Hid (∀ W, Keeps (fun b => (Value.slice a N cp).ownBlock = some b ∨ b = w.heap.size + 1) v0 W → PeAt W (w.heap.size + 2) q) := fun W hI => by
              unfold PeAt
              rw [hI.block _ (Array.getElem?_eq_some_iff.1 T3.out.p).1 NB.out]
              exact T3.out.p
            clear hs9 T2 O2
            refine wpH_take (i := 0) (v := .pointer (some ⟨w.heap.size + 1, 0, none⟩)) hB (by rfl) (by kernel_rfl) (fun _ _ _ _ _ h => h) (by rfl) hS0 (fun W hI => by clear hI; go_simp) ?_; (try simp only [Act.put, List.setIfInBounds_toArray, List.set_cons_zero, List.set_cons_succ])
            refine wpH_take (i := 2) (v := q.pen) hB (by rfl) (by kernel_rfl) (fun _ _ _ _ _ h => h) (by rfl) hS0 (fun W hI => exec_load rfl rfl (run_loadPe (HPK.out W hI))) ?_
            (try simp only [Act.put, List.setIfInBounds_toArray, List.set_cons_zero, List.set_cons_succ])
            refine wpH_take (i := 3) (v := q.blankP.val) hB (by rfl) (by kernel_rfl) (fun _ _ _ _ _ h => h) (by rfl) hS0 (fun W hI => exec_buildBl rfl rfl (by clear hI; go_simp)) ?_
            (try simp only [Act.put, List.setIfInBounds_toArray, List.set_cons_zero, List.set_cons_succ])
            refine wpH_take (i := 6) (v := .string (strL (c :: t))) hB (by rfl) (by kernel_rfl) (fun _ _ _ _ _ h => h) (by rfl) hS0 (fun W hI => by clear hI; go_simp) ?_; (try simp only [Act.put, List.setIfInBounds_toArray, List.set_cons_zero, List.set_cons_succ])
            refine wpH_take (i := 7) (v := .string (strL t)) hB (by rfl) (by kernel_rfl) (fun _ _ _ _ _ h => h) (by rfl) hS0 (fun W hI => by clear hI; go_simp) ?_; (try simp only [Act.put, List.setIfInBounds_toArray, List.set_cons_zero, List.set_cons_succ])
            have hc0 := T3.out.o.c.1
            have HRW := Lib.hid (heap_alloc_new v0 (.cells q.blankP.vals.toArray 42))
            have HO6 := Lib.hid (O3.out.cut.sees ((Sees.refl v0).alloc (.cells q.blankP.vals.toArray 42)))
            have HFX := Lib.hid (show ∀ b, (w.heap.size + 3 ≤ b ∧ b < v0.heap.size) → b < (v0.alloc (.cells q.blankP.vals.toArray 42)).heap.size from fun b hb => by rw [World.size_alloc]; omega)
            have HXL := Lib.hid (show cs.length + [q.blankP].length ≤ 100000000 by rw [List.length_singleton, ← HN.out]; omega)
            have hSA : Keeps (fun b => (Value.slice a N cp).ownBlock = some b ∨ b = w.heap.size + 1) v0 (v0.alloc (.cells q.blankP.vals.toArray 42)) := Keeps.of_sees ((Sees.refl v0).alloc _)
            have hc1 : (v0.alloc (.cells q.blankP.vals.toArray 42)).cell? ⟨w.heap.size + 1, 0, none⟩ = some (.slice a N cp) := ((Sees.refl v0).alloc _).cell hc0
            refine wpH_two (i := 1) (j := 4) (by kernel_rfl) ?_ ?_
            · refine wpOp_val (v := .slice a N cp) (w' := v0) (by rfl) (wanted_none (by rfl) _) (by clear hc1; go_simp) ⟨hS0, ?_⟩
              (try simp only [Act.put, List.setIfInBounds_toArray, List.set_cons_zero, List.set_cons_succ])
              clear hS0
              refine wpH_one (i := 4) (by kernel_rfl) ?_
              refine wpOp_val (v := .slice (some ⟨v0.heap.size, 0, none⟩) 1 1) (w' := v0.alloc (.cells q.blankP.vals.toArray 42)) (by rfl) (wanted_none (by rfl) _) (exec_buildS (a := q.blankP.val) rfl (by clear hc0; go_simp) (run_buildOne q.blankP v0)) ⟨hSA, ?_⟩
              (try simp only [Act.put, List.setIfInBounds_toArray, List.set_cons_zero, List.set_cons_succ])
              have hS1 := hSA
              obtain ⟨v7, w7, ha7, ho7, hk7⟩ := El.run_append_own typedCell 25 HO6.out ⟨v0.heap.size, 0, none⟩ 1 1 q.blankP.vals [q.blankP] (fun _ => False) (El.ownIn_one (E := cellEl) rfl) rfl (fun j u hu => El.row_cells HRW.out j u hu) HFX.out (fun b hb => hb.elim) HXL.out
              have hS2 := hS1.trans (hk7.mono fun b _ e => Or.inl e)
              have T7 : Hid (RdS w (.slice a N cp) false q w7) := (T3.out.sees ((Sees.refl v0).alloc _)).keeps (hk7.mono fun g' _ e => ((HO6.out.base e).1).1)
              have HO7 := Lib.hid ho7
              obtain ⟨a7, c7, hv7, _⟩ := ho7.slice
              obtain ⟨N7, hN7⟩ : ∃ N7, N7 = (cs ++ [q.blankP]).length := ⟨_, rfl⟩
              rw [← hN7] at hv7
              subst hv7
              have HN7 := Lib.hid hN7
              refine wpH_one (i := 5) (by kernel_rfl) (wpOp_val (v := .slice a7 N7 c7) (w' := w7) (by rfl) (wanted_none (by rfl) _) (exec_append (v := .slice a N cp) (u := .slice (some ⟨v0.heap.size, 0, none⟩) 1 1) rfl (by clear ha7; go_simp) (by clear ha7; go_simp) ha7) ⟨hS2, ?_⟩)
              (try simp only [Act.put, List.setIfInBounds_toArray, List.set_cons_zero, List.set_cons_succ])
              clear ha7 ho7 hk7 hN7 hS1
              have hS0 := hS2
              refine wpH_take (i := 8) (v := .pointer (some ⟨w.heap.size + 1, 0, none⟩)) hB (by rfl) (by kernel_rfl) (fun _ _ _ _ _ h => h) (by rfl) hS0 (fun W hI => by clear hI; go_simp) ?_; (try simp only [Act.put, List.setIfInBounds_toArray, List.set_cons_zero, List.set_cons_succ])
              have hS3 := hS2.setCell (p := ⟨w.heap.size + 1, 0, none⟩) (fun _ => Or.inr rfl) (.slice a7 N7 c7)
              refine wpH_one (i := 9) (by kernel_rfl) (wpOp_skip (w' := w7.setCell ⟨w.heap.size + 1, 0, none⟩ (.slice a7 N7 c7)) (by rfl) (wanted_none (by rfl) _) (exec_store (v := .slice a7 N7 c7) rfl rfl rfl (run_storeCs T7.out.o a7 N7 c7)) ⟨hS3, ?_⟩)
              (try simp only [Act.put, List.setIfInBounds_toArray, List.set_cons_zero, List.set_cons_succ])
              clear hS0
              have hS0 := hS3
              refine wpH_take (i := 10) (v := .string (strL t)) hB (by rfl) (by kernel_rfl) (fun _ _ _ _ _ h => h) (by rfl) hS0 (fun W hI => by clear hI; go_simp) ?_; (try simp only [Act.put, List.setIfInBounds_toArray, List.set_cons_zero, List.set_cons_succ])
              refine wpH_end (by kernel_rfl) ?_
              clear hS0 hS2 hS3 hB
              have T8 := Lib.hid (T7.out.cells (.slice a7 N7 c7))
              have O8 : cellEl.Own (fun b => w.heap.size + 3 ≤ b) (w7.setCell ⟨w.heap.size + 1, 0, none⟩ (.slice a7 N7 c7)) (.slice a7 N7 c7) (cs ++ [q.blankP]) :=
                (HO7.out.mono fun b _ hb => by
                  rcases hb with hb | hb | hb
                  · exact hb.1
                  · exact hb.elim
                  · have := HV0.out; rw [World.size_alloc] at hb; omega).keeps (Keeps.setCell (F := fun b => b = w.heap.size + 1) (Keeps.refl _ w7) (fun _ => rfl) _) (fun b hb e => by omega)
              have HO8 := Lib.hid O8
              clear O8 HO7 T7
              go_wp2
              go_roundw
              case rel => exact ⟨t, fu, cs ++ [q.blankP], q, .slice a7 N7 c7, rfl, by omega, by omega, by rw [List.length_append, List.length_singleton, ← HN.out]; omega, HE.out, T8.out, HO8.out⟩
              case measure => simp [strSz, strL_size]
            · refine wpOp_val (v := .slice (some ⟨v0.heap.size, 0, none⟩) 1 1) (w' := v0.alloc (.cells q.blankP.vals.toArray 42)) (by rfl) (wanted_none (by rfl) _) (exec_buildS (a := q.blankP.val) rfl (by clear hc0; go_simp) (run_buildOne q.blankP v0)) ⟨hSA, ?_⟩
              (try simp only [Act.put, List.setIfInBounds_toArray, List.set_cons_zero, List.set_cons_succ])
              clear hS0
              refine wpH_one (i := 1) (by kernel_rfl) (wpOp_val (v := .slice a N cp) (w' := v0.alloc (.cells q.blankP.vals.toArray 42)) (by rfl) (wanted_none (by rfl) _) (by clear hc0; go_simp) ⟨hSA, ?_⟩)
              (try simp only [Act.put, List.setIfInBounds_toArray, List.set_cons_zero, List.set_cons_succ])
              have hS1 := hSA
              obtain ⟨v7, w7, ha7, ho7, hk7⟩ := El.run_append_own typedCell 25 HO6.out ⟨v0.heap.size, 0, none⟩ 1 1 q.blankP.vals [q.blankP] (fun _ => False) (El.ownIn_one (E := cellEl) rfl) rfl (fun j u hu => El.row_cells HRW.out j u hu) HFX.out (fun b hb => hb.elim) HXL.out
              have hS2 := hS1.trans (hk7.mono fun b _ e => Or.inl e)
              have T7 : Hid (RdS w (.slice a N cp) false q w7) := (T3.out.sees ((Sees.refl v0).alloc _)).keeps (hk7.mono fun g' _ e => ((HO6.out.base e).1).1)
              have HO7 := Lib.hid ho7
              obtain ⟨a7, c7, hv7, _⟩ := ho7.slice
              obtain ⟨N7, hN7⟩ : ∃ N7, N7 = (cs ++ [q.blankP]).length := ⟨_, rfl⟩
              rw [← hN7] at hv7
              subst hv7
              have HN7 := Lib.hid hN7
              refine wpH_one (i := 5) (by kernel_rfl) (wpOp_val (v := .slice a7 N7 c7) (w' := w7) (by rfl) (wanted_none (by rfl) _) (exec_append (v := .slice a N cp) (u := .slice (some ⟨v0.heap.size, 0, none⟩) 1 1) rfl (by clear ha7; go_simp) (by clear ha7; go_simp) ha7) ⟨hS2, ?_⟩)
              (try simp only [Act.put, List.setIfInBounds_toArray, List.set_cons_zero, List.set_cons_succ])
              clear ha7 ho7 hk7 hN7 hS1
              have hS0 := hS2
              refine wpH_take (i := 8) (v := .pointer (some ⟨w.heap.size + 1, 0, none⟩)) hB (by rfl) (by kernel_rfl) (fun _ _ _ _ _ h => h) (by rfl) hS0 (fun W hI => by clear hI; go_simp) ?_; (try simp only [Act.put, List.setIfInBounds_toArray, List.set_cons_zero, List.set_cons_succ])
              have hS3 := hS2.setCell (p := ⟨w.heap.size + 1, 0, none⟩) (fun _ => Or.inr rfl) (.slice a7 N7 c7)
              refine wpH_one (i := 9) (by kernel_rfl) (wpOp_skip (w' := w7.setCell ⟨w.heap.size + 1, 0, none⟩ (.slice a7 N7 c7)) (by rfl) (wanted_none (by rfl) _) (exec_store (v := .slice a7 N7 c7) rfl rfl rfl (run_storeCs T7.out.o a7 N7 c7)) ⟨hS3, ?_⟩)
              (try simp only [Act.put, List.setIfInBounds_toArray, List.set_cons_zero, List.set_cons_succ])
              clear hS0
              have hS0 := hS3
              refine wpH_take (i := 10) (v := .string (strL t)) hB (by rfl) (by kernel_rfl) (fun _ _ _ _ _ h => h) (by rfl) hS0 (fun W hI => by clear hI; go_simp) ?_; (try simp only [Act.put, List.setIfInBounds_toArray, List.set_cons_zero, List.set_cons_succ])
              refine wpH_end (by kernel_rfl) ?_
              clear hS0 hS2 hS3 hB
              have T8 := Lib.hid (T7.out.cells (.slice a7 N7 c7))
              have O8 : cellEl.Own (fun b => w.heap.size + 3 ≤ b) (w7.setCell ⟨w.heap.size + 1, 0, none⟩ (.slice a7 N7 c7)) (.slice a7 N7 c7) (cs ++ [q.blankP]) :=
                (HO7.out.mono fun b _ hb => by
                  rcases hb with hb | hb | hb
                  · exact hb.1
                  · exact hb.elim
                  · have := HV0.out; rw [World.size_alloc] at hb; omega).keeps (Keeps.setCell (F := fun b => b = w.heap.size + 1) (Keeps.refl _ w7) (fun _ => rfl) _) (fun b hb e => by omega)
              have HO8 := Lib.hid O8
              clear O8 HO7 T7
              go_wp2
              go_roundw
              case rel => exact ⟨t, fu, cs ++ [q.blankP], q, .slice a7 N7 c7, rfl, by omega, by omega, by rw [List.length_append, List.length_singleton, ← HN.out]; omega, HE.out, T8.out, HO8.out⟩
              case measure => simp [strSz, strL_size]
          · rw [if_neg hc5] at hE
            have h91 : ((c.toNat : Int) == 91) = false := by simp; intro h; exact hc (UInt8.toNat_inj.1 (by rw [show (91 : UInt8).toNat = 91 from rfl]; omega))
            have h95 : ((c.toNat : Int) == 95) = false := by simp; intro h; exact hc5 (UInt8.toNat_inj.1 (by rw [show (95 : UInt8).toNat = 95 from rfl]; omega))
            obtain ⟨L1, hL1⟩ : ∃ L1, L1 = (if c = 92 then t else c :: t) := ⟨_, rfl⟩
            rw [← hL1] at hE
            have hL1n : L1 ≠ [] := by
              rw [hL1]
              split
              · rename_i h; exact fun e => h1 ⟨h, e⟩
              · simp
            have hdw := decGo_width L1 hL1n
            obtain ⟨nn, hnn⟩ : ∃ nn, nn = (Lib.decodeGo (strL L1)).2 := ⟨_, rfl⟩
            obtain ⟨r, hr⟩ : ∃ r : Int, r = ((Lib.decodeGo (strL L1)).1 : Int) := ⟨_, rfl⟩
            have KD : ∀ W, Sees w W → Calls Tryz.prog 49 #[.string (strL L1)] W fun e w' => e = .returned (.tuple #[.int .i32 r, .int .i64 (nn : Int)]) ∧ Sees W w' := fun W hs => by
              rw [hnn, hr]
              exact rune_any (strL L1) W (HW.out.sees hs)
            rw [← hnn, ← hr] at hE
            rw [← hnn] at hdw
            obtain ⟨PB, hPB⟩ : ∃ PB, PB = putB cs r q := ⟨_, rfl⟩
            have hpl : ∀ ds, PB = some ds → ds.length ≤ N + 2 := fun ds h => by rw [HN.out]; exact putB_len (by rw [← hPB]; exact h)
            have KP : Hid (∀ W, RdS w (.slice a N cp) false q W → cellEl.Own (fun b => w.heap.size + 3 ≤ b) W (.slice a N cp) cs → Calls Tryz.prog 50 #[.slice a N cp, .int .i32 r, q.pen] W fun e w' => ∃ v', e = .returned (.tuple #[v', .bool PB.isSome]) ∧ (∀ ds, PB = some ds → cellEl.Own (fun b => w.heap.size + 3 ≤ b) w' v' ds) ∧ Keeps (fun b => w.heap.size + 3 ≤ b) W w') := fun W h2 h3 => by
              rw [hPB]
              exact put_any (w.heap.size + 3) (.slice a N cp) cs r q W (HW.out.sees h2.s).t h3 (Array.getElem?_eq_some_iff.1 h2.p).1 (by rw [← HN.out]; omega)
            rw [← hPB] at hE
            have HE := Lib.hid hE
            have HPL := Lib.hid hpl
            obtain ⟨n1, hn1⟩ : ∃ n1, n1 = L1.length := ⟨_, rfl⟩
            have hx2 : (strL L1).extract nn n1 = strL (L1.drop nn) := by rw [strL_extract, hn1, List.take_length]
            have hs2 : (strL L1).size = n1 := by rw [strL_size, hn1]
            rw [← hn1] at hdw
            have hln : n1 ≤ t.length + 1 := by
              rw [hn1, hL1]
              split
              · omega
              · simp
            have HN1 := Lib.hid hn1
            have hbd : ¬ ((n1 : Int) < (nn : Int)) := by omega
            have hbd2 : (nn : Int) ≤ (t.length : Int) + 1 := by omega
            clear hE hnn hr hPB hn1 hpl
            rcases (show (c.toNat = 92 ∧ L1 = t) ∨ (((c.toNat : Int) == 92) = false ∧ L1 = c :: t) by
              by_cases h : c = 92
              · exact .inl ⟨by rw [h]; rfl, by rw [hL1, if_pos h]⟩
              · exact .inr ⟨by simp; intro h'; exact h (UInt8.toNat_inj.1 (by rw [show (92 : UInt8).toNat = 92 from rfl]; omega)), by rw [hL1, if_neg h]⟩) with ⟨hm, hLL⟩ | ⟨hm, hLL⟩
            · rw [hLL] at KD hx2 hs2
              have KD2 := Lib.hid KD
              clear KD h1 hc hc5 hL1 hL1n
              go_wp2_with fail
              refine (KD2.out _ T2.out.s).mono ?_
              rintro e W2 ⟨rfl, s2⟩
              have T3 := Lib.hid (T2.out.sees s2)
              have O3 := Lib.hid (O2.out.sees s2)
              have hc0 := T3.out.o.c.1
              clear s2 T2 O2 KD2
              go_wp2_with (guard_target = wpList _ _ _ ({ dst := _, op := Op.load 40 _, type := _, pos := _, after := _, guard := _ } :: _) _ _; refine wpList_val rfl (exec_load (v := q.pen) rfl rfl (run_loadPe T3.out.p)) (fun K hK => ?_); go_simp; refine hK _ _ ?_; clear hK K)
              refine (KP.out _ T3.out O3.out).mono ?_
              rintro e W3 ⟨v7, rfl, ho7, hk7⟩
              have T5 := Lib.hid (T3.out.keeps hk7)
              have HO7 := Lib.hid ho7
              clear hk7 ho7 hc0 T3 O3 KP
              rcases (show PB = none ∨ ∃ ds, PB = some ds by cases PB; exact .inl rfl; exact .inr ⟨_, rfl⟩) with rfl | ⟨ds, rfl⟩
              · have HQ : Hid (R = (cs, false, false)) := HE.out.symm
                go_wp2_with (first
                  | (guard_target = wpList _ _ _ ({ dst := _, op := Op.load 27 _, type := _, pos := _, after := _, guard := _ } :: _) _ _; refine wpList_val rfl (exec_load (v := .agg #[.slice a N cp, .bool false]) rfl rfl (run_loadLn T5.out.o)) (fun K hK => ?_); go_simp; refine hK _ _ ?_; clear hK K)
                  | (guard_target = wpList _ _ _ ({ dst := _, op := Op.store 27 _ _, type := _, pos := _, after := _, guard := _ } :: _) _ _; refine wpList_skip rfl (exec_store (v := .agg #[.slice a N cp, .bool false]) rfl rfl rfl (run_storeLn T5.out.z (by rfl))) (fun K hK => ?_); go_simp; refine hK _ _ ?_; clear hK K))
                have hzz : LnAt (W3.setRow w.heap.size #[.slice a N cp, .bool false]) w.heap.size (.slice a N cp) false := setRow_heap _ _ _ _ _ _ T5.out.z
                have hss : Sees w (W3.setRow w.heap.size #[.slice a N cp, .bool false]) := (Keeps.setRow' (F := fun _ => False) (Keeps.of_sees T5.out.s) (Nat.le_refl _) _).sees_end (fun _ _ h => h)
                exact bodyPost_ret (results_ln rfl rfl rfl hzz) rfl ⟨a, N, cp, false, by rw [HQ.out]; rfl, hss, fun h => by rw [HQ.out] at h; cases h⟩
              · have HE2 : Hid (readF fu (L1.drop nn) ds q = R) := HE.out
                have ho8 := HO7.out ds rfl
                obtain ⟨a7, c7, hv7, _⟩ := ho8.slice
                have hdl := HPL.out ds rfl
                obtain ⟨N7, hN7⟩ : ∃ N7, N7 = ds.length := ⟨_, rfl⟩
                rw [← hN7] at hv7 hdl
                subst hv7
                have HN7 := Lib.hid hN7
                have HO8 := Lib.hid ho8
                clear ho8 hN7 HO7 HE
                go_upto_region 19 with fail
                refine wpH_go (fun b => b = w.heap.size + 1) 7 (by kernel_rfl) (by kernel_rfl) (by rfl) (fun hB v0 hs9 => ?_)
                have T6 := Lib.hid (T5.out.sees hs9)
                have O6 := Lib.hid (HO8.out.sees hs9)
                have hS0 : Keeps (fun b => b = w.heap.size + 1) v0 v0 := Keeps.refl _ v0
                clear hs9 T5 HO8
                refine wpH_take (i := 0) (v := .slice a7 N7 c7) hB (by rfl) (by kernel_rfl) (fun _ _ _ _ _ h => h) (by rfl) hS0 (fun W hI => by clear hI; go_simp) ?_; (try simp only [Act.put, List.setIfInBounds_toArray, List.set_cons_zero, List.set_cons_succ])
                refine wpH_take (i := 1) (v := .string (strL t)) hB (by rfl) (by kernel_rfl) (fun _ _ _ _ _ h => h) (by rfl) hS0 (fun W hI => by clear hI; go_simp) ?_; (try simp only [Act.put, List.setIfInBounds_toArray, List.set_cons_zero, List.set_cons_succ])
                refine wpH_take (i := 2) (v := .int .i64 (nn : Int)) hB (by rfl) (by kernel_rfl) (fun _ _ _ _ _ h => h) (by rfl) hS0 (fun W hI => by clear hI; go_simp) ?_; (try simp only [Act.put, List.setIfInBounds_toArray, List.set_cons_zero, List.set_cons_succ])
                refine wpH_take (i := 3) (v := .string (strL (t.drop nn))) hB (by rfl) (by kernel_rfl) (fun _ _ _ _ _ h => h) (by rfl) hS0 (fun W hI => by clear hI; go_simp) ?_; (try simp only [Act.put, List.setIfInBounds_toArray, List.set_cons_zero, List.set_cons_succ])
                refine wpH_take (i := 4) (v := .pointer (some ⟨w.heap.size + 1, 0, none⟩)) hB (by rfl) (by kernel_rfl) (fun _ _ _ _ _ h => h) (by rfl) hS0 (fun W hI => by clear hI; go_simp) ?_; (try simp only [Act.put, List.setIfInBounds_toArray, List.set_cons_zero, List.set_cons_succ])
                have hS1 := hS0.setCell (p := ⟨w.heap.size + 1, 0, none⟩) (fun _ => rfl) (.slice a7 N7 c7)
                refine wpH_one (i := 5) (by kernel_rfl) (wpOp_skip (w' := v0.setCell ⟨w.heap.size + 1, 0, none⟩ (.slice a7 N7 c7)) (by rfl) (wanted_none (by rfl) _) (exec_store (v := .slice a7 N7 c7) rfl rfl rfl (run_storeCs T6.out.o a7 N7 c7)) ⟨hS1, ?_⟩)
                (try simp only [Act.put, List.setIfInBounds_toArray, List.set_cons_zero, List.set_cons_succ])
                have hS0 := hS1
                refine wpH_take (i := 6) (v := .string (strL (t.drop nn))) hB (by rfl) (by kernel_rfl) (fun _ _ _ _ _ h => h) (by rfl) hS0 (fun W hI => by clear hI; go_simp) ?_; (try simp only [Act.put, List.setIfInBounds_toArray, List.set_cons_zero, List.set_cons_succ])
                refine wpH_end (by kernel_rfl) ?_
                clear hS0 hB
                have T7 := Lib.hid (T6.out.cells (.slice a7 N7 c7))
                have O7 : cellEl.Own (fun b => w.heap.size + 3 ≤ b) (v0.setCell ⟨w.heap.size + 1, 0, none⟩ (.slice a7 N7 c7)) (.slice a7 N7 c7) ds := O6.out.keeps (Keeps.setCell (F := fun b => b = w.heap.size + 1) (Keeps.refl _ v0) (fun _ => rfl) _) (fun b hb e => by omega)
                have HO9 := Lib.hid O7
                clear O7 hS1 T6 O6
                have hdl2 : (L1.drop nn).length = n1 - nn := by rw [List.length_drop, HN1.out]
                rw [hLL] at hdl2 HE2
                go_wp2
                go_roundw
                case rel => exact ⟨t.drop nn, fu, ds, q, .slice a7 N7 c7, rfl, by omega, by omega, by rw [← HN7.out]; omega, HE2.out, T7.out, HO9.out⟩
                case measure => simp only [strSz, strL_size, List.length_cons]; omega
            · rw [hLL] at KD hx2 hs2
              have KD2 := Lib.hid KD
              clear KD h1 hc hc5 hL1 hL1n
              go_wp2_with fail
              refine (KD2.out _ T2.out.s).mono ?_
              rintro e W2 ⟨rfl, s2⟩
              have T3 := Lib.hid (T2.out.sees s2)
              have O3 := Lib.hid (O2.out.sees s2)
              have hc0 := T3.out.o.c.1
              clear s2 T2 O2 KD2
              go_wp2_with (guard_target = wpList _ _ _ ({ dst := _, op := Op.load 40 _, type := _, pos := _, after := _, guard := _ } :: _) _ _; refine wpList_val rfl (exec_load (v := q.pen) rfl rfl (run_loadPe T3.out.p)) (fun K hK => ?_); go_simp; refine hK _ _ ?_; clear hK K)
              refine (KP.out _ T3.out O3.out).mono ?_
              rintro e W3 ⟨v7, rfl, ho7, hk7⟩
              have T5 := Lib.hid (T3.out.keeps hk7)
              have HO7 := Lib.hid ho7
              clear hk7 ho7 hc0 T3 O3 KP
              rcases (show PB = none ∨ ∃ ds, PB = some ds by cases PB; exact .inl rfl; exact .inr ⟨_, rfl⟩) with rfl | ⟨ds, rfl⟩
              · have HQ : Hid (R = (cs, false, false)) := HE.out.symm
                go_wp2_with (first
                  | (guard_target = wpList _ _ _ ({ dst := _, op := Op.load 27 _, type := _, pos := _, after := _, guard := _ } :: _) _ _; refine wpList_val rfl (exec_load (v := .agg #[.slice a N cp, .bool false]) rfl rfl (run_loadLn T5.out.o)) (fun K hK => ?_); go_simp; refine hK _ _ ?_; clear hK K)
                  | (guard_target = wpList _ _ _ ({ dst := _, op := Op.store 27 _ _, type := _, pos := _, after := _, guard := _ } :: _) _ _; refine wpList_skip rfl (exec_store (v := .agg #[.slice a N cp, .bool false]) rfl rfl rfl (run_storeLn T5.out.z (by rfl))) (fun K hK => ?_); go_simp; refine hK _ _ ?_; clear hK K))
                have hzz : LnAt (W3.setRow w.heap.size #[.slice a N cp, .bool false]) w.heap.size (.slice a N cp) false := setRow_heap _ _ _ _ _ _ T5.out.z
                have hss : Sees w (W3.setRow w.heap.size #[.slice a N cp, .bool false]) := (Keeps.setRow' (F := fun _ => False) (Keeps.of_sees T5.out.s) (Nat.le_refl _) _).sees_end (fun _ _ h => h)
                exact bodyPost_ret (results_ln rfl rfl rfl hzz) rfl ⟨a, N, cp, false, by rw [HQ.out]; rfl, hss, fun h => by rw [HQ.out] at h; cases h⟩
              · have HE2 : Hid (readF fu (L1.drop nn) ds q = R) := HE.out
                have ho8 := HO7.out ds rfl
                obtain ⟨a7, c7, hv7, _⟩ := ho8.slice
                have hdl := HPL.out ds rfl
                obtain ⟨N7, hN7⟩ : ∃ N7, N7 = ds.length := ⟨_, rfl⟩
                rw [← hN7] at hv7 hdl
                subst hv7
                have HN7 := Lib.hid hN7
                have HO8 := Lib.hid ho8
                clear ho8 hN7 HO7 HE
                have hx3 : (strL (c :: t)).extract nn (t.length + 1) = strL (List.drop nn (c :: t)) := by rw [strL_extract, List.take_of_length_le (by simp)]
                go_upto_region 19 with fail
                refine wpH_go (fun b => b = w.heap.size + 1) 7 (by kernel_rfl) (by kernel_rfl) (by rfl) (fun hB v0 hs9 => ?_)
                have T6 := Lib.hid (T5.out.sees hs9)
                have O6 := Lib.hid (HO8.out.sees hs9)
                have hS0 : Keeps (fun b => b = w.heap.size + 1) v0 v0 := Keeps.refl _ v0
                clear hs9 T5 HO8
                refine wpH_take (i := 0) (v := .slice a7 N7 c7) hB (by rfl) (by kernel_rfl) (fun _ _ _ _ _ h => h) (by rfl) hS0 (fun W hI => by clear hI; go_simp) ?_; (try simp only [Act.put, List.setIfInBounds_toArray, List.set_cons_zero, List.set_cons_succ])
                refine wpH_take (i := 1) (v := .string (strL (c :: t))) hB (by rfl) (by kernel_rfl) (fun _ _ _ _ _ h => h) (by rfl) hS0 (fun W hI => by clear hI; go_simp) ?_; (try simp only [Act.put, List.setIfInBounds_toArray, List.set_cons_zero, List.set_cons_succ])
                refine wpH_take (i := 2) (v := .int .i64 (nn : Int)) hB (by rfl) (by kernel_rfl) (fun _ _ _ _ _ h => h) (by rfl) hS0 (fun W hI => by clear hI; go_simp) ?_; (try simp only [Act.put, List.setIfInBounds_toArray, List.set_cons_zero, List.set_cons_succ])
                refine wpH_take (i := 3) (v := .string (strL ((c :: t).drop nn))) hB (by rfl) (by kernel_rfl) (fun _ _ _ _ _ h => h) (by rfl) hS0 (fun W hI => by clear hI; go_simp) ?_; (try simp only [Act.put, List.setIfInBounds_toArray, List.set_cons_zero, List.set_cons_succ])
                refine wpH_take (i := 4) (v := .pointer (some ⟨w.heap.size + 1, 0, none⟩)) hB (by rfl) (by kernel_rfl) (fun _ _ _ _ _ h => h) (by rfl) hS0 (fun W hI => by clear hI; go_simp) ?_; (try simp only [Act.put, List.setIfInBounds_toArray, List.set_cons_zero, List.set_cons_succ])
                have hS1 := hS0.setCell (p := ⟨w.heap.size + 1, 0, none⟩) (fun _ => rfl) (.slice a7 N7 c7)
                refine wpH_one (i := 5) (by kernel_rfl) (wpOp_skip (w' := v0.setCell ⟨w.heap.size + 1, 0, none⟩ (.slice a7 N7 c7)) (by rfl) (wanted_none (by rfl) _) (exec_store (v := .slice a7 N7 c7) rfl rfl rfl (run_storeCs T6.out.o a7 N7 c7)) ⟨hS1, ?_⟩)
                (try simp only [Act.put, List.setIfInBounds_toArray, List.set_cons_zero, List.set_cons_succ])
                have hS0 := hS1
                refine wpH_take (i := 6) (v := .string (strL ((c :: t).drop nn))) hB (by rfl) (by kernel_rfl) (fun _ _ _ _ _ h => h) (by rfl) hS0 (fun W hI => by clear hI; go_simp) ?_; (try simp only [Act.put, List.setIfInBounds_toArray, List.set_cons_zero, List.set_cons_succ])
                refine wpH_end (by kernel_rfl) ?_
                clear hS0 hB
                have T7 := Lib.hid (T6.out.cells (.slice a7 N7 c7))
                have O7 : cellEl.Own (fun b => w.heap.size + 3 ≤ b) (v0.setCell ⟨w.heap.size + 1, 0, none⟩ (.slice a7 N7 c7)) (.slice a7 N7 c7) ds := O6.out.keeps (Keeps.setCell (F := fun b => b = w.heap.size + 1) (Keeps.refl _ v0) (fun _ => rfl) _) (fun b hb e => by omega)
                have HO9 := Lib.hid O7
                clear O7 hS1 T6 O6
                have hdl2 : (L1.drop nn).length = n1 - nn := by rw [List.length_drop, HN1.out]
                rw [hLL] at hdl2 HE2
                go_wp2
                go_roundw
                case rel => exact ⟨(c :: t).drop nn, fu, ds, q, .slice a7 N7 c7, rfl, by omega, by omega, by rw [← HN7.out]; omega, HE2.out, T7.out, HO9.out⟩
                case measure => simp only [strSz, strL_size, List.length_cons]; omega
end Go.Proofs.YthcndmchlpohpaaGreatDoor
