/- markup's colored (48). The library's variables hold what the program's text lays. markup's tagged (48). The library's variables hold what the program's text lays. markup's put (48). The library's variables hold what the program's text lays. No condition. -/
import Derived.Test.YthcndmchlpohpaaGreatDoorMkL
namespace Go.Proofs.YthcndmchlpohpaaGreatDoor
set_option linter.unusedVariables false
set_option linter.unusedSimpArgs false
open Go.RowKit Go.Shelf
attribute [local go_sem] Oper.semAt_some

theorem strL_extract (l : List UInt8) (a b : Nat) : (strL l).extract a b = strL ((l.take b).drop a) := by
  refine bytes_ext ?_
  rw [strL_list]
  show ((strL l).extract a b).data.toList = _
  rw [ByteArray.data_extract]
  simp [strL, List.extract_eq_take_drop, List.drop_take]
theorem strL_get (l : List UInt8) (k : Nat) {h : k < (strL l).size} : (strL l)[k]'h = l.getD k 0 := by
  have hk : k < l.length := by rw [strL_size] at h; exact h
  exact (show (strL l)[k]'h = l.toArray[k]'(by simpa using hk) from rfl).trans (by simp [List.getD, List.getElem?_eq_getElem hk])
theorem Keeps.setRowF {F : Nat → Prop} {w W : World} (h : Keeps F w W) {p : Nat} (hp : F p) (cs : Array Value) : Keeps F w (W.setRow p cs) :=
  ⟨h.os, h.tape, h.output, by simpa [World.setRow] using h.size, fun b hb hF => by rw [setRow_other _ _ _ _ (fun e => hF (by rw [e]; exact hp))]; exact h.block b hb hF⟩
/-- How many digits there are at the beginning, of so many. -/
def digK : Nat → List UInt8 → Nat
  | 0, _ => 0
  | _, [] => 0
  | f + 1, c :: cs => if 48 ≤ c.toNat ∧ c.toNat ≤ 57 then digK f cs + 1 else 0
/-- A color's five numbers. -/
structure Co where
  (k i r g b : Int)
  deriving DecidableEq
def Co.vals (c : Co) : List Value := [.int .i64 c.k, .int .u8 c.i, .int .u8 c.r, .int .u8 c.g, .int .u8 c.b]
def Co.val (c : Co) : Value := .agg #[.int .i64 c.k, .int .u8 c.i, .int .u8 c.r, .int .u8 c.g, .int .u8 c.b]
def hexN (l : List UInt8) : Nat := (hexF 0 (l.take 6)).getD 0
def coloredB (l : List UInt8) : Co × List UInt8 :=
  if l.head? = some 35 ∧ 7 ≤ l.length then (⟨2, 0, ((hexN l.tail / 65536 % 256 : Nat) : Int), ((hexN l.tail / 256 % 256 : Nat) : Int), ((hexN l.tail % 256 : Nat) : Int)⟩, l.drop 7)
  else (⟨1, (Lib.atoi (l.take (digK 3 l))).getD 0 % 256, 0, 0, 0⟩, l.drop (digK 3 l))
theorem digK_le : ∀ f l, digK f l ≤ f ∧ digK f l ≤ l.length
  | 0, _ => by simp [digK]
  | f + 1, [] => by simp [digK]
  | f + 1, c :: cs => by
    have := digK_le f cs
    rw [digK]
    split
    · simp only [List.length_cons]; omega
    · simp
theorem digK_of : ∀ (f : Nat) (l : List UInt8) (k : Nat), k ≤ f → k ≤ l.length → (∀ j, j < k → 48 ≤ (l.getD j 0).toNat ∧ (l.getD j 0).toNat ≤ 57) → (k = f ∨ k = l.length ∨ ¬ (48 ≤ (l.getD k 0).toNat ∧ (l.getD k 0).toNat ≤ 57)) → digK f l = k
  | 0, l, k, h, _, _, _ => by simp [digK]; omega
  | f + 1, [], k, _, h, _, _ => by simp at h; simp [digK, h]
  | f + 1, c :: cs, k, h1, h2, h3, h4 => by
    cases k with
    | zero =>
      rw [digK, if_neg]
      rcases h4 with h | h | h
      · omega
      · simp at h
      · exact h
    | succ k =>
      have := digK_of f cs k (by omega) (by simpa using h2) (fun j hj => by have := h3 (j + 1) (by omega); simpa using this) (by
        rcases h4 with h | h | h
        · exact .inl (by omega)
        · exact .inr (.inl (by simpa using h))
        · exact .inr (.inr (by simpa using h)))
      rw [digK, if_pos (by simpa using h3 0 (by omega)), this]
theorem co_isAgg : ∀ W, (isAgg 37).run Tryz.prog W = .ok true W := fun _ => by kernel_rfl
theorem co_sizeOf : ∀ W, (sizeOf 37).run Tryz.prog W = .ok 5 W := fun _ => by kernel_rfl
theorem co_one (c : Co) : ∀ v ∈ c.vals, v.oneCell' = true := by intro v hv; simp [Co.vals] at hv; rcases hv with rfl | rfl | rfl | rfl | rfl <;> rfl
def CoAt (W : World) (b : Nat) (c : Co) : Prop := W.heap[b]? = some (.cells c.vals.toArray 37 (0, 0))
theorem CoAt.sees {W W' : World} {b : Nat} {c : Co} (h : CoAt W b c) (hs : Sees W W') : CoAt W' b c := by
  unfold CoAt at *
  rw [hs.block _ (Array.getElem?_eq_some_iff.1 h).1]; exact h
theorem run_storeCo {W : World} {b : Nat} {c : Co} (h : CoAt W b c) (d : Co) : (Instr.storeAt 37 (.pointer (some ⟨b, 0, none⟩)) d.val).run Tryz.prog W = .ok () (W.setRow b d.vals.toArray) :=
  run_storeAt_row (P := Tryz.prog) (W := W) 37 b _ 37 d.vals co_sizeOf h rfl (co_one d)
theorem run_loadCo {W : World} {b : Nat} {c : Co} (h : CoAt W b c) : (loadVar 37 ⟨b, 0, none⟩).run Tryz.prog W = .ok c.val W :=
  run_load_agg 37 b 0 c.vals co_isAgg co_sizeOf fun j x hx => by
    rw [Nat.zero_add, cell_of_row _ _ _ _ _ _ h]
    simpa using hx
theorem results_co {fn : Func} {tmps : Array Value} {W : World} {i j b : Nat} {c : Co} {v : Value} (hr : fn.results = #[.cell i 37, .tmp j]) (hi : tmps[i]?.getD undef = .pointer (some ⟨b, 0, none⟩)) (hj : tmps[j]?.getD undef = v) (h : CoAt W b c) :
    (results fn tmps).run Tryz.prog W = .ok (.tuple #[c.val, v]) W := by
  have h1 := run_loadCo h
  unfold results
  rw [hr]
  simp [hi, hj, asAddr, h1]
theorem run_buildC1 (i : Int) (W : World) : (Instr.build 37 #[(0, .int .i64 1), (1, .int .u8 i)]).run Tryz.prog W = .ok (Co.val ⟨1, i, 0, 0, 0⟩) W := by kernel_rfl
theorem run_buildC2 (r g b : Int) (W : World) : (Instr.build 37 #[(0, .int .i64 2), (2, .int .u8 r), (3, .int .u8 g), (4, .int .u8 b)]).run Tryz.prog W = .ok (Co.val ⟨2, 0, r, g, b⟩) W := by kernel_rfl
theorem exec_buildC1 {ρ : Operand → Value} {o : Oper} {x : Operand} {i : Int} {W : World} (ho : o.op = .build 37 #[(0, .const (.int .i64 1)), (1, x)]) (hc : ρ (.const (.int .i64 1)) = .int .i64 1) (hx : ρ x = .int .u8 i) : (execOp ρ o).run Tryz.prog W = .ok (.value (Co.val ⟨1, i, 0, 0, 0⟩)) W := by
  unfold execOp
  rw [ho]
  simp only [List.map_toArray, List.map_cons, List.map_nil, hx, hc, Sem.run_bind, run_buildC1, Result.andThen_ok]
  rfl
theorem exec_buildC2 {ρ : Operand → Value} {o : Oper} {x y z : Operand} {r g b : Int} {W : World} (ho : o.op = .build 37 #[(0, .const (.int .i64 2)), (2, x), (3, y), (4, z)]) (hc : ρ (.const (.int .i64 2)) = .int .i64 2) (hx : ρ x = .int .u8 r) (hy : ρ y = .int .u8 g) (hz : ρ z = .int .u8 b) : (execOp ρ o).run Tryz.prog W = .ok (.value (Co.val ⟨2, 0, r, g, b⟩)) W := by
  unfold execOp
  rw [ho]
  simp only [List.map_toArray, List.map_cons, List.map_nil, hx, hy, hz, hc, Sem.run_bind, run_buildC2, Result.andThen_ok]
  rfl
theorem trim35 (l : List UInt8) : (Lib.trimPrefix (35 :: l) [35] = l ∧ Lib.hasPrefix (35 :: l) [35] = true) ∧ (l.head? ≠ some 35 → Lib.trimPrefix l [35] = l ∧ Lib.hasPrefix l [35] = false) := by
  constructor
  · constructor <;> simp [Lib.trimPrefix, Lib.hasPrefix]
  · intro h
    cases l with
    | nil => constructor <;> simp [Lib.trimPrefix, Lib.hasPrefix]
    | cons c cs =>
      have hc : c ≠ 35 := by simpa using h
      have hp : Lib.hasPrefix (c :: cs) [35] = false := by
        show List.isPrefixOf [35] (c :: cs) = false
        rw [List.isPrefixOf, show ((35 : UInt8) == c) = false by simpa using Ne.symm hc]
        rfl
      exact ⟨by rw [Lib.trimPrefix, hp]; rfl, hp⟩
set_option maxHeartbeats 2000000 in
set_option maxRecDepth 100000 in
theorem colored_any (l : List UInt8) (hl : l.length ≤ 2000000) (w : World) (hw : Sd w) :
    Calls Tryz.prog 63 #[.string (strL l)] w fun e w' => e = .returned (.tuple #[(coloredB l).1.val, .string (strL (coloredB l).2)]) ∧ Sees w w' := by
  obtain ⟨RR, hRR⟩ : ∃ RR, RR = Ending.returned (.tuple #[(coloredB l).1.val, .string (strL (coloredB l).2)]) := ⟨_, rfl⟩
  rw [← hRR]
  have HRR := Lib.hid hRR
  clear hRR
  have HW := Lib.hid hw
  have hsz := strL_size l
  obtain ⟨n, hn⟩ : ∃ n, n = l.length := ⟨_, rfl⟩
  rw [← hn] at hl hsz
  have HN := Lib.hid hn
  have H0 : Hid (∀ Y, Y = w.alloc (.cells (Co.vals ⟨0, 0, 0, 0, 0⟩).toArray 37) → Sees w Y ∧ CoAt Y w.heap.size ⟨0, 0, 0, 0, 0⟩) := by
    rintro Y rfl
    exact ⟨(Sees.refl w).alloc _, heap_alloc_new w _⟩
  have KS : Hid (∀ (W : World) (d : Co), CoAt W w.heap.size ⟨0, 0, 0, 0, 0⟩ → Sees w W → CoAt (W.setRow w.heap.size d.vals.toArray) w.heap.size d ∧ Sees w (W.setRow w.heap.size d.vals.toArray)) := fun W d h1 h2 =>
    ⟨setRow_heap _ _ _ _ _ _ h1, (Keeps.setRow' (F := fun _ => False) (Keeps.of_sees h2) (Nat.le_refl _) _).sees_end (fun _ _ h => h)⟩
  clear hn hw
  obtain ⟨isH, hH⟩ : ∃ isH, isH = (l.head? == some 35) := ⟨_, rfl⟩
  obtain ⟨tl, htl⟩ : ∃ tl, tl = if isH then l.tail else l := ⟨_, rfl⟩
  have KC : Hid (∀ W, Calls Tryz.prog 75 #[.string (strL l), .string ⟨#[35]⟩] W fun e w' => e = .returned (.tuple #[.string (strL tl), .bool isH]) ∧ w' = W) := fun W => by
    refine (cutp_any (strL l) ⟨#[35]⟩ W).mono ?_
    rintro e w' ⟨rfl, rfl⟩
    refine ⟨?_, rfl⟩
    rw [strL_list, show (⟨#[35]⟩ : ByteArray).data.toList = [35] from rfl]
    cases l with
    | nil =>
      have h := (trim35 []).2 (by simp)
      rw [h.1, h.2, htl, hH]; rfl
    | cons c cs =>
      by_cases hc : c = 35
      · subst hc
        rw [(trim35 cs).1.1, (trim35 cs).1.2, htl, hH]; rfl
      · have h := (trim35 (c :: cs)).2 (by simpa using hc)
        have h35 : ((c :: cs).head? == some 35) = false := by simpa using hc
        rw [h.1, h.2, htl, hH, h35]; rfl
  have hzt := strL_size tl
  obtain ⟨tn, htn⟩ : ∃ tn, tn = tl.length := ⟨_, rfl⟩
  rw [← htn] at hzt
  have HTN := Lib.hid htn
  have HTL := Lib.hid htl
  have HHH := Lib.hid hH
  clear htn htl hH
  go_enter Tryz.func63, Tryz.ntmps63
  go_upto_region 1 with fail
  refine wp_world fun W1 hW1 => ?_
  obtain ⟨s1, c1⟩ := H0.out W1 hW1
  have S1 := Lib.hid s1
  have C1 := Lib.hid c1
  clear hW1 s1 c1 H0
  go_wp2_with fail
  refine (KC.out _).mono ?_
  rintro e w' ⟨rfl, rfl⟩
  by_cases hA : isH = true ∧ 6 ≤ tn
  · obtain ⟨rfl, h6⟩ := hA
    have h6' : (6 : Int) ≤ (tn : Int) := by omega
    obtain ⟨v, hv⟩ : ∃ v, v = (hexF 0 (tl.take 6)).getD 0 := ⟨_, rfl⟩
    have KP : Hid (∀ W, Sees w W → Calls Tryz.prog 76 #[.string ((strL tl).extract 0 6), .int .i64 16, .int .i64 32] W fun e w' => ∃ ev, e = .returned (.tuple #[.int .u64 (v : Int), ev]) ∧ Sees W w') := fun W hs => by
      rw [strL_extract, List.drop_zero]
      have q := parse16_any (strL (tl.take 6)) (by rw [strL_size, List.length_take, ← HTN.out]; omega) W (HW.out.sees hs)
      rw [strL_list, ← hv] at q
      exact q
    have HV := Lib.hid hv
    clear hv
    go_wp2_with fail
    refine (KP.out _ S1.out).mono ?_
    rintro e W2 ⟨ev, rfl, s2⟩
    have S2 := Lib.hid (S1.out.trans s2)
    have C2 := Lib.hid (C1.out.sees s2)
    clear s2 S1 C1 KP KC
    go_upto_region 4 with fail
    obtain ⟨q1, hq1⟩ : ∃ q1, q1 = v / 65536 := ⟨_, rfl⟩
    obtain ⟨q2, hq2⟩ : ∃ q2, q2 = v / 256 := ⟨_, rfl⟩
    obtain ⟨r1, hr1⟩ : ∃ r1, r1 = q1 % 256 := ⟨_, rfl⟩
    obtain ⟨r2, hr2⟩ : ∃ r2, r2 = q2 % 256 := ⟨_, rfl⟩
    obtain ⟨r3, hr3⟩ : ∃ r3, r3 = v % 256 := ⟨_, rfl⟩
    have g1 : (v : Int) / 65536 = (q1 : Int) := by omega
    have g2 : (v : Int) / 256 = (q2 : Int) := by omega
    have g3 : IntKind.u8.wrap (q1 : Int) = (r1 : Int) := by rw [IntKind.wrap_u8]; omega
    have g4 : IntKind.u8.wrap (q2 : Int) = (r2 : Int) := by rw [IntKind.wrap_u8]; omega
    have g5 : IntKind.u8.wrap (v : Int) = (r3 : Int) := by rw [IntKind.wrap_u8]; omega
    have HE : Hid (coloredB l = (⟨2, 0, (r1 : Int), (r2 : Int), (r3 : Int)⟩, tl.drop 6)) := by
      have e1 : l.head? = some 35 := by simpa using HHH.out.symm
      obtain ⟨cs, rfl⟩ : ∃ cs, l = 35 :: cs := by
        cases l with
        | nil => cases e1
        | cons c cs => cases e1; exact ⟨cs, rfl⟩
      have e2 : tl = cs := HTL.out
      subst e2
      unfold RowKit.Hid coloredB
      rw [if_pos ⟨rfl, by rw [List.length_cons, ← HTN.out]; omega⟩]
      have e3 : hexN tl = v := HV.out.symm
      show (({ k := 2, i := 0, r := ((hexN tl / 65536 % 256 : Nat) : Int), g := ((hexN tl / 256 % 256 : Nat) : Int), b := ((hexN tl % 256 : Nat) : Int) } : Co), tl.drop 6) = _
      rw [e3, ← hq1, ← hq2, ← hr1, ← hr2, ← hr3]
    clear hq1 hq2 hr1 hr2 hr3
    refine wpH_go (fun b => b = w.heap.size) 13 (by kernel_rfl) (by kernel_rfl) (by rfl) (fun hB v0 hs9 => ?_)
    have S3 := Lib.hid (S2.out.trans hs9)
    have C3 := Lib.hid (C2.out.sees hs9)
    have hS0 : Keeps (fun b => b = w.heap.size) v0 v0 := Keeps.refl _ v0
    clear hs9
    refine wpH_take (i := 0) (v := .int .u64 (v : Int)) hB (by rfl) (by kernel_rfl) (fun _ _ _ _ _ h => h) (by rfl) hS0 (fun W hI => by clear hI; go_simp) ?_; (try simp only [Act.put, List.setIfInBounds_toArray, List.set_cons_zero, List.set_cons_succ])
    refine wpH_take (i := 1) (v := .int .u64 (q1 : Int)) hB (by rfl) (by kernel_rfl) (fun _ _ _ _ _ h => h) (by rfl) hS0 (fun W hI => by clear hI; go_simp) ?_; (try simp only [Act.put, List.setIfInBounds_toArray, List.set_cons_zero, List.set_cons_succ])
    refine wpH_take (i := 2) (v := .int .u8 (r1 : Int)) hB (by rfl) (by kernel_rfl) (fun _ _ _ _ _ h => h) (by rfl) hS0 (fun W hI => by clear hI; go_simp) ?_; (try simp only [Act.put, List.setIfInBounds_toArray, List.set_cons_zero, List.set_cons_succ])
    refine wpH_take (i := 3) (v := .int .u64 (v : Int)) hB (by rfl) (by kernel_rfl) (fun _ _ _ _ _ h => h) (by rfl) hS0 (fun W hI => by clear hI; go_simp) ?_; (try simp only [Act.put, List.setIfInBounds_toArray, List.set_cons_zero, List.set_cons_succ])
    refine wpH_take (i := 4) (v := .int .u64 (q2 : Int)) hB (by rfl) (by kernel_rfl) (fun _ _ _ _ _ h => h) (by rfl) hS0 (fun W hI => by clear hI; go_simp) ?_; (try simp only [Act.put, List.setIfInBounds_toArray, List.set_cons_zero, List.set_cons_succ])
    refine wpH_take (i := 5) (v := .int .u8 (r2 : Int)) hB (by rfl) (by kernel_rfl) (fun _ _ _ _ _ h => h) (by rfl) hS0 (fun W hI => by clear hI; go_simp) ?_; (try simp only [Act.put, List.setIfInBounds_toArray, List.set_cons_zero, List.set_cons_succ])
    refine wpH_take (i := 6) (v := .int .u64 (v : Int)) hB (by rfl) (by kernel_rfl) (fun _ _ _ _ _ h => h) (by rfl) hS0 (fun W hI => by clear hI; go_simp) ?_; (try simp only [Act.put, List.setIfInBounds_toArray, List.set_cons_zero, List.set_cons_succ])
    refine wpH_take (i := 7) (v := .int .u8 (r3 : Int)) hB (by rfl) (by kernel_rfl) (fun _ _ _ _ _ h => h) (by rfl) hS0 (fun W hI => by clear hI; go_simp) ?_; (try simp only [Act.put, List.setIfInBounds_toArray, List.set_cons_zero, List.set_cons_succ])
    refine wpH_take (i := 8) (v := Co.val ⟨2, 0, r1, r2, r3⟩) hB (by rfl) (by kernel_rfl) (fun _ _ _ _ _ h => h) (by rfl) hS0 (fun W hI => exec_buildC2 rfl rfl (by clear hI; go_simp) (by clear hI; go_simp) (by clear hI; go_simp)) ?_
    (try simp only [Act.put, List.setIfInBounds_toArray, List.set_cons_zero, List.set_cons_succ])
    refine wpH_take (i := 9) (v := .string (strL tl)) hB (by rfl) (by kernel_rfl) (fun _ _ _ _ _ h => h) (by rfl) hS0 (fun W hI => by clear hI; go_simp) ?_; (try simp only [Act.put, List.setIfInBounds_toArray, List.set_cons_zero, List.set_cons_succ])
    refine wpH_take (i := 10) (v := .string ((strL tl).extract 6 tn)) hB (by rfl) (by kernel_rfl) (fun _ _ _ _ _ h => h) (by rfl) hS0 (fun W hI => by clear hI; go_simp) ?_; (try simp only [Act.put, List.setIfInBounds_toArray, List.set_cons_zero, List.set_cons_succ])
    obtain ⟨k1, k2⟩ := KS.out _ ⟨2, 0, r1, r2, r3⟩ C3.out S3.out
    have hS1 := hS0.setRowF (p := w.heap.size) rfl (Co.vals ⟨2, 0, r1, r2, r3⟩).toArray
    refine wpH_one (i := 11) (by kernel_rfl) (wpOp_skip (w' := v0.setRow w.heap.size (Co.vals ⟨2, 0, r1, r2, r3⟩).toArray) (by rfl) (wanted_none (by rfl) _) (exec_store (v := Co.val ⟨2, 0, r1, r2, r3⟩) rfl rfl rfl (run_storeCo C3.out _)) ⟨hS1, ?_⟩)
    (try simp only [Act.put, List.setIfInBounds_toArray, List.set_cons_zero, List.set_cons_succ])
    have hS0 := hS1
    refine wpH_take (i := 12) (v := .string ((strL tl).extract 6 tn)) hB (by rfl) (by kernel_rfl) (fun _ _ _ _ _ h => h) (by rfl) hS0 (fun W hI => by clear hI; go_simp) ?_; (try simp only [Act.put, List.setIfInBounds_toArray, List.set_cons_zero, List.set_cons_succ])
    refine wpH_end (by kernel_rfl) ?_
    clear hS0 hS1 hB
    have K1 := Lib.hid k1
    have K2 := Lib.hid k2
    clear k1 k2
    go_wp2
    exact bodyPost_ret (results_co rfl rfl rfl K1.out) rfl ⟨by rw [HRR.out, HE.out, strL_extract, List.take_of_length_le (by have := HTN.out; omega)]; rfl, K2.out⟩
  · have hA' : isH = true → ¬ ((6 : Int) ≤ (tn : Int)) := fun h1 h2 => hA ⟨h1, by omega⟩
    have HE : Hid (coloredB l = (⟨1, (Lib.atoi (l.take (digK 3 l))).getD 0 % 256, 0, 0, 0⟩, l.drop (digK 3 l))) := by
      unfold RowKit.Hid coloredB
      rw [if_neg]
      rintro ⟨h1, h2⟩
      have hi : isH = true := by rw [HHH.out]; simpa using h1
      refine hA ⟨hi, ?_⟩
      have := HTL.out
      rw [if_pos hi] at this
      rw [HTN.out, this, List.length_tail]
      omega
    have KD : Hid (∀ k, k ≤ 3 → ∀ W, Sees w W → Calls Tryz.prog 77 #[.string ((strL l).extract 0 k)] W fun e w' => ∃ ev, e = .returned (.tuple #[.int .i64 ((Lib.atoi (l.take k)).getD 0), ev]) ∧ Sees W w') := fun k hk W hs => by
      rw [strL_extract, List.drop_zero]
      refine (atoi_any (strL (l.take k)) (by rw [strL_size, List.length_take]; omega) W (HW.out.sees hs)).mono ?_
      rintro e w' ⟨ev, rfl, _, hs⟩
      exact ⟨ev, rfl, hs⟩
    have hL : Hid (∀ k, k < n → ∀ h : k < (strL l).size, (strL l)[k]'h = l.getD k 0) := fun k _ h => strL_get l k
    rcases (show isH = false ∨ (isH = true ∧ ¬ (6 : Int) ≤ (tn : Int)) by cases isH; exact .inl rfl; exact .inr ⟨rfl, hA' rfl⟩) with rfl | ⟨rfl, hB6⟩
    all_goals
      clear hA hA'
      go_wp2_with fail
      go_loopw [8] (fun v W => W = w' ∧ ∃ k : Nat, k ≤ 3 ∧ k ≤ n ∧ v = .int .i64 k ∧ Hid (∀ j, j < k → 48 ≤ (l.getD j 0).toNat ∧ (l.getD j 0).toNat ≤ 57)) (fun v _ => 3 - (intOf v).toNat)
      case atStart => exact ⟨rfl, 0, by omega, by omega, rfl, Lib.hid (fun j h => absurd h (by omega))⟩
      case round =>
        obtain ⟨rfl, k, hk3, hkn, rfl, hd⟩ := hrel
        by_cases hkl : k < n
        · have hg := hL.out k hkl
          obtain ⟨c, hc⟩ : ∃ c, c = l.getD k 0 := ⟨_, rfl⟩
          have HC := Lib.hid hc
          rw [← hc] at hg
          have hc256 := c.toNat_lt
          obtain ⟨m, hm⟩ : ∃ m, m = c.toNat := ⟨_, rfl⟩
          have HM := Lib.hid hm
          have hgm : ∀ h : k < (strL l).size, ((strL l)[k]'h).toNat = m := fun h => by rw [hg h, hm]
          clear hc hg hL
          rw [← hm] at hc256
          clear hm
          by_cases hk : k < 3
          · by_cases hd0 : 48 ≤ m
            · by_cases hd1 : m ≤ 57
              · have hd2 : Hid (∀ j, j < k + 1 → 48 ≤ (l.getD j 0).toNat ∧ (l.getD j 0).toNat ≤ 57) := fun j hj => by
                  by_cases h : j = k
                  · subst h; rw [← HC.out, ← HM.out]; exact ⟨hd0, hd1⟩
                  · exact hd.out j (by omega)
                have hd0' : (48 : Int) ≤ (m : Int) := by omega
                have hd1' : (m : Int) ≤ 57 := by omega
                clear hd
                go_wp2
                go_roundw
                case rel => exact ⟨trivial, k + 1, by omega, by omega, by go_num, hd2⟩
                case measure => simp [intOf]; omega
              · have hend : k = 3 ∨ k = l.length ∨ ¬ (48 ≤ (l.getD k 0).toNat ∧ (l.getD k 0).toNat ≤ 57) := .inr (.inr (by rw [← HC.out, ← HM.out]; exact fun h => hd1 h.2))
                have hd0' : (48 : Int) ≤ (m : Int) := by omega
                have hd1' : ¬ (m : Int) ≤ 57 := by omega
                have HK := Lib.hid (digK_of 3 l k hk3 (by rw [← HN.out]; exact hkn) hd.out hend)
                obtain ⟨z, hz⟩ : ∃ z, z = (Lib.atoi (l.take k)).getD 0 := ⟨_, rfl⟩
                have KA := Lib.hid (KD.out k hk3)
                rw [← hz] at KA
                have HZ := Lib.hid hz
                obtain ⟨zi, hzi⟩ : ∃ zi, zi = z % 256 := ⟨_, rfl⟩
                have g1 : IntKind.u8.wrap z = zi := by rw [IntKind.wrap_u8, hzi]
                have HZI := Lib.hid hzi
                clear KD hend hd hz hzi
                go_wp2_with fail
                refine (KA.out _ S1.out).mono ?_
                rintro e W2 ⟨ev, rfl, s2⟩
                have S2 := Lib.hid (S1.out.trans s2)
                have C2 := Lib.hid (C1.out.sees s2)
                clear s2 S1 C1 KA KC
                go_upto_region 9 with fail
                refine wpH_go (fun b => b = w.heap.size) 8 (by kernel_rfl) (by kernel_rfl) (by rfl) (fun hB v0 hs9 => ?_)
                have S3 := Lib.hid (S2.out.trans hs9)
                have C3 := Lib.hid (C2.out.sees hs9)
                have hS0 : Keeps (fun b => b = w.heap.size) v0 v0 := Keeps.refl _ v0
                clear hs9
                refine wpH_take (i := 0) (v := .int .i64 z) hB (by rfl) (by kernel_rfl) (fun _ _ _ _ _ h => h) (by rfl) hS0 (fun W hI => by clear hI; go_simp) ?_; (try simp only [Act.put, List.setIfInBounds_toArray, List.set_cons_zero, List.set_cons_succ])
                refine wpH_take (i := 1) (v := .int .u8 zi) hB (by rfl) (by kernel_rfl) (fun _ _ _ _ _ h => h) (by rfl) hS0 (fun W hI => by clear hI; go_simp) ?_; (try simp only [Act.put, List.setIfInBounds_toArray, List.set_cons_zero, List.set_cons_succ])
                refine wpH_take (i := 2) (v := Co.val ⟨1, zi, 0, 0, 0⟩) hB (by rfl) (by kernel_rfl) (fun _ _ _ _ _ h => h) (by rfl) hS0 (fun W hI => exec_buildC1 rfl rfl (by clear hI; go_simp)) ?_
                (try simp only [Act.put, List.setIfInBounds_toArray, List.set_cons_zero, List.set_cons_succ])
                refine wpH_take (i := 3) (v := .string (strL l)) hB (by rfl) (by kernel_rfl) (fun _ _ _ _ _ h => h) (by rfl) hS0 (fun W hI => by clear hI; go_simp) ?_; (try simp only [Act.put, List.setIfInBounds_toArray, List.set_cons_zero, List.set_cons_succ])
                refine wpH_take (i := 4) (v := .int .i64 (k : Int)) hB (by rfl) (by kernel_rfl) (fun _ _ _ _ _ h => h) (by rfl) hS0 (fun W hI => by clear hI; go_simp) ?_; (try simp only [Act.put, List.setIfInBounds_toArray, List.set_cons_zero, List.set_cons_succ])
                refine wpH_take (i := 5) (v := .string ((strL l).extract k n)) hB (by rfl) (by kernel_rfl) (fun _ _ _ _ _ h => h) (by rfl) hS0 (fun W hI => by clear hI; go_simp) ?_; (try simp only [Act.put, List.setIfInBounds_toArray, List.set_cons_zero, List.set_cons_succ])
                obtain ⟨k1, k2⟩ := KS.out _ ⟨1, zi, 0, 0, 0⟩ C3.out S3.out
                have hS1 := hS0.setRowF (p := w.heap.size) rfl (Co.vals ⟨1, zi, 0, 0, 0⟩).toArray
                refine wpH_one (i := 6) (by kernel_rfl) (wpOp_skip (w' := v0.setRow w.heap.size (Co.vals ⟨1, zi, 0, 0, 0⟩).toArray) (by rfl) (wanted_none (by rfl) _) (exec_store (v := Co.val ⟨1, zi, 0, 0, 0⟩) rfl rfl rfl (run_storeCo C3.out _)) ⟨hS1, ?_⟩)
                (try simp only [Act.put, List.setIfInBounds_toArray, List.set_cons_zero, List.set_cons_succ])
                have hS0 := hS1
                refine wpH_take (i := 7) (v := .string ((strL l).extract k n)) hB (by rfl) (by kernel_rfl) (fun _ _ _ _ _ h => h) (by rfl) hS0 (fun W hI => by clear hI; go_simp) ?_; (try simp only [Act.put, List.setIfInBounds_toArray, List.set_cons_zero, List.set_cons_succ])
                refine wpH_end (by kernel_rfl) ?_
                clear hS0 hS1 hB
                have K1 := Lib.hid k1
                have K2 := Lib.hid k2
                clear k1 k2
                go_wp2
                exact bodyPost_ret (results_co rfl rfl rfl K1.out) rfl ⟨by rw [HRR.out, HE.out, HK.out, strL_extract, List.take_of_length_le (by have := HN.out; omega), HZI.out, HZ.out]; rfl, K2.out⟩
            · have hend : k = 3 ∨ k = l.length ∨ ¬ (48 ≤ (l.getD k 0).toNat ∧ (l.getD k 0).toNat ≤ 57) := .inr (.inr (by rw [← HC.out, ← HM.out]; exact fun h => hd0 h.1))
              have hd0' : ¬ (48 : Int) ≤ (m : Int) := by omega
              have HK := Lib.hid (digK_of 3 l k hk3 (by rw [← HN.out]; exact hkn) hd.out hend)
              obtain ⟨z, hz⟩ : ∃ z, z = (Lib.atoi (l.take k)).getD 0 := ⟨_, rfl⟩
              have KA := Lib.hid (KD.out k hk3)
              rw [← hz] at KA
              have HZ := Lib.hid hz
              obtain ⟨zi, hzi⟩ : ∃ zi, zi = z % 256 := ⟨_, rfl⟩
              have g1 : IntKind.u8.wrap z = zi := by rw [IntKind.wrap_u8, hzi]
              have HZI := Lib.hid hzi
              clear KD hend hd hz hzi
              go_wp2_with fail
              refine (KA.out _ S1.out).mono ?_
              rintro e W2 ⟨ev, rfl, s2⟩
              have S2 := Lib.hid (S1.out.trans s2)
              have C2 := Lib.hid (C1.out.sees s2)
              clear s2 S1 C1 KA KC
              go_upto_region 9 with fail
              refine wpH_go (fun b => b = w.heap.size) 8 (by kernel_rfl) (by kernel_rfl) (by rfl) (fun hB v0 hs9 => ?_)
              have S3 := Lib.hid (S2.out.trans hs9)
              have C3 := Lib.hid (C2.out.sees hs9)
              have hS0 : Keeps (fun b => b = w.heap.size) v0 v0 := Keeps.refl _ v0
              clear hs9
              refine wpH_take (i := 0) (v := .int .i64 z) hB (by rfl) (by kernel_rfl) (fun _ _ _ _ _ h => h) (by rfl) hS0 (fun W hI => by clear hI; go_simp) ?_; (try simp only [Act.put, List.setIfInBounds_toArray, List.set_cons_zero, List.set_cons_succ])
              refine wpH_take (i := 1) (v := .int .u8 zi) hB (by rfl) (by kernel_rfl) (fun _ _ _ _ _ h => h) (by rfl) hS0 (fun W hI => by clear hI; go_simp) ?_; (try simp only [Act.put, List.setIfInBounds_toArray, List.set_cons_zero, List.set_cons_succ])
              refine wpH_take (i := 2) (v := Co.val ⟨1, zi, 0, 0, 0⟩) hB (by rfl) (by kernel_rfl) (fun _ _ _ _ _ h => h) (by rfl) hS0 (fun W hI => exec_buildC1 rfl rfl (by clear hI; go_simp)) ?_
              (try simp only [Act.put, List.setIfInBounds_toArray, List.set_cons_zero, List.set_cons_succ])
              refine wpH_take (i := 3) (v := .string (strL l)) hB (by rfl) (by kernel_rfl) (fun _ _ _ _ _ h => h) (by rfl) hS0 (fun W hI => by clear hI; go_simp) ?_; (try simp only [Act.put, List.setIfInBounds_toArray, List.set_cons_zero, List.set_cons_succ])
              refine wpH_take (i := 4) (v := .int .i64 (k : Int)) hB (by rfl) (by kernel_rfl) (fun _ _ _ _ _ h => h) (by rfl) hS0 (fun W hI => by clear hI; go_simp) ?_; (try simp only [Act.put, List.setIfInBounds_toArray, List.set_cons_zero, List.set_cons_succ])
              refine wpH_take (i := 5) (v := .string ((strL l).extract k n)) hB (by rfl) (by kernel_rfl) (fun _ _ _ _ _ h => h) (by rfl) hS0 (fun W hI => by clear hI; go_simp) ?_; (try simp only [Act.put, List.setIfInBounds_toArray, List.set_cons_zero, List.set_cons_succ])
              obtain ⟨k1, k2⟩ := KS.out _ ⟨1, zi, 0, 0, 0⟩ C3.out S3.out
              have hS1 := hS0.setRowF (p := w.heap.size) rfl (Co.vals ⟨1, zi, 0, 0, 0⟩).toArray
              refine wpH_one (i := 6) (by kernel_rfl) (wpOp_skip (w' := v0.setRow w.heap.size (Co.vals ⟨1, zi, 0, 0, 0⟩).toArray) (by rfl) (wanted_none (by rfl) _) (exec_store (v := Co.val ⟨1, zi, 0, 0, 0⟩) rfl rfl rfl (run_storeCo C3.out _)) ⟨hS1, ?_⟩)
              (try simp only [Act.put, List.setIfInBounds_toArray, List.set_cons_zero, List.set_cons_succ])
              have hS0 := hS1
              refine wpH_take (i := 7) (v := .string ((strL l).extract k n)) hB (by rfl) (by kernel_rfl) (fun _ _ _ _ _ h => h) (by rfl) hS0 (fun W hI => by clear hI; go_simp) ?_; (try simp only [Act.put, List.setIfInBounds_toArray, List.set_cons_zero, List.set_cons_succ])
              refine wpH_end (by kernel_rfl) ?_
              clear hS0 hS1 hB
              have K1 := Lib.hid k1
              have K2 := Lib.hid k2
              clear k1 k2
              go_wp2
              exact bodyPost_ret (results_co rfl rfl rfl K1.out) rfl ⟨by rw [HRR.out, HE.out, HK.out, strL_extract, List.take_of_length_le (by have := HN.out; omega), HZI.out, HZ.out]; rfl, K2.out⟩
          · have hend : k = 3 ∨ k = l.length ∨ ¬ (48 ≤ (l.getD k 0).toNat ∧ (l.getD k 0).toNat ≤ 57) := .inl (by omega)
            have HK := Lib.hid (digK_of 3 l k hk3 (by rw [← HN.out]; exact hkn) hd.out hend)
            obtain ⟨z, hz⟩ : ∃ z, z = (Lib.atoi (l.take k)).getD 0 := ⟨_, rfl⟩
            have KA := Lib.hid (KD.out k hk3)
            rw [← hz] at KA
            have HZ := Lib.hid hz
            obtain ⟨zi, hzi⟩ : ∃ zi, zi = z % 256 := ⟨_, rfl⟩
            have g1 : IntKind.u8.wrap z = zi := by rw [IntKind.wrap_u8, hzi]
            have HZI := Lib.hid hzi
            clear KD hend hd hz hzi
            go_wp2_with fail
            refine (KA.out _ S1.out).mono ?_
            rintro e W2 ⟨ev, rfl, s2⟩
            have S2 := Lib.hid (S1.out.trans s2)
            have C2 := Lib.hid (C1.out.sees s2)
            clear s2 S1 C1 KA KC
            go_upto_region 9 with fail
            refine wpH_go (fun b => b = w.heap.size) 8 (by kernel_rfl) (by kernel_rfl) (by rfl) (fun hB v0 hs9 => ?_)
            have S3 := Lib.hid (S2.out.trans hs9)
            have C3 := Lib.hid (C2.out.sees hs9)
            have hS0 : Keeps (fun b => b = w.heap.size) v0 v0 := Keeps.refl _ v0
            clear hs9
            refine wpH_take (i := 0) (v := .int .i64 z) hB (by rfl) (by kernel_rfl) (fun _ _ _ _ _ h => h) (by rfl) hS0 (fun W hI => by clear hI; go_simp) ?_; (try simp only [Act.put, List.setIfInBounds_toArray, List.set_cons_zero, List.set_cons_succ])
            refine wpH_take (i := 1) (v := .int .u8 zi) hB (by rfl) (by kernel_rfl) (fun _ _ _ _ _ h => h) (by rfl) hS0 (fun W hI => by clear hI; go_simp) ?_; (try simp only [Act.put, List.setIfInBounds_toArray, List.set_cons_zero, List.set_cons_succ])
            refine wpH_take (i := 2) (v := Co.val ⟨1, zi, 0, 0, 0⟩) hB (by rfl) (by kernel_rfl) (fun _ _ _ _ _ h => h) (by rfl) hS0 (fun W hI => exec_buildC1 rfl rfl (by clear hI; go_simp)) ?_
            (try simp only [Act.put, List.setIfInBounds_toArray, List.set_cons_zero, List.set_cons_succ])
            refine wpH_take (i := 3) (v := .string (strL l)) hB (by rfl) (by kernel_rfl) (fun _ _ _ _ _ h => h) (by rfl) hS0 (fun W hI => by clear hI; go_simp) ?_; (try simp only [Act.put, List.setIfInBounds_toArray, List.set_cons_zero, List.set_cons_succ])
            refine wpH_take (i := 4) (v := .int .i64 (k : Int)) hB (by rfl) (by kernel_rfl) (fun _ _ _ _ _ h => h) (by rfl) hS0 (fun W hI => by clear hI; go_simp) ?_; (try simp only [Act.put, List.setIfInBounds_toArray, List.set_cons_zero, List.set_cons_succ])
            refine wpH_take (i := 5) (v := .string ((strL l).extract k n)) hB (by rfl) (by kernel_rfl) (fun _ _ _ _ _ h => h) (by rfl) hS0 (fun W hI => by clear hI; go_simp) ?_; (try simp only [Act.put, List.setIfInBounds_toArray, List.set_cons_zero, List.set_cons_succ])
            obtain ⟨k1, k2⟩ := KS.out _ ⟨1, zi, 0, 0, 0⟩ C3.out S3.out
            have hS1 := hS0.setRowF (p := w.heap.size) rfl (Co.vals ⟨1, zi, 0, 0, 0⟩).toArray
            refine wpH_one (i := 6) (by kernel_rfl) (wpOp_skip (w' := v0.setRow w.heap.size (Co.vals ⟨1, zi, 0, 0, 0⟩).toArray) (by rfl) (wanted_none (by rfl) _) (exec_store (v := Co.val ⟨1, zi, 0, 0, 0⟩) rfl rfl rfl (run_storeCo C3.out _)) ⟨hS1, ?_⟩)
            (try simp only [Act.put, List.setIfInBounds_toArray, List.set_cons_zero, List.set_cons_succ])
            have hS0 := hS1
            refine wpH_take (i := 7) (v := .string ((strL l).extract k n)) hB (by rfl) (by kernel_rfl) (fun _ _ _ _ _ h => h) (by rfl) hS0 (fun W hI => by clear hI; go_simp) ?_; (try simp only [Act.put, List.setIfInBounds_toArray, List.set_cons_zero, List.set_cons_succ])
            refine wpH_end (by kernel_rfl) ?_
            clear hS0 hS1 hB
            have K1 := Lib.hid k1
            have K2 := Lib.hid k2
            clear k1 k2
            go_wp2
            exact bodyPost_ret (results_co rfl rfl rfl K1.out) rfl ⟨by rw [HRR.out, HE.out, HK.out, strL_extract, List.take_of_length_le (by have := HN.out; omega), HZI.out, HZ.out]; rfl, K2.out⟩
        · have hend : k = 3 ∨ k = l.length ∨ ¬ (48 ≤ (l.getD k 0).toNat ∧ (l.getD k 0).toNat ≤ 57) := .inr (.inl (by rw [← HN.out]; omega))
          clear hL
          have HK := Lib.hid (digK_of 3 l k hk3 (by rw [← HN.out]; exact hkn) hd.out hend)
          obtain ⟨z, hz⟩ : ∃ z, z = (Lib.atoi (l.take k)).getD 0 := ⟨_, rfl⟩
          have KA := Lib.hid (KD.out k hk3)
          rw [← hz] at KA
          have HZ := Lib.hid hz
          obtain ⟨zi, hzi⟩ : ∃ zi, zi = z % 256 := ⟨_, rfl⟩
          have g1 : IntKind.u8.wrap z = zi := by rw [IntKind.wrap_u8, hzi]
          have HZI := Lib.hid hzi
          clear KD hend hd hz hzi
          go_wp2_with fail
          refine (KA.out _ S1.out).mono ?_
          rintro e W2 ⟨ev, rfl, s2⟩
          have S2 := Lib.hid (S1.out.trans s2)
          have C2 := Lib.hid (C1.out.sees s2)
          clear s2 S1 C1 KA KC
          go_upto_region 9 with fail
          refine wpH_go (fun b => b = w.heap.size) 8 (by kernel_rfl) (by kernel_rfl) (by rfl) (fun hB v0 hs9 => ?_)
          have S3 := Lib.hid (S2.out.trans hs9)
          have C3 := Lib.hid (C2.out.sees hs9)
          have hS0 : Keeps (fun b => b = w.heap.size) v0 v0 := Keeps.refl _ v0
          clear hs9
          refine wpH_take (i := 0) (v := .int .i64 z) hB (by rfl) (by kernel_rfl) (fun _ _ _ _ _ h => h) (by rfl) hS0 (fun W hI => by clear hI; go_simp) ?_; (try simp only [Act.put, List.setIfInBounds_toArray, List.set_cons_zero, List.set_cons_succ])
          refine wpH_take (i := 1) (v := .int .u8 zi) hB (by rfl) (by kernel_rfl) (fun _ _ _ _ _ h => h) (by rfl) hS0 (fun W hI => by clear hI; go_simp) ?_; (try simp only [Act.put, List.setIfInBounds_toArray, List.set_cons_zero, List.set_cons_succ])
          refine wpH_take (i := 2) (v := Co.val ⟨1, zi, 0, 0, 0⟩) hB (by rfl) (by kernel_rfl) (fun _ _ _ _ _ h => h) (by rfl) hS0 (fun W hI => exec_buildC1 rfl rfl (by clear hI; go_simp)) ?_
          (try simp only [Act.put, List.setIfInBounds_toArray, List.set_cons_zero, List.set_cons_succ])
          refine wpH_take (i := 3) (v := .string (strL l)) hB (by rfl) (by kernel_rfl) (fun _ _ _ _ _ h => h) (by rfl) hS0 (fun W hI => by clear hI; go_simp) ?_; (try simp only [Act.put, List.setIfInBounds_toArray, List.set_cons_zero, List.set_cons_succ])
          refine wpH_take (i := 4) (v := .int .i64 (k : Int)) hB (by rfl) (by kernel_rfl) (fun _ _ _ _ _ h => h) (by rfl) hS0 (fun W hI => by clear hI; go_simp) ?_; (try simp only [Act.put, List.setIfInBounds_toArray, List.set_cons_zero, List.set_cons_succ])
          refine wpH_take (i := 5) (v := .string ((strL l).extract k n)) hB (by rfl) (by kernel_rfl) (fun _ _ _ _ _ h => h) (by rfl) hS0 (fun W hI => by clear hI; go_simp) ?_; (try simp only [Act.put, List.setIfInBounds_toArray, List.set_cons_zero, List.set_cons_succ])
          obtain ⟨k1, k2⟩ := KS.out _ ⟨1, zi, 0, 0, 0⟩ C3.out S3.out
          have hS1 := hS0.setRowF (p := w.heap.size) rfl (Co.vals ⟨1, zi, 0, 0, 0⟩).toArray
          refine wpH_one (i := 6) (by kernel_rfl) (wpOp_skip (w' := v0.setRow w.heap.size (Co.vals ⟨1, zi, 0, 0, 0⟩).toArray) (by rfl) (wanted_none (by rfl) _) (exec_store (v := Co.val ⟨1, zi, 0, 0, 0⟩) rfl rfl rfl (run_storeCo C3.out _)) ⟨hS1, ?_⟩)
          (try simp only [Act.put, List.setIfInBounds_toArray, List.set_cons_zero, List.set_cons_succ])
          have hS0 := hS1
          refine wpH_take (i := 7) (v := .string ((strL l).extract k n)) hB (by rfl) (by kernel_rfl) (fun _ _ _ _ _ h => h) (by rfl) hS0 (fun W hI => by clear hI; go_simp) ?_; (try simp only [Act.put, List.setIfInBounds_toArray, List.set_cons_zero, List.set_cons_succ])
          refine wpH_end (by kernel_rfl) ?_
          clear hS0 hS1 hB
          have K1 := Lib.hid k1
          have K2 := Lib.hid k2
          clear k1 k2
          go_wp2
          exact bodyPost_ret (results_co rfl rfl rfl K1.out) rfl ⟨by rw [HRR.out, HE.out, HK.out, strL_extract, List.take_of_length_le (by have := HN.out; omega), HZI.out, HZ.out]; rfl, K2.out⟩
end Go.Proofs.YthcndmchlpohpaaGreatDoor

namespace Go.Proofs.YthcndmchlpohpaaGreatDoor
set_option linter.unusedVariables false
set_option linter.unusedSimpArgs false
open Go.RowKit Go.Shelf
attribute [local go_sem] Oper.semAt_some

/-- A pen's eleven numbers, as a cell that was never written. -/
def penC (f b : Co) (fl : Int) : Cell := ⟨0, 0, 0, 0, 0, f.k, f.i, f.r, f.g, f.b, b.k, b.i, b.r, b.g, b.b, fl⟩
def zeroCo : Co := ⟨0, 0, 0, 0, 0⟩
def flagOr (fl : Int) (c : UInt8) : Int := if Lib.indexByte letL c < 0 then fl else bits BinOp.or IntKind.u8 fl (((2 ^ (Lib.indexByte letL c).toNat : Nat)) : Int)
def taggedF : Nat → List UInt8 → Co → Co → Int → Cell
  | 0, _, f, b, fl => penC f b fl
  | _ + 1, [], f, b, fl => penC f b fl
  | n + 1, c :: t, f, b, fl => if c = 43 then taggedF n (coloredB t).2 (coloredB t).1 b (flagOr fl c) else if c = 45 then taggedF n (coloredB t).2 f (coloredB t).1 (flagOr fl c) else taggedF n t f b (flagOr fl c)
/-- The pen that tags say. -/
def taggedB (l : List UInt8) : Cell := taggedF l.length l zeroCo zeroCo 0
theorem coloredB_len (l : List UInt8) : (coloredB l).2.length ≤ l.length := by
  unfold coloredB
  split
  · show (l.drop 7).length ≤ _; rw [List.length_drop]; omega
  · show (l.drop (digK 3 l)).length ≤ _; rw [List.length_drop]; omega
theorem letL_idx (c : UInt8) : Lib.indexByte letL c = -1 ∨ ∃ i : Nat, i < 8 ∧ Lib.indexByte letL c = i := by
  have h : ∀ m : Fin 256, Lib.indexByte letL m.val.toUInt8 = -1 ∨ Lib.indexByte letL m.val.toUInt8 = 0 ∨ Lib.indexByte letL m.val.toUInt8 = 1 ∨ Lib.indexByte letL m.val.toUInt8 = 2 ∨ Lib.indexByte letL m.val.toUInt8 = 3 ∨ Lib.indexByte letL m.val.toUInt8 = 4 ∨ Lib.indexByte letL m.val.toUInt8 = 5 ∨ Lib.indexByte letL m.val.toUInt8 = 6 ∨ Lib.indexByte letL m.val.toUInt8 = 7 := by decide +kernel
  have h2 := h ⟨c.toNat, c.toNat_lt⟩
  rw [show (c.toNat).toUInt8 = c by simp] at h2
  rcases h2 with h | h | h | h | h | h | h | h | h
  · exact .inl h
  · exact .inr ⟨0, by omega, h⟩
  · exact .inr ⟨1, by omega, h⟩
  · exact .inr ⟨2, by omega, h⟩
  · exact .inr ⟨3, by omega, h⟩
  · exact .inr ⟨4, by omega, h⟩
  · exact .inr ⟨5, by omega, h⟩
  · exact .inr ⟨6, by omega, h⟩
  · exact .inr ⟨7, by omega, h⟩
theorem letL_signs : Lib.indexByte letL 43 = -1 ∧ Lib.indexByte letL 45 = -1 := by decide +kernel
def PeAt (W : World) (b : Nat) (q : Cell) : Prop := W.heap[b]? = some (.cells q.pvals.toArray 40 (0, 0))
theorem PeAt.sees {W W' : World} {b : Nat} {q : Cell} (h : PeAt W b q) (hs : Sees W W') : PeAt W' b q := by
  unfold PeAt at *
  rw [hs.block _ (Array.getElem?_eq_some_iff.1 h).1]; exact h
theorem pvals_one (c : Cell) : ∀ v ∈ c.pvals, v.oneCell' = true := by intro v hv; simp [Cell.pvals] at hv; rcases hv with rfl | rfl | rfl | rfl | rfl | rfl | rfl | rfl | rfl | rfl | rfl <;> rfl
theorem run_loadPe {W : World} {b : Nat} {q : Cell} (h : PeAt W b q) : (Instr.loadAt 40 (.pointer (some ⟨b, 0, none⟩))).run Tryz.prog W = .ok q.pen W :=
  run_load_agg 40 b 0 q.pvals pen_isAgg pen_sizeOf fun j x hx => by
    rw [Nat.zero_add, cell_of_row _ _ _ _ _ _ h]
    simpa using hx
theorem run_storePe {W : World} {b : Nat} {q : Cell} (h : PeAt W b q) (d : Cell) : (Instr.storeAt 40 (.pointer (some ⟨b, 0, none⟩)) d.pen).run Tryz.prog W = .ok () (W.setRow b d.pvals.toArray) :=
  run_storeAt_row (P := Tryz.prog) (W := W) 40 b _ 40 d.pvals pen_sizeOf h rfl (pvals_one d)
theorem run_storeAt_part {P : Program} {W : World} (t : TypeId) (g o : Nat) (cur : Array Value) (u : TypeId) (vs : List Value) (hs : ∀ W, (sizeOf t).run P W = .ok vs.length W) (hg : W.heap[g]? = some (.cells cur u (0, 0))) (hl : o + vs.length ≤ cur.size) (h1 : ∀ v ∈ vs, v.oneCell' = true) :
    (Instr.storeAt t (.pointer (some ⟨g, o, none⟩)) (.agg vs.toArray)).run P W = .ok () (W.setRow g (cur.toList.take o ++ vs ++ cur.toList.drop (o + vs.length)).toArray) := by
  have hc : (Instr.sureAddr (.pointer (some ⟨g, o, none⟩))).run P W = .ok ⟨g, o, none⟩ W := rfl
  have h := run_storeCells_at (P := P) g o u vs 0 cur W hg (by omega) h1
  unfold Instr.storeAt storeVar
  simp only [Sem.run_bind, hc, Result.andThen_ok, hs, Value.cells]
  simp only [List.size_toArray, ne_eq, not_true_eq_false, if_false, h, Sem.run_ite]
  simp
theorem run_storeFore {W : World} {b : Nat} {f g : Co} {fl : Int} (h : PeAt W b (penC f g fl)) (d : Co) : (Instr.storeAt 37 (.pointer (some ⟨b, 0, none⟩)) d.val).run Tryz.prog W = .ok () (W.setRow b (penC d g fl).pvals.toArray) :=
  run_storeAt_part (P := Tryz.prog) (W := W) 37 b 0 _ 40 d.vals co_sizeOf h (by show 0 + 5 ≤ 11; decide) (co_one d)
theorem run_storeBack {W : World} {b : Nat} {f g : Co} {fl : Int} (h : PeAt W b (penC f g fl)) (d : Co) : (Instr.storeAt 37 (.pointer (some ⟨b, 5, none⟩)) d.val).run Tryz.prog W = .ok () (W.setRow b (penC f d fl).pvals.toArray) :=
  run_storeAt_part (P := Tryz.prog) (W := W) 37 b 5 _ 40 d.vals co_sizeOf h (by show 5 + 5 ≤ 11; decide) (co_one d)
theorem run_storeFl {W : World} {b : Nat} {q : Cell} (h : PeAt W b q) (y : Int) : (Instr.storeAt 38 (.pointer (some ⟨b, 10, none⟩)) (.int .u8 y)).run Tryz.prog W = .ok () (W.setCell ⟨b, 10, none⟩ (.int .u8 y)) := by
  have hc : W.cell? ⟨b, 10, none⟩ = some (.int .u8 q.flags) := by rw [cell_of_row _ _ _ _ _ _ h]; rfl
  have hf : W.frozen? ⟨b, 10, none⟩ = false := frozen_of_row _ _ _ _ _ h
  go_simp
theorem results_pe {fn : Func} {tmps : Array Value} {W : World} {i b : Nat} {q : Cell} (hr : fn.results = #[.cell i 40]) (hi : tmps[i]?.getD undef = .pointer (some ⟨b, 0, none⟩)) (h : PeAt W b q) :
    (results fn tmps).run Tryz.prog W = .ok q.pen W := by
  have h1 : (loadVar 40 ⟨b, 0, none⟩).run Tryz.prog W = .ok q.pen W := run_loadPe h
  unfold results
  rw [hr]
  simp [hi, asAddr, h1]
def strSz : Value → Nat | .string s => s.size | _ => 0
/-- What stands in memory: the result's block, the pen's block. -/
structure TgS (w : World) (q : Cell) (W : World) : Prop where
  s : Sees w W
  z : PeAt W w.heap.size zeroM
  p : PeAt W (w.heap.size + 1) q
theorem TgS.sees {w W W' : World} {q : Cell} (h : TgS w q W) (hs : Sees W W') : TgS w q W' := ⟨h.s.trans hs, h.z.sees hs, h.p.sees hs⟩
theorem TgS.set {w W : World} {q : Cell} (h : TgS w q W) (d : Cell) : TgS w d (W.setRow (w.heap.size + 1) d.pvals.toArray) :=
  ⟨(Keeps.setRow' (F := fun _ => False) (Keeps.of_sees h.s) (Nat.le_succ _) _).sees_end (fun _ _ h => h), by unfold PeAt; rw [setRow_other _ _ _ _ (by omega)]; exact h.z, setRow_heap _ _ _ _ _ _ h.p⟩
theorem TgS.flag {w W : World} {f g : Co} {fl : Int} (h : TgS w (penC f g fl) W) (y : Int) : TgS w (penC f g y) (W.setCell ⟨w.heap.size + 1, 10, none⟩ (.int .u8 y)) :=
  ⟨h.s.setCell (Nat.le_succ _) _, by unfold PeAt; rw [heap_setCell_other _ _ _ _ (by show w.heap.size ≠ w.heap.size + 1; omega)]; exact h.z, heap_setCell_same _ _ _ _ _ _ h.p⟩
theorem run_shl1 (i : Nat) (hi : i < 8) (W : World) : (binOp .shl 38 (.int .u8 1) (.int .i64 (i : Int))).run Tryz.prog W = .ok (.int .u8 ((2 ^ i : Nat) : Int)) W := by
  rcases (show i = 0 ∨ i = 1 ∨ i = 2 ∨ i = 3 ∨ i = 4 ∨ i = 5 ∨ i = 6 ∨ i = 7 by omega) with rfl | rfl | rfl | rfl | rfl | rfl | rfl | rfl <;> kernel_rfl
set_option maxHeartbeats 2000000 in
set_option maxRecDepth 100000 in
theorem tagged_any (l : List UInt8) (hl : l.length ≤ 2000000) (w : World) (hw : Sd w) :
    Calls Tryz.prog 48 #[.string (strL l)] w fun e w' => e = .returned (taggedB l).pen ∧ Sees w w' := by
  obtain ⟨R, hR⟩ : ∃ R, R = taggedB l := ⟨_, rfl⟩
  rw [← hR]
  have HR := Lib.hid hR
  have HW := Lib.hid hw
  have H0 : Hid (∀ X, X = w.alloc (.cells zeroM.pvals.toArray 40) → ∀ Y, Y = X.alloc (.cells zeroM.pvals.toArray 40) → TgS w (penC zeroCo zeroCo 0) Y) := by
    rintro X rfl Y rfl
    refine ⟨((Sees.refl w).alloc _).alloc _, ?_, ?_⟩
    · exact PeAt.sees (heap_alloc_new w _) ((Sees.refl _).alloc _)
    · have := heap_alloc_new (w.alloc (.cells zeroM.pvals.toArray 40)) (.cells zeroM.pvals.toArray 40)
      rwa [World.size_alloc] at this
  clear hR hw
  go_enter Tryz.func48, Tryz.ntmps48
  go_upto_region 2 with fail
  refine wp_world fun W1 hW1 => ?_
  have T1 := Lib.hid (H0.out _ rfl W1 hW1)
  clear hW1 H0
  go_loopw [0] (fun v W => ∃ (L : List UInt8) (fu : Nat) (f b : Co) (fl : Int), v = .string (strL L) ∧ L.length ≤ fu ∧ fu ≤ 2000000 ∧ Hid (taggedF fu L f b fl = R) ∧ TgS w (penC f b fl) W) (fun v _ => strSz v)
  case atStart => exact ⟨l, l.length, zeroCo, zeroCo, 0, rfl, Nat.le_refl _, hl, by unfold RowKit.Hid; rw [HR.out]; rfl, T1.out⟩
  case round =>
    obtain ⟨L, fu, f, b, fl, rfl, hfu, hfu2, hE, hT⟩ := hrel
    have T2 := Lib.hid hT
    clear hT T1
    cases L with
    | nil =>
      have hq : penC f b fl = R := by
        rw [← hE.out]
        cases fu <;> rfl
      have HQ := Lib.hid hq
      have P2 := T2.out.p
      have Z2 := T2.out.z
      rw [hq] at P2
      have hem : strL [] = ⟨#[]⟩ := rfl
      rw [hem]
      clear hE hq
      go_wp2_with (first
        | (guard_target = wpList _ _ _ ({ dst := _, op := Op.load 40 _, type := _, pos := _, after := _, guard := _ } :: _) _ _; refine wpList_val rfl (exec_load (v := R.pen) rfl rfl (run_loadPe P2)) (fun K hK => ?_); go_simp; refine hK _ _ ?_; clear hK K)
        | (guard_target = wpList _ _ _ ({ dst := _, op := Op.store 40 _ _, type := _, pos := _, after := _, guard := _ } :: _) _ _; refine wpList_skip rfl (exec_store (v := R.pen) rfl rfl rfl (run_storePe Z2 R)) (fun K hK => ?_); go_simp; refine hK _ _ ?_; clear hK K))
      exact bodyPost_ret (results_pe rfl rfl (setRow_heap _ _ _ _ _ _ Z2)) rfl ⟨rfl, (Keeps.setRow' (F := fun _ => False) (Keeps.of_sees T2.out.s) (Nat.le_refl _) _).sees_end (fun _ _ h => h)⟩
    | cons c t =>
      obtain ⟨fu, rfl⟩ : ∃ k, fu = k + 1 := ⟨fu - 1, by simp at hfu; omega⟩
      rw [taggedF] at hE
      have hemp : (strL (c :: t)).toList.isEmpty = false := by
        rw [← decide_eq_emptyBytes]
        exact decide_eq_false (fun h => by have := congrArg ByteArray.size h; rw [strL_size] at this; cases this)
      have hsz : (strL (c :: t)).size = t.length + 1 := by rw [strL_size]; rfl
      have hg : ∀ h, (strL (c :: t))[0]'h = c := fun h => strL_get (c :: t) 0
      have hx : (strL (c :: t)).extract 1 (t.length + 1) = strL t := by rw [strL_extract, List.take_of_length_le (by simp)]; rfl
      have KI : ∀ W, Calls Tryz.prog 40 #[.string ⟨#[98, 102, 105, 117, 108, 118, 104, 115]⟩, .int .u8 (c.toNat : Int)] W fun e w' => e = .returned (.int .i64 (Lib.indexByte letL c)) ∧ w' = W := fun W => by
        have q := ixb_any ⟨#[98, 102, 105, 117, 108, 118, 104, 115]⟩ (c.toNat : Int) W
        rw [show ((c.toNat : Int).toNat.toUInt8) = c by simp] at q
        exact q
      have KC : ∀ W, Sees w W → Calls Tryz.prog 63 #[.string (strL t)] W fun e w' => e = .returned (.tuple #[(coloredB t).1.val, .string (strL (coloredB t).2)]) ∧ Sees W w' := fun W hs => colored_any t (by simp at hfu; omega) W (HW.out.sees hs)
      replace hE : (if c = 43 then taggedF fu (coloredB t).2 (coloredB t).1 b (flagOr fl c) else if c = 45 then taggedF fu (coloredB t).2 f (coloredB t).1 (flagOr fl c) else taggedF fu t f b (flagOr fl c)) = R := hE.out
      by_cases hcc : c = 43
      · have hix : Lib.indexByte letL c = -1 := by rw [hcc]; exact letL_signs.1
        have hfo : flagOr fl c = fl := by unfold flagOr; rw [if_pos (by rw [hix]; decide)]
        rw [hfo] at hE
        have hm : c.toNat = 43 := by rw [hcc]; rfl
        rw [hix, hm] at KI
        have KI2 := Lib.hid KI
        rw [if_pos hcc] at hE
        obtain ⟨d, hd⟩ : ∃ d, d = (coloredB t).1 := ⟨_, rfl⟩
        obtain ⟨L2, hL2⟩ : ∃ L2, L2 = (coloredB t).2 := ⟨_, rfl⟩
        have hl2 := coloredB_len t
        rw [← hd, ← hL2] at hE KC
        rw [← hL2] at hl2
        have HE := Lib.hid hE
        have KC2 := Lib.hid KC
        clear hE KC KI hix hfo hcc hd hL2
        go_wp2_with fail
        refine (KI2.out _).mono ?_
        rintro e w' ⟨rfl, rfl⟩
        go_wp2_with fail
        refine (KC2.out _ T2.out.s).mono ?_
        rintro e W3 ⟨rfl, s3⟩
        have T3 := Lib.hid (T2.out.sees s3)
        have P3 := T3.out.p
        clear s3 T2 KC2 KI2
        go_wp2_with (guard_target = wpList _ _ _ ({ dst := _, op := Op.store 37 _ _, type := _, pos := _, after := _, guard := _ } :: _) _ _; refine wpList_skip rfl (exec_store (v := d.val) rfl rfl rfl (run_storeFore P3 d)) (fun K hK => ?_); go_simp; refine hK _ _ ?_; clear hK K)
        have T4 := Lib.hid (T3.out.set (penC d b fl))
        go_roundw
        case rel => exact ⟨L2, fu, d, b, fl, rfl, by simp at hfu; omega, by omega, HE.out, T4.out⟩
        case measure => simp [strSz, strL_size]; omega
      have hc1 := hcc
      rw [if_neg hcc] at hE
      clear hcc
      by_cases hcc : c = 45
      · have hix : Lib.indexByte letL c = -1 := by rw [hcc]; exact letL_signs.2
        have hfo : flagOr fl c = fl := by unfold flagOr; rw [if_pos (by rw [hix]; decide)]
        rw [hfo] at hE
        have hm : c.toNat = 45 := by rw [hcc]; rfl
        rw [hix, hm] at KI
        have KI2 := Lib.hid KI
        rw [if_pos hcc] at hE
        obtain ⟨d, hd⟩ : ∃ d, d = (coloredB t).1 := ⟨_, rfl⟩
        obtain ⟨L2, hL2⟩ : ∃ L2, L2 = (coloredB t).2 := ⟨_, rfl⟩
        have hl2 := coloredB_len t
        rw [← hd, ← hL2] at hE KC
        rw [← hL2] at hl2
        have HE := Lib.hid hE
        have KC2 := Lib.hid KC
        clear hE KC KI hix hfo hcc hd hL2
        go_wp2_with fail
        refine (KI2.out _).mono ?_
        rintro e w' ⟨rfl, rfl⟩
        go_wp2_with fail
        refine (KC2.out _ T2.out.s).mono ?_
        rintro e W3 ⟨rfl, s3⟩
        have T3 := Lib.hid (T2.out.sees s3)
        have P3 := T3.out.p
        clear s3 T2 KC2 KI2
        go_wp2_with (guard_target = wpList _ _ _ ({ dst := _, op := Op.store 37 _ _, type := _, pos := _, after := _, guard := _ } :: _) _ _; refine wpList_skip rfl (exec_store (v := d.val) rfl rfl rfl (run_storeBack P3 d)) (fun K hK => ?_); go_simp; refine hK _ _ ?_; clear hK K)
        have T4 := Lib.hid (T3.out.set (penC f d fl))
        go_roundw
        case rel => exact ⟨L2, fu, f, d, fl, rfl, by simp at hfu; omega, by omega, HE.out, T4.out⟩
        case measure => simp [strSz, strL_size]; omega
      have hc2 := hcc
      rw [if_neg hcc] at hE
      clear hcc KC
      rcases letL_idx c with hix | ⟨i, hi8, hix⟩
      · have hfo : flagOr fl c = fl := by unfold flagOr; rw [if_pos (by rw [hix]; decide)]
        rw [hfo] at hE
        rw [hix] at KI
        have KI2 := Lib.hid KI
        have HE := Lib.hid hE
        have h43 : ((c.toNat : Int) == 43) = false := by simp; intro h; exact hc1 (UInt8.toNat_inj.1 (by rw [show (43 : UInt8).toNat = 43 from rfl]; omega))
        have h45 : ((c.toNat : Int) == 45) = false := by simp; intro h; exact hc2 (UInt8.toNat_inj.1 (by rw [show (45 : UInt8).toNat = 45 from rfl]; omega))
        clear hE KI hix hfo hc1 hc2
        go_wp2_with fail
        refine (KI2.out _).mono ?_
        rintro e w' ⟨rfl, rfl⟩
        go_wp2
        go_roundw
        case rel => exact ⟨t, fu, f, b, fl, rfl, by simp at hfu; omega, by omega, HE.out, T2.out⟩
        case measure => simp [strSz, strL_size]
      · obtain ⟨p, hp⟩ : ∃ p : Int, p = ((2 ^ i : Nat) : Int) := ⟨_, rfl⟩
        have hfo : flagOr fl c = bits BinOp.or IntKind.u8 fl p := by unfold flagOr; rw [if_neg (by rw [hix]; omega), hix, hp]; rfl
        rw [hfo] at hE
        rw [hix] at KI
        have KI2 := Lib.hid KI
        have HE := Lib.hid hE
        have h43 : ((c.toNat : Int) == 43) = false := by simp; intro h; exact hc1 (UInt8.toNat_inj.1 (by rw [show (43 : UInt8).toNat = 43 from rfl]; omega))
        have h45 : ((c.toNat : Int) == 45) = false := by simp; intro h; exact hc2 (UInt8.toNat_inj.1 (by rw [show (45 : UInt8).toNat = 45 from rfl]; omega))
        have HSH : Hid (∀ W, (binOp .shl 38 (.int .u8 1) (.int .i64 (i : Int))).run Tryz.prog W = .ok (.int .u8 p) W) := fun W => by rw [hp]; exact run_shl1 i hi8 W
        clear hE KI hix hfo hc1 hc2 hp
        go_wp2_with fail
        refine (KI2.out _).mono ?_
        rintro e w' ⟨rfl, rfl⟩
        go_upto_region 7 with fail
        refine wpH_go (fun b => b = w.heap.size + 1) 7 (by kernel_rfl) (by kernel_rfl) (by rfl) (fun hB v0 hs9 => ?_)
        have T3 := Lib.hid (T2.out.sees hs9)
        have P3 : Hid (v0.cell? ⟨w.heap.size + 1, 10, none⟩ = some (.int .u8 fl)) := by unfold RowKit.Hid; rw [cell_of_row _ _ _ _ _ _ T3.out.p]; rfl
        have hS0 : Keeps (fun b => b = w.heap.size + 1) v0 v0 := Keeps.refl _ v0
        clear hs9 T2 KI2
        refine wpH_take (i := 0) (v := .pointer (some ⟨w.heap.size + 1, 10, none⟩)) hB (by rfl) (by kernel_rfl) (fun _ _ _ _ _ h => h) (by rfl) hS0 (fun W hI => by clear hI; go_simp) ?_; (try simp only [Act.put, List.setIfInBounds_toArray, List.set_cons_zero, List.set_cons_succ])
        refine wpH_take (i := 2) (v := .int .i64 (i : Int)) hB (by rfl) (by kernel_rfl) (fun _ _ _ _ _ h => h) (by rfl) hS0 (fun W hI => by clear hI; go_simp) ?_; (try simp only [Act.put, List.setIfInBounds_toArray, List.set_cons_zero, List.set_cons_succ])
        refine wpH_take (i := 3) (v := .int .u8 p) hB (by rfl) (by kernel_rfl) (fun _ _ _ _ _ h => h) (by rfl) hS0 (fun W hI => exec_bin (a := .int .u8 1) (b := .int .i64 (i : Int)) rfl rfl (by clear hI; go_simp) (by clear hI; rfl) (HSH.out W)) ?_
        (try simp only [Act.put, List.setIfInBounds_toArray, List.set_cons_zero, List.set_cons_succ])
        have p3 := P3.out
        refine wpH_one (i := 1) (by kernel_rfl) (wpOp_val (v := .int .u8 fl) (w' := v0) (by rfl) (wanted_none (by rfl) _) (by go_simp) ⟨hS0, ?_⟩)
        (try simp only [Act.put, List.setIfInBounds_toArray, List.set_cons_zero, List.set_cons_succ])
        clear p3
        obtain ⟨y, hy⟩ : ∃ y, y = bits BinOp.or IntKind.u8 fl p := ⟨_, rfl⟩
        rw [← hy] at HE
        refine wpH_take (i := 4) (v := .int .u8 y) hB (by rfl) (by kernel_rfl) (fun _ _ _ _ _ h => h) (by rfl) hS0 (fun W hI => by clear hI; rw [hy]; go_simp) ?_; (try simp only [Act.put, List.setIfInBounds_toArray, List.set_cons_zero, List.set_cons_succ])
        refine wpH_take (i := 5) (v := .pointer (some ⟨w.heap.size + 1, 10, none⟩)) hB (by rfl) (by kernel_rfl) (fun _ _ _ _ _ h => h) (by rfl) hS0 (fun W hI => by clear hI; go_simp) ?_; (try simp only [Act.put, List.setIfInBounds_toArray, List.set_cons_zero, List.set_cons_succ])
        have T4 := Lib.hid (T3.out.flag y)
        have hS1 : Keeps (fun b => b = w.heap.size + 1) v0 (v0.setCell ⟨w.heap.size + 1, 10, none⟩ (.int .u8 y)) := hS0.setCell (fun _ => rfl) _
        refine wpH_one (i := 6) (by kernel_rfl) (wpOp_skip (w' := v0.setCell ⟨w.heap.size + 1, 10, none⟩ (.int .u8 y)) (by rfl) (wanted_none (by rfl) _) (exec_store (v := .int .u8 y) rfl rfl rfl (run_storeFl T3.out.p y)) ⟨hS1, ?_⟩)
        (try simp only [Act.put, List.setIfInBounds_toArray, List.set_cons_zero, List.set_cons_succ])
        refine wpH_end (by kernel_rfl) ?_
        clear hS0 hS1 hB hy T3 P3
        go_wp2
        go_roundw
        case rel => exact ⟨t, fu, f, b, y, rfl, by simp at hfu; omega, by omega, HE.out, T4.out⟩
        case measure => simp [strSz, strL_size]
end Go.Proofs.YthcndmchlpohpaaGreatDoor

namespace Go.Proofs.YthcndmchlpohpaaGreatDoor
set_option linter.unusedVariables false
set_option linter.unusedSimpArgs false
open Go.RowKit Go.Shelf
attribute [local go_sem] Oper.semAt_some

/-- Where a mark goes, if there is a cell; what put makes of cells. -/
def putI (cs : List Cell) : Nat := if 2 ≤ cs.length ∧ ((cs[cs.length - 1]?).map (·.width)) = some 0 then cs.length - 2 else cs.length - 1
def putB (cs : List Cell) (r : Int) (q : Cell) : Option (List Cell) :=
  if wOf r ≠ 0 then (if ofOk r q then some (cs ++ ofL r q) else none)
  else match cs[putI cs]? with
    | none => none
    | some c => if markE c r = 0 then some (cs.set (putI cs) (markC c r)) else none
set_option maxHeartbeats 2000000 in
set_option maxRecDepth 100000 in
theorem put_any (base : Nat) (v : Value) (cs : List Cell) (r : Int) (q : Cell) (w : World) (ht : Tabs w) (h : cellEl.Own (fun b => base ≤ b) w v cs) (hb : base ≤ w.heap.size) (hn : cs.length ≤ 4000000) :
    Calls Tryz.prog 50 #[v, .int .i32 r, q.pen] w fun e w' => ∃ v', e = .returned (.tuple #[v', .bool (putB cs r q).isSome]) ∧ (∀ ds, putB cs r q = some ds → cellEl.Own (fun b => base ≤ b) w' v' ds) ∧ Keeps (fun b => base ≤ b) w w' := by
  have KW := Lib.hid (fun W (hs : Sees w W) => widthOf_any r W (ht.sees hs))
  have KO := Lib.hid (fun W (hs : Sees w W) => cellOf_any r q W (ht.sees hs))
  have KM := Lib.hid (fun c W (hs : Sees w W) => mark_any c r W (ht.sees hs))
  obtain ⟨PB, hPB⟩ : ∃ PB, PB = putB cs r q := ⟨_, rfl⟩
  rw [← hPB]
  obtain ⟨bo, hbo⟩ : ∃ bo, bo = PB.isSome := ⟨_, rfl⟩
  rw [← hbo]
  have HBO := Lib.hid hbo
  clear hbo
  obtain ⟨a, cp, rfl, hcp⟩ := h.slice
  obtain ⟨n, hnn⟩ : ∃ n, n = cs.length := ⟨_, rfl⟩
  rw [← hnn] at hn hcp h ⊢
  have HN := Lib.hid hnn
  have HP := Lib.hid hPB
  have H := Lib.hid h
  have HB := Lib.hid hb
  have H0 : Hid (∀ Y, Y = w.alloc (.cells q.pvals.toArray 40) → Sees w Y ∧ PeAt Y w.heap.size q) := by
    rintro Y rfl
    exact ⟨(Sees.refl w).alloc _, heap_alloc_new w _⟩
  clear hPB hnn h hb ht
  unfold Cell.pen
  go_enter Tryz.func50, Tryz.ntmps50
  go_upto_region 1 with fail
  refine wp_world fun W1 hW1 => ?_
  obtain ⟨s1, p1⟩ := H0.out W1 hW1
  have S1 := Lib.hid s1
  have P1 := Lib.hid p1
  clear hW1 s1 p1 H0
  go_wp2_with fail
  refine (KW.out _ S1.out).mono ?_
  rintro e W2 ⟨rfl, s2⟩
  have S2 := Lib.hid (S1.out.trans s2)
  have P2 := P1.out.sees s2
  clear s2 S1 P1 KW
  by_cases hw : wOf r = 0
  · have hwb : (wOf r != 0) = false := by simpa using hw
    have HPB : Hid (PB = match cs[putI cs]? with | none => none | some c => if markE c r = 0 then some (cs.set (putI cs) (markC c r)) else none) := by
      unfold RowKit.Hid
      rw [HP.out]
      unfold putB
      rw [if_neg (by rw [hw]; simp)]
    rw [hw]
    clear hw hwb P2 KO
    obtain ⟨i0, hi0⟩ : ∃ i0, i0 = putI cs := ⟨_, rfl⟩
    rw [← hi0] at HPB
    by_cases hn0 : n = 0
    · have hcs : cs = [] := List.eq_nil_of_length_eq_zero (by have := HN.out; omega)
      have hPn : PB = none := by rw [HPB.out, hcs]; rfl
      have HPN := Lib.hid hPn
      have HS2 := Lib.hid S2.out
      subst hn0
      clear hPn hi0 hcs
      go_wp2
      go_ret2
      exact ⟨_, by rw [HBO.out, HPN.out]; rfl, fun ds hds => by (rw [HPN.out] at hds; cases hds), Keeps.of_sees HS2.out⟩
    · obtain ⟨z, hz⟩ : ∃ z, cs[n - 1]? = some z := ⟨_, List.getElem?_eq_getElem (by have := HN.out; omega)⟩
      obtain ⟨b, o, z', rfl, _, hz', hatz⟩ := (H.out.sees S2.out).rd.cell (show n - 1 < n by omega)
      rw [hz] at hz'
      cases hz'
      have kn : IntKind.i64.wrap ((n : Int) - 1) = ((n - 1 : Nat) : Int) := by rw [IntWalk.i64_in _ (by omega)]; omega
      have hi0n : i0 < n ∧ (i0 = n - 1 ∨ (2 ≤ n ∧ i0 = n - 2)) := by
        rw [hi0]
        unfold putI
        rw [← HN.out]
        split
        · rename_i h; exact ⟨by omega, .inr ⟨h.1, rfl⟩⟩
        · exact ⟨by omega, .inl rfl⟩
      obtain ⟨c, hc⟩ : ∃ c, cs[i0]? = some c := ⟨_, List.getElem?_eq_getElem (by have := HN.out; omega)⟩
      rw [hc] at HPB
      obtain ⟨b', o', c', e', _, hc', hatc⟩ := (H.out.sees S2.out).rd.cell (show i0 < n by omega)
      cases e'
      rw [hc] at hc'
      cases hc'
      have ho0 : o = 0 := by
        obtain ⟨g, _, e, _⟩ := own_store_cell H.out (show i0 < cs.length by have := HN.out; omega) c
        cases e
        rfl
      subst ho0
      rw [Nat.zero_add] at hatz hatc
      have zw := hatz.all.2.2.2.2.1
      have HATC := Lib.hid hatc
      have HI0 := Lib.hid hi0
      have HS2 := Lib.hid S2.out
      have HI0N := Lib.hid hi0n
      clear hatc hatz hi0
      have hiz : i0 = (if 2 ≤ n ∧ z.width = 0 then n - 2 else n - 1) := by
        rw [HI0.out]
        unfold putI
        rw [← HN.out, hz]
        simp
      have HIZ := Lib.hid hiz
      clear hiz hi0n hz hc
      obtain ⟨E, hE⟩ : ∃ E, E = markE c r := ⟨_, rfl⟩
      obtain ⟨D, hD⟩ : ∃ D, D = (if markE c r = 0 then markC c r else zeroM) := ⟨_, rfl⟩
      have KM2 : Hid (∀ W, Sees w W → Calls Tryz.prog 66 #[c.val, .int .i32 r] W fun e w' => e = .returned (.tuple #[D.val, .int .i64 E]) ∧ Sees W w') := fun W hs => by rw [hE, hD]; exact KM.out c W hs
      have HE := Lib.hid hE
      have HD := Lib.hid hD
      have hin : (i0 : Int) < (n : Int) := by have := HI0N.out; omega
      have hin2 : i0 < n := by have := HI0N.out; omega
      have hneg : ¬ ((i0 : Int) < 0) := by omega
      have hways : ((0 < ((n - 1 : Nat) : Int) ∧ (z.width == 0) = true) ∧ IntKind.i64.wrap (((n - 1 : Nat) : Int) - 1) = (i0 : Int)) ∨ ((0 < ((n - 1 : Nat) : Int) ∧ (z.width == 0) = false) ∧ ((n - 1 : Nat) : Int) = (i0 : Int)) ∨ (¬ 0 < ((n - 1 : Nat) : Int) ∧ ((n - 1 : Nat) : Int) = (i0 : Int)) := by
        by_cases h1 : 2 ≤ n
        · by_cases h2 : z.width = 0
          · have := HIZ.out
            rw [if_pos ⟨h1, h2⟩] at this
            exact .inl ⟨⟨by omega, by simpa using h2⟩, by rw [IntWalk.i64_in _ (by omega)]; omega⟩
          · have := HIZ.out
            rw [if_neg (fun h => h2 h.2)] at this
            exact .inr (.inl ⟨⟨by omega, by simpa using h2⟩, by omega⟩)
        · have := HIZ.out
          rw [if_neg (fun h => h1 h.1)] at this
          exact .inr (.inr ⟨by omega, by omega⟩)
      have kidx : ((n - 1 : Nat) : Int) < (n : Int) := by omega
      have kidx2 : n - 1 < n := by omega
      clear hE hD KM S2
      rcases hways with ⟨⟨u1, u2⟩, u3⟩ | ⟨⟨u1, u2⟩, u3⟩ | ⟨u1, u3⟩
      all_goals
        try (have u4 : n - 1 = i0 := by omega)
        try rw [u4] at zw kn
        go_upto_region 9 with fail
        clear kn u1 u3 zw kidx kidx2
        try clear u2
        go_wp2_with (guard_target = wpList _ _ _ ({ dst := _, op := Op.load 42 _, type := _, pos := _, after := _, guard := _ } :: _) _ _; refine wpList_val rfl (exec_load (v := c.val) rfl rfl (run_loadCell HATC.out)) (fun K hK => ?_); go_simp; refine hK _ _ ?_; clear hK K)
        refine (KM2.out _ HS2.out).mono ?_
        rintro e W3 ⟨rfl, s3⟩
        have HS3 := Lib.hid (HS2.out.trans s3)
        clear s3 HATC KM2
        go_upto_region 10 with (guard_target = wpList _ _ _ ({ dst := _, op := Op.store 42 _ _, type := _, pos := _, after := _, guard := _ } :: _) _ _; refine wpList_skip rfl (exec_store (v := D.val) rfl rfl rfl (run_storeNew D _ rfl _ rfl)) (fun K hK => ?_); go_simp; refine hK _ _ ?_; clear hK K)
        refine wp_world fun W4 hW4 => ?_
        have X4 : CellAt W4 W3.heap.size 0 D := by subst hW4; exact cellAt_new W3 D _
        have HS4 : Hid (Sees w W4) := by subst hW4; exact HS3.out.alloc _
        clear hW4
        obtain ⟨g, W5, eg, hgb, -, hst, hown, hkp⟩ := own_store_cell (H.out.sees HS4.out) (show i0 < cs.length by have := HN.out; omega) D
        cases eg
        have HOW := Lib.hid hown
        have HK5 : Hid (Keeps (fun b => base ≤ b) w W5) := (Keeps.of_sees HS4.out).trans (hkp.mono fun g' _ e => by rw [e]; exact hgb)
        clear hown hkp hgb
        go_wp2_with (first
          | (guard_target = wpList _ _ _ ({ dst := _, op := Op.load 42 _, type := _, pos := _, after := _, guard := _ } :: _) _ _; refine wpList_val rfl (exec_load (v := D.val) rfl rfl (run_loadCell X4)) (fun K hK => ?_); go_simp; refine hK _ _ ?_; clear hK K)
          | (guard_target = wpList _ _ _ ({ dst := _, op := Op.store 42 _ _, type := _, pos := _, after := _, guard := _ } :: _) _ _; refine wpList_skip rfl (exec_store (v := D.val) rfl rfl rfl hst) (fun K hK => ?_); go_simp; refine hK _ _ ?_; clear hK K))
        go_ret2
        refine ⟨.slice (some ⟨b, 0, none⟩) n cp, ?_, ?_, HK5.out⟩
        · rw [HBO.out, HPB.out, ← HE.out]
          by_cases he : E = 0
          · rw [he]; rfl
          · have he2 : (E == 0) = false := by simpa using he
            rw [if_neg he]
            show Ending.returned (.tuple #[_, .bool (E == 0)]) = _
            rw [he2]; rfl
        · intro ds hds
          rw [HPB.out, ← HE.out] at hds
          by_cases he : E = 0
          · rw [if_pos he] at hds
            cases hds
            have := HOW.out
            rw [HD.out, ← HE.out, if_pos he, ] at this
            exact this
          · rw [if_neg he] at hds
            cases hds
  · have hwb : (wOf r != 0) = true := by simpa using hw
    have HPB : Hid (PB = if ofOk r q then some (cs ++ ofL r q) else none) := by
      unfold RowKit.Hid
      rw [HP.out]
      unfold putB
      rw [if_pos hw]
    clear hw KM
    go_wp2_with (guard_target = wpList _ _ _ ({ dst := _, op := Op.load 40 _, type := _, pos := _, after := _, guard := _ } :: _) _ _; refine wpList_val rfl (exec_load (v := q.pen) rfl rfl (run_loadPe P2)) (fun K hK => ?_); go_simp; refine hK _ _ ?_; clear hK K)
    refine (KO.out _ S2.out).mono ?_
    rintro e W3 ⟨v2, rfl, ho, s3⟩
    have S3 := Lib.hid (S2.out.trans s3)
    have HO3 := Lib.hid (H.out.sees S3.out)
    have hlt2 := S2.out.size
    have R1 := Lib.hid (cell_row_of (base := base) (fun b => W2.heap.size ≤ b) HO3.out (fun g hg => hg))
    have HG : Hid (∀ b, W2.heap.size ≤ b → (Value.slice a n cp).ownBlock ≠ some b) := fun b hb' e => by
      have := (H.out.base e).2
      omega
    obtain ⟨ok, hok⟩ : ∃ ok, ok = ofOk r q := ⟨_, rfl⟩
    rw [← hok] at ho HPB ⊢
    obtain ⟨ys, hys⟩ : ∃ ys, ys = (if ok = true then ofL r q else []) := ⟨_, rfl⟩
    rw [← hys] at ho
    have HR2 := Lib.hid ho.rd
    have HYL : Hid (cs.length + ys.length ≤ 100000000) := by
      have : ys.length ≤ 2 := by
        rw [hys]
        unfold ofL
        split
        · split <;> simp
        · simp
      have := HN.out
      unfold RowKit.Hid
      omega
    have HB3 : Hid (base ≤ W3.heap.size) := by have := S3.out.size; have := HB.out; unfold RowKit.Hid; omega
    have HYS := Lib.hid hys
    clear hys ho s3 KO P2 hok
    rcases (show ok = true ∨ ok = false by cases ok <;> simp) with rfl | rfl
    all_goals
      go_wp2_with (at_builtin; refine El.wpList_append_row (base := base) typedCell rfl (.tmp 22) (.tmp 23) rfl (by go_simp) R1.out v2 (by go_simp) ys HR2.out HG.out HYL.out HB3.out ?_; intro v7 w7 hr7 hk7 hob7; have HR7 := Lib.hid hr7; have HK7 := Lib.hid hk7; clear hr7 hk7 hob7)
      have HKP : Hid (Keeps (fun b => base ≤ b) w w7) := (Keeps.of_sees S3.out).trans (HK7.out.mono fun g _ hg => (HO3.out.base hg).1)
      go_wp2
      go_ret2
      refine ⟨v7, by rw [HBO.out, HPB.out]; rfl, ?_, HKP.out⟩
      intro ds hds
      rw [HPB.out] at hds
      cases hds
      try (have := cell_row_own HR7.out; rw [HYS.out] at this; exact this)
end Go.Proofs.YthcndmchlpohpaaGreatDoor
