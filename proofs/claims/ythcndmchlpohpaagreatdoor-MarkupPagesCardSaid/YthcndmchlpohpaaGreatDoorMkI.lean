/- markup.Runs (48). The tables hold what the program's text lays. The tags of a cell's pen; the runs' texts together are the markup (48). markup.Markup (48). The tables hold what the program's text lays. No condition. -/
import Derived.Test.YthcndmchlpohpaaGreatDoorMkF
namespace Go.Proofs.YthcndmchlpohpaaGreatDoor
set_option linter.unusedVariables false
set_option linter.unusedSimpArgs false
open Go.RowKit Go.Shelf
attribute [local go_sem] Oper.semAt_some

/-- A run: column, width, text, and a cell that has its pen. -/
structure Rn where
  col : Nat
  wid : Nat
  txt : List UInt8
  c : Cell
def Rn.vals (r : Rn) : List Value := [.int .i64 (r.col : Int), .int .i64 (r.wid : Int), .string (strL r.txt)] ++ r.c.pvals
def rnEl : El Rn := wordsEl 58 14 Rn.vals (by decide) (fun _ => rfl) (by intro x v hv; simp [Rn.vals, Cell.pvals] at hv; rcases hv with rfl | rfl | rfl | rfl | rfl | rfl | rfl | rfl | rfl | rfl | rfl | rfl | rfl | rfl <;> rfl)
theorem typedRn : El.Typed Tryz.prog rnEl 55 := El.typed_of (z := .agg #[.int .i64 0, .int .i64 0, .string ⟨#[]⟩, .int .i64 0, .int .u8 0, .int .u8 0, .int .u8 0, .int .u8 0, .int .i64 0, .int .u8 0, .int .u8 0, .int .u8 0, .int .u8 0, .int .u8 0]) (bytes := 72) Tryz.underlying55 (by kernel_rfl) rfl (by decide)
def runsF : Nat → Nat → List Cell → List Rn
  | 0, _, _ => []
  | _ + 1, _, [] => []
  | f + 1, i, c :: cs => ⟨i, runLen (penOf c) cs + 1, txts ((c :: cs).take (runLen (penOf c) cs + 1)), c⟩ :: runsF f (i + (runLen (penOf c) cs + 1)) (cs.drop (runLen (penOf c) cs))
def runsL (cs : List Cell) : List Rn := runsF (usedN cs) 0 (cs.take (usedN cs))
theorem penEq_of (c d : Cell) : penEq c d = decide (penOf c = penOf d) := by
  unfold penEq eq11 eq5 penOf
  rw [Bool.eq_iff_iff]
  simp [and_assoc]
theorem runLen_of (p : List Int) : ∀ (l : List Cell) (m : Nat), (∀ j, j < m → ∃ d, l[j]? = some d ∧ penOf d = p) → (∀ d, l[m]? = some d → penOf d ≠ p) → runLen p l = m
  | [], m, h, _ => by
    cases m with
    | zero => rfl
    | succ m => obtain ⟨d, e, _⟩ := h 0 (by omega); simp at e
  | c :: cs, m, h, h2 => by
    cases m with
    | zero => rw [runLen, if_neg (h2 c rfl)]
    | succ m =>
      obtain ⟨d, e, hp⟩ := h 0 (by omega)
      simp at e
      subst e
      rw [runLen, if_pos hp, runLen_of p cs m (fun j hj => by simpa using h (j + 1) (by omega)) (fun d hd => h2 d (by simpa using hd))]
/-- One step of the walk. -/
theorem runs_step {U : List Cell} {i k f : Nat} {c : Cell} (hc : U[i]? = some c) (hik : i < k) (h1 : ∀ j, i < j → j < k → ∃ d, U[j]? = some d ∧ penOf d = penOf c) (h2 : ∀ d, U[k]? = some d → penOf d ≠ penOf c) :
    runsF (f + 1) i (U.drop i) = ⟨i, k - i, txts ((U.drop i).take (k - i)), c⟩ :: runsF f k (U.drop k) := by
  obtain ⟨hl, e⟩ := List.getElem?_eq_some_iff.1 hc
  have hd : U.drop i = c :: U.drop (i + 1) := by rw [List.drop_eq_getElem_cons hl, e]
  have hr : runLen (penOf c) (U.drop (i + 1)) = k - i - 1 := runLen_of _ _ _ (fun j hj => by
    obtain ⟨d, a, b⟩ := h1 (i + 1 + j) (by omega) (by omega)
    exact ⟨d, by rw [List.getElem?_drop]; exact a, b⟩) (fun d hd => h2 d (by rw [List.getElem?_drop] at hd; rw [← hd]; congr 1; omega))
  rw [hd, runsF, hr, show k - i - 1 + 1 = k - i by omega, List.drop_drop, show i + 1 + (k - i - 1) = k by omega, show i + (k - i) = k by omega]
theorem CellAt.keeps {F : Nat → Prop} {w W : World} {b p : Nat} {c : Cell} (h : CellAt w b p c) (hk : Keeps F w W) (hF : ¬ F b) : CellAt W b p c := fun j x hx => hk.cell hF (h j x hx)
def Rn.val (r : Rn) : Value := .agg #[.int .i64 (r.col : Int), .int .i64 (r.wid : Int), .string (strL r.txt), .int .i64 r.c.f0, .int .u8 r.c.f1, .int .u8 r.c.f2, .int .u8 r.c.f3, .int .u8 r.c.f4, .int .i64 r.c.b0, .int .u8 r.c.b1, .int .u8 r.c.b2, .int .u8 r.c.b3, .int .u8 r.c.b4, .int .u8 r.c.flags]
theorem exec_build4 {P : Program} {ρ : Operand → Value} {o : Oper} {t : TypeId} {x y z u : Operand} {a b c d v : Value} {W W' : World} (ho : o.op = .build t #[(0, x), (1, y), (2, z), (3, u)]) (hx : ρ x = a) (hy : ρ y = b) (hz : ρ z = c) (hu : ρ u = d) (h : (Instr.build t #[(0, a), (1, b), (2, c), (3, d)]).run P W = .ok v W') : (execOp ρ o).run P W = .ok (.value v) W' := by
  unfold execOp
  rw [ho]
  simp only [List.map_toArray, List.map_cons, List.map_nil, hx, hy, hz, hu, Sem.run_bind, h, Result.andThen_ok]
  rfl
theorem exec_buildS {P : Program} {ρ : Operand → Value} {o : Oper} {t : TypeId} {x : Operand} {a v : Value} {W W' : World} (ho : o.op = .buildSlice t 1 #[(0, x)]) (hx : ρ x = a) (h : (Instr.buildSlice t 1 #[(0, a)]).run P W = .ok v W') : (execOp ρ o).run P W = .ok (.value v) W' := by
  unfold execOp
  rw [ho]
  simp only [List.map_toArray, List.map_cons, List.map_nil, hx, Sem.run_bind, h, Result.andThen_ok]
  rfl
theorem run_buildRn (i m : Nat) (T : List UInt8) (c : Cell) (W : World) : (Instr.build 58 #[(0, .int .i64 (i : Int)), (1, .int .i64 (m : Int)), (2, .string (strL T)), (3, c.pen)]).run Tryz.prog W = .ok (Rn.val ⟨i, m, T, c⟩) W := by
  unfold Cell.pen Rn.val; go_simp
theorem run_buildSRn (r : Rn) (W : World) : (Instr.buildSlice 55 1 #[(0, r.val)]).run Tryz.prog W = .ok (.slice (some ⟨W.heap.size, 0, none⟩) 1 1) (W.alloc (.cells r.vals.toArray 58)) := by
  unfold Rn.val; go_simp; rfl
theorem guard_eqlPen (x y : Operand) (c d : Cell) (W : World) : (eqGuard .eql 40 x y c.pen d.pen).run Tryz.prog W = .ok () W := by unfold Cell.pen; go_simp
theorem run_eqlPen (c d : Cell) (W : World) : (binOp .eql 40 c.pen d.pen).run Tryz.prog W = .ok (.bool (penEq c d)) W := by
  unfold Cell.pen penEq
  rw [eqlPen]
set_option maxHeartbeats 1000000 in
theorem mid_cells {G : Nat → Prop} {w : World} {a : Option Addr} {n c : Nat} {ls : List Cell} (hv : cellEl.Rd G w (.slice a n c) ls) (k m : Nat) (hk : k ≤ m) (hm : m ≤ n) :
    ∃ a2 c2, (∀ W, (Instr.sliceAt 25 (.slice a n c) (some (.int .i64 (k : Int))) (some (.int .i64 (m : Int))) none).run Tryz.prog W = .ok (.slice a2 (m - k) c2) W) ∧ (∀ (F : Nat → Prop) (W : World), cellEl.Rd F W (.slice a n c) ls → cellEl.Rd F W (.slice a2 (m - k) c2) ((ls.drop k).take (m - k))) := by
  have hnl := hv.len
  have hvx : n ≤ c := by obtain ⟨_, _, e, h, _⟩ := hv; cases e; omega
  have hmc : ¬ c < m := by omega
  have hmk : ¬ m < k := by omega
  by_cases hls : ls = []
  · subst hls
    obtain rfl : n = 0 := hnl
    obtain rfl : m = 0 := by omega
    obtain rfl : k = 0 := by omega
    cases a with
    | none => exact ⟨none, c, fun W => by go_simp, fun F W _ => El.Rd.empty _ _ _ _⟩
    | some x =>
      by_cases hc0 : c = 0
      · subst hc0
        exact ⟨some x, 0, fun W => by go_simp, fun F W _ => El.Rd.empty _ _ _ _⟩
      · exact ⟨some (x.add 0), c, fun W => by go_simp, fun F W _ => El.Rd.empty _ _ _ _⟩
  · obtain ⟨b, o, rfl⟩ : ∃ b o, a = some ⟨b, o, none⟩ := by
      obtain ⟨ao, cap, e, _, hh⟩ := hv
      cases e
      obtain ⟨b, o, e, _⟩ := hh hls
      exact ⟨b, o, e⟩
    by_cases h : c = k
    · subst h
      obtain rfl : m = c := by omega
      obtain rfl : n = m := by omega
      exact ⟨some ⟨b, o, none⟩, 0, fun W => by go_simp, fun F W hr => by rw [Nat.sub_self, List.take_zero]; exact El.Rd.empty _ _ _ _⟩
    · exact ⟨some ⟨b, o + k * 16, none⟩, c - k, fun W => by go_simp, fun F W hr => by
        have hl := hr.len
        exact (hr.drop k (by omega) (c - k) (by omega)).take (m - k) (by rw [List.length_drop]; omega) (c - k) (by omega)⟩
theorem exec_mid {P : Program} {ρ : Operand → Value} {o : Oper} {t : TypeId} {x lo hi : Operand} {a b d v : Value} {W W' : World} (ho : o.op = .slice t x (some lo) (some hi) none) (hx : ρ x = a) (hlo : ρ lo = b) (hhi : ρ hi = d)
    (h : (Instr.sliceAt t a (some b) (some d) none).run P W = .ok v W') : (execOp ρ o).run P W = .ok (.value v) W' := by
  unfold execOp
  rw [ho]
  simp only [hx, hlo, hhi, Option.map_some, Option.map_none, Sem.run_bind, h, Result.andThen_ok]
  rfl

set_option maxHeartbeats 2000000 in
set_option maxRecDepth 100000 in
theorem runs_any (v : Value) (x : Ln) (F : Nat → Prop) (w : World) (ht : Tabs w) (h : cellEl.Rd F w v x.cells) (hn : x.cells.length ≤ 1000000) :
    Calls Tryz.prog 34 #[.agg #[v, .bool x.soft]] w fun e w' => ∃ u, e = .returned (.tuple #[u, .int .i64 (if lnOk x.cells then 0 else 2)]) ∧ rnEl.Own (fun b => w.heap.size ≤ b) w' u (if lnOk x.cells then runsL x.cells else []) ∧ Sees w w' := by
  obtain ⟨a, cp, rfl, hcp⟩ := h.slice'
  obtain ⟨n, hnn⟩ : ∃ n, n = x.cells.length := ⟨_, rfl⟩
  rw [← hnn] at h hn hcp ⊢
  have H := Lib.hid h
  have HN := Lib.hid hnn
  have S0 : Sees w (w.alloc (.cells #[.slice a n cp, .bool x.soft] 27)) := (Sees.refl w).alloc _
  have L0 : LnAt (w.alloc (.cells #[.slice a n cp, .bool x.soft] 27)) w.heap.size (.slice a n cp) x.soft := LnAt.new rfl
  obtain ⟨w1, hw1⟩ : ∃ w1, w1 = w.alloc (.cells #[.slice a n cp, .bool x.soft] 27) := ⟨_, rfl⟩
  rw [← hw1] at S0 L0
  have HW1 := Lib.hid hw1
  have HS0 := Lib.hid S0
  have HL0 := Lib.hid L0
  obtain ⟨ok, hok⟩ : ∃ ok, ok = lnOk x.cells := ⟨_, rfl⟩
  rw [← hok]
  have KV : Hid (∀ W, Sees w W → Calls Tryz.prog 11 #[.agg #[.slice a n cp, .bool x.soft]] W fun e w' => e = .returned (.bool ok) ∧ Sees W w') := fun W hs => by
    rw [hok]
    exact lineValid_any _ x.cells x.soft W (ht.sees hs) ((h.sees hs).rdc.rd) (by rw [← hnn]; exact hn)
  obtain ⟨U, hU⟩ : ∃ U, U = usedN x.cells := ⟨_, rfl⟩
  have hUn : U ≤ n := by rw [hU, hnn]; exact usedN_le _
  have hUcp : U ≤ cp := by omega
  have hR : runsL x.cells = runsF U 0 (x.cells.take U) := by rw [hU]; rfl
  rw [hR]
  have HPR : Hid (cellEl.Rd F w (.slice a U cp) (x.cells.take U)) := h.take U (by rw [← hnn]; exact hUn) cp (by omega)
  have KU : Hid (∀ W, Sees w W → Calls Tryz.prog 22 #[.agg #[.slice a n cp, .bool x.soft]] W fun e w' => e = .returned (.int .i64 U) ∧ Sees W w') := fun W hs => by
    rw [hU]
    exact used_any _ x F W (h.sees hs) (by rw [← hnn]; exact hn)
  obtain ⟨cs, hcs⟩ : ∃ cs, cs = x.cells.take U := ⟨_, rfl⟩
  rw [← hcs] at HPR ⊢
  have HCL : Hid (cs.length = U) := HPR.out.len.symm
  clear h hnn hw1 S0 L0 hU hR hok ht hcs
  go_enter Tryz.func34, Tryz.ntmps34
  go_upto_region 1 with fail
  rw [← HW1.out]
  obtain ⟨l0, l1⟩ := HL0.out.c
  go_wp2_with fail
  refine (KV.out _ (HS0.out)).mono ?_
  rintro e W2 ⟨rfl, s2⟩
  have HS2 := Lib.hid s2
  have HL2 := Lib.hid (HL0.out.sees s2)
  clear l0 l1 s2 KV
  cases ok with
  | false =>
    go_wp2
    go_ret2
    exact ⟨_, rfl, El.Own.nil _ _, HS0.out.trans HS2.out⟩
  | true =>
    go_upto_region 4 with fail
    obtain ⟨l0, l1⟩ := HL2.out.c
    have g0 := fun d os => (sees_grow W2 d os).cell l0
    have g1 := fun d os => (sees_grow W2 d os).cell l1
    clear l0 l1
    refine wp_region_quiet_below (by kernel_rfl) (by kernel_rfl) ?_
    repeat (first | go_big_quiet_skip | (go_big_quiet_want; go_big_quiet_op; go_big_quiet_on))
    (go_big_quiet_want; go_big_quiet_op; apply Exists.intro; refine ⟨fun p => Calls.regrown_of (KU.out _ ((HS0.out.trans HS2.out).trans (sees_grow W2 _ _))), ?_⟩; go_big_quiet_on)
    repeat (first | go_big_quiet_skip | (go_big_quiet_want; go_big_quiet_op; go_big_quiet_on))
    refine wpQuiet_nil ?_; intro w2 hw2'; have hw2 := regrown_sees hw2'; clear hw2'
    have HS3 := Lib.hid (HS2.out.trans hw2)
    clear hw2 g0 g1 KU HS2 HL2
    go_wp2
    go_loopw [4, 6] (fun u i W => ∃ (k : Nat) (f : Nat) (xs : List Rn), k ≤ U ∧ i = .int .i64 k ∧ rnEl.Own (fun b => w1.heap.size ≤ b) W u xs ∧ xs.length ≤ k ∧ Hid (xs ++ runsF f k (cs.drop k) = runsF U 0 cs) ∧ U ≤ k + f ∧ Sees w1 W) (fun _ i _ => U - (intOf i).toNat)
    case atStart => exact ⟨0, U, [], Nat.zero_le _, rfl, El.Own.nil _ _, Nat.le_refl _, (show Hid _ from by unfold RowKit.Hid; rw [List.drop_zero, List.nil_append]), by omega, HS3.out⟩
    case round =>
      obtain ⟨i, f, xs, hi, rfl, hO, hxl, hE, hf, hS⟩ := hrel
      by_cases hlt : i < U
      · obtain ⟨b, o, c, rfl, _, hc, hat0⟩ := HPR.out.cell hlt
        have hwi : IntKind.i64.wrap ((i : Int) + 1) = ((i + 1 : Nat) : Int) := by rw [IntWalk.i64_in _ (by omega)]; omega
        obtain ⟨au, q, cu, rfl⟩ : ∃ au q cu, u4 = .slice au q cu := by
          obtain ⟨au, cu, hu, _⟩ := hO.slice
          exact ⟨_, _, _, hu⟩
        have HO := Lib.hid hO
        have HS := Lib.hid hS
        clear hO hS
        go_wp2
        go_loopw [7] (fun v W => ∃ k : Nat, i < k ∧ k ≤ U ∧ v = .int .i64 k ∧ Hid (∀ j, i < j → j < k → ∃ d, cs[j]? = some d ∧ penOf d = penOf c) ∧ rnEl.Own (fun b => w1.heap.size ≤ b) W (.slice au q cu) xs ∧ Sees w1 W) (fun v _ => U - (intOf v).toNat)
        case atStart => exact ⟨i + 1, by omega, by omega, rfl, Lib.hid (fun j h1 h2 => absurd h1 (by omega)), HO.out, HS.out⟩
        case round =>
          obtain ⟨k, hik, hk, rfl, h1, hO2, hS2⟩ := hrel
          by_cases hlk : k < U
          · obtain ⟨b', o', d, e', _, hd, hatd⟩ := HPR.out.cell hlk
            cases e'
            have HD := Lib.hid (hatd.sees (HS0.out.trans hS2))
            have HC := Lib.hid (hat0.sees (HS0.out.trans hS2))
            have hpe := penEq_of d c
            cases hp : penEq d c with
            | true =>
              rw [hp] at hpe
              have hpp : penOf d = penOf c := by simpa using hpe.symm
              have HP := Lib.hid hp
              have HPP := Lib.hid hpp
              have HSr := Lib.hid hS2
              have HOr := Lib.hid hO2
              clear hp hpe hpp hS2 hO2
              go_wp2_with fail
              refine wp_region_quiet_below (by kernel_rfl) (by kernel_rfl) ?_
              repeat (first | go_big_quiet_skip | (go_big_quiet_want; go_big_quiet_op; go_big_quiet_on))
              go_big_quiet_want; refine quiet_run (d).pen (fun W hW => exec_load rfl rfl (run_loadPen (HD.out.sees (regrown_sees hW)))) ?_; simp only [Act.put, List.setIfInBounds_toArray, List.set_cons_zero, List.set_cons_succ]; go_big_quiet_on
              repeat (first | go_big_quiet_skip | (go_big_quiet_want; go_big_quiet_op; go_big_quiet_on))
              go_big_quiet_want; refine quiet_run (c).pen (fun W hW => exec_load rfl rfl (run_loadPen (HC.out.sees (regrown_sees hW)))) ?_; simp only [Act.put, List.setIfInBounds_toArray, List.set_cons_zero, List.set_cons_succ]; go_big_quiet_on
              go_big_quiet_want; refine quiet_run (.bool (penEq d c)) (fun W hW => exec_bin rfl rfl rfl (guard_eqlPen _ _ d c W) (run_eqlPen d c W)) ?_; simp only [Act.put, List.setIfInBounds_toArray, List.set_cons_zero, List.set_cons_succ]; go_big_quiet_on
              repeat (first | go_big_quiet_skip | (go_big_quiet_want; go_big_quiet_op; go_big_quiet_on))
              refine wpQuiet_nil ?_; intro w2 hw2'; have hw2 := regrown_sees hw2'; clear hw2'
              have S3 := Lib.hid (HSr.out.trans hw2)
              have O3 := Lib.hid (HOr.out.sees hw2)
              have h1' : Hid (∀ j, i < j → j < k + 1 → ∃ d, cs[j]? = some d ∧ penOf d = penOf c) := fun j j1 j2 => by
                by_cases hj : j = k
                · subst hj; exact ⟨d, hd, HPP.out⟩
                · exact h1.out j j1 (by omega)
              rw [HP.out]
              clear hw2 HP HPP HSr HOr HD HC
              go_wp2
              go_roundw
              case rel => exact ⟨k + 1, by omega, by omega, by go_num, h1', O3.out, S3.out⟩
              case measure => simp [intOf]; omega
            | false =>
              rw [hp] at hpe
              have hpp : penOf d ≠ penOf c := by simpa using hpe.symm
              have HP := Lib.hid hp
              have HSr := Lib.hid hS2
              have HOr := Lib.hid hO2
              have hend : ∀ d', cs[k]? = some d' → penOf d' ≠ penOf c := fun d' e => by rw [hd] at e; cases e; exact hpp
              clear hp hpe hpp hS2 hO2
              go_wp2_with fail
              refine wp_region_quiet_below (by kernel_rfl) (by kernel_rfl) ?_
              repeat (first | go_big_quiet_skip | (go_big_quiet_want; go_big_quiet_op; go_big_quiet_on))
              go_big_quiet_want; refine quiet_run (d).pen (fun W hW => exec_load rfl rfl (run_loadPen (HD.out.sees (regrown_sees hW)))) ?_; simp only [Act.put, List.setIfInBounds_toArray, List.set_cons_zero, List.set_cons_succ]; go_big_quiet_on
              repeat (first | go_big_quiet_skip | (go_big_quiet_want; go_big_quiet_op; go_big_quiet_on))
              go_big_quiet_want; refine quiet_run (c).pen (fun W hW => exec_load rfl rfl (run_loadPen (HC.out.sees (regrown_sees hW)))) ?_; simp only [Act.put, List.setIfInBounds_toArray, List.set_cons_zero, List.set_cons_succ]; go_big_quiet_on
              go_big_quiet_want; refine quiet_run (.bool (penEq d c)) (fun W hW => exec_bin rfl rfl rfl (guard_eqlPen _ _ d c W) (run_eqlPen d c W)) ?_; simp only [Act.put, List.setIfInBounds_toArray, List.set_cons_zero, List.set_cons_succ]; go_big_quiet_on
              repeat (first | go_big_quiet_skip | (go_big_quiet_want; go_big_quiet_op; go_big_quiet_on))
              refine wpQuiet_nil ?_; intro w2 hw2'; have hw2 := regrown_sees hw2'; clear hw2'
              have hS2 := HSr.out.trans hw2
              have hO2 := HOr.out.sees hw2
              rw [HP.out]
              clear hw2 HP HSr HOr HD HC
              obtain ⟨f1, rfl⟩ : ∃ f1, f = f1 + 1 := ⟨f - 1, by omega⟩
              have HST := Lib.hid (runs_step (f := f1) hc hik h1.out hend)
              obtain ⟨a2, c2, hsl, hrd⟩ := mid_cells HPR.out i k (by omega) hk
              obtain ⟨T, hT⟩ : ∃ T, T = txts ((cs.drop i).take (k - i)) := ⟨_, rfl⟩
              obtain ⟨m, hm⟩ : ∃ m, m = k - i := ⟨_, rfl⟩
              rw [← hT, ← hm] at HST
              rw [← hm] at hsl hrd hT
              have HSL := Lib.hid hsl
              have KT : Hid (∀ W, Sees w W → Calls Tryz.prog 55 #[.slice a2 m c2] W fun e w' => e = .returned (.string (strL T)) ∧ Sees W w') := fun W hs => by
                rw [hT]
                exact texts_any _ _ F W (hrd F W (HPR.out.sees hs)) (by have := HCL.out; rw [List.length_take, List.length_drop]; omega)
              have hwk : IntKind.i64.wrap ((k : Int) - (i : Int)) = (m : Int) := by rw [IntWalk.i64_in _ (by omega)]; omega
              have hikI : ¬ ((k : Int) < (i : Int)) := by omega
              have HSr := Lib.hid hS2
              have HOr := Lib.hid hO2
              have HHC := Lib.hid hat0
              clear hsl hrd hT hm hS2 hO2 hend
              go_upto_region 10 with fail
              have hbl : b < w.heap.size := block_lt_of_cell (hat0 0 _ rfl)
              have HBL := Lib.hid hbl
              refine wpH_go (fun b => (Value.slice au q cu).ownBlock = some b) 19 (by kernel_rfl) (by kernel_rfl) (by rfl) (fun hB v0 hs9 => ?_)
              have SV := Lib.hid (HSr.out.trans hs9)
              have HO0 := Lib.hid (HOr.out.sees hs9)
              have HA0 := Lib.hid (HHC.out.sees (HS0.out.trans SV.out))
              have NB : Hid (¬ (Value.slice au q cu).ownBlock = some b) := fun e => by have := (HO0.out.base e).1; have := HBL.out; have := HS0.out.size; omega
              have hS0 : Keeps (fun b => (Value.slice au q cu).ownBlock = some b) v0 v0 := Keeps.refl _ v0
              clear hs9 hbl
              refine wpH_take (i := 0) (v := .slice au q cu) hB (by rfl) (by kernel_rfl) (fun _ _ _ _ _ h => h) (by rfl) hS0 (fun W hI => by clear hI; go_simp) ?_; (try simp only [Act.put, List.setIfInBounds_toArray, List.set_cons_zero, List.set_cons_succ])
              refine wpH_take (i := 1) (v := .int .i64 (i : Int)) hB (by rfl) (by kernel_rfl) (fun _ _ _ _ _ h => h) (by rfl) hS0 (fun W hI => by clear hI; go_simp) ?_; (try simp only [Act.put, List.setIfInBounds_toArray, List.set_cons_zero, List.set_cons_succ])
              refine wpH_take (i := 2) (v := .int .i64 (k : Int)) hB (by rfl) (by kernel_rfl) (fun _ _ _ _ _ h => h) (by rfl) hS0 (fun W hI => by clear hI; go_simp) ?_; (try simp only [Act.put, List.setIfInBounds_toArray, List.set_cons_zero, List.set_cons_succ])
              refine wpH_take (i := 3) (v := .int .i64 (i : Int)) hB (by rfl) (by kernel_rfl) (fun _ _ _ _ _ h => h) (by rfl) hS0 (fun W hI => by clear hI; go_simp) ?_; (try simp only [Act.put, List.setIfInBounds_toArray, List.set_cons_zero, List.set_cons_succ])
              refine wpH_take (i := 4) (v := .int .i64 (m : Int)) hB (by rfl) (by kernel_rfl) (fun _ _ _ _ _ h => h) (by rfl) hS0 (fun W hI => by clear hI; go_simp) ?_; (try simp only [Act.put, List.setIfInBounds_toArray, List.set_cons_zero, List.set_cons_succ])
              refine wpH_take (i := 5) (v := .slice (some ⟨b, o, none⟩) U cp) hB (by rfl) (by kernel_rfl) (fun _ _ _ _ _ h => h) (by rfl) hS0 (fun W hI => by clear hI; go_simp) ?_; (try simp only [Act.put, List.setIfInBounds_toArray, List.set_cons_zero, List.set_cons_succ])
              refine wpH_take (i := 6) (v := .int .i64 (i : Int)) hB (by rfl) (by kernel_rfl) (fun _ _ _ _ _ h => h) (by rfl) hS0 (fun W hI => by clear hI; go_simp) ?_; (try simp only [Act.put, List.setIfInBounds_toArray, List.set_cons_zero, List.set_cons_succ])
              refine wpH_take (i := 7) (v := .int .i64 (k : Int)) hB (by rfl) (by kernel_rfl) (fun _ _ _ _ _ h => h) (by rfl) hS0 (fun W hI => by clear hI; go_simp) ?_; (try simp only [Act.put, List.setIfInBounds_toArray, List.set_cons_zero, List.set_cons_succ])
              refine wpH_take (i := 8) (v := .slice a2 m c2) hB (by rfl) (by kernel_rfl) (fun _ _ _ _ _ h => h) (by rfl) hS0 (fun W hI => exec_mid rfl rfl rfl rfl (HSL.out W)) ?_
              (try simp only [Act.put, List.setIfInBounds_toArray, List.set_cons_zero, List.set_cons_succ])
              refine wpH_take (i := 10) (v := .slice (some ⟨b, o, none⟩) U cp) hB (by rfl) (by kernel_rfl) (fun _ _ _ _ _ h => h) (by rfl) hS0 (fun W hI => by clear hI; go_simp) ?_; (try simp only [Act.put, List.setIfInBounds_toArray, List.set_cons_zero, List.set_cons_succ])
              refine wpH_take (i := 11) (v := .int .i64 (i : Int)) hB (by rfl) (by kernel_rfl) (fun _ _ _ _ _ h => h) (by rfl) hS0 (fun W hI => by clear hI; go_simp) ?_; (try simp only [Act.put, List.setIfInBounds_toArray, List.set_cons_zero, List.set_cons_succ])
              refine wpH_take (i := 12) (v := .pointer (some ⟨b, o + i * 16, none⟩)) hB (by rfl) (by kernel_rfl) (fun _ _ _ _ _ h => h) (by rfl) hS0 (fun W hI => by clear hI; go_simp) ?_; (try simp only [Act.put, List.setIfInBounds_toArray, List.set_cons_zero, List.set_cons_succ])
              refine wpH_take (i := 13) (v := .pointer (some ⟨b, o + i * 16 + 5, none⟩)) hB (by rfl) (by kernel_rfl) (fun _ _ _ _ _ h => h) (by rfl) hS0 (fun W hI => by clear hI; go_simp) ?_; (try simp only [Act.put, List.setIfInBounds_toArray, List.set_cons_zero, List.set_cons_succ])
              refine wpH_take (i := 14) (v := c.pen) hB (by rfl) (by kernel_rfl) (fun _ _ _ _ _ h => h) (by rfl) hS0 (fun W hI => exec_load rfl rfl (run_loadPen (HA0.out.keeps hI NB.out))) ?_
              (try simp only [Act.put, List.setIfInBounds_toArray, List.set_cons_zero, List.set_cons_succ])
              refine wpH_one (i := 9) (by kernel_rfl) (wpOp_enter (fn := 55) (args := #[.slice a2 m c2]) (by rfl) (by rfl) (by go_simp) ((KT.out _ (HS0.out.trans SV.out)).mono ?_))
              rintro ee W5 ⟨rfl, s5⟩
              have hS1 := hS0.trans (Keeps.of_sees s5)
              refine ⟨_, rfl, hS1, ?_⟩
              (try simp only [Act.put, List.setIfInBounds_toArray, List.set_cons_zero, List.set_cons_succ])
              clear hS0
              refine wpH_take (i := 15) (v := Rn.val ⟨i, m, T, c⟩) hB (by rfl) (by kernel_rfl) (fun _ _ _ _ _ h => h) (by rfl) hS1 (fun W hI => exec_build4 (a := .int .i64 (i : Int)) (b := .int .i64 (m : Int)) (c := .string (strL T)) (d := c.pen) rfl (by clear hI; go_simp) (by clear hI; go_simp) (by clear hI; go_simp) (by clear hI; go_simp) (run_buildRn i m T c W)) ?_
              (try simp only [Act.put, List.setIfInBounds_toArray, List.set_cons_zero, List.set_cons_succ])
              have sA : Sees W5 (W5.alloc (.cells (Rn.vals ⟨i, m, T, c⟩).toArray 58)) := (Sees.refl W5).alloc _
              have HRW := Lib.hid (heap_alloc_new W5 (.cells (Rn.vals ⟨i, m, T, c⟩).toArray 58))
              have HO6 := Lib.hid ((HO0.out.sees s5).cut.sees sA)
              have HFX := Lib.hid (show ∀ b, (w1.heap.size ≤ b ∧ b < W5.heap.size) → b < (W5.alloc (.cells (Rn.vals ⟨i, m, T, c⟩).toArray 58)).heap.size from fun b hb => by rw [World.size_alloc]; omega)
              have HXL := Lib.hid (show xs.length + [(⟨i, m, T, c⟩ : Rn)].length ≤ 100000000 by rw [List.length_singleton]; omega)
              have HS6 := Lib.hid ((SV.out.trans s5).trans sA)
              have hS2 := hS1.trans (Keeps.of_sees sA)
              refine wpH_one (i := 16) (by kernel_rfl) (wpOp_val (v := .slice (some ⟨W5.heap.size, 0, none⟩) 1 1) (w' := W5.alloc (.cells (Rn.vals ⟨i, m, T, c⟩).toArray 58)) (by rfl) (wanted_none (by rfl) _) (exec_buildS (a := Rn.val ⟨i, m, T, c⟩) rfl (by go_simp) (run_buildSRn ⟨i, m, T, c⟩ W5)) ⟨hS2, ?_⟩)
              (try simp only [Act.put, List.setIfInBounds_toArray, List.set_cons_zero, List.set_cons_succ])
              obtain ⟨v7, w7, ha7, ho7, hk7⟩ := El.run_append_own typedRn 55 HO6.out ⟨W5.heap.size, 0, none⟩ 1 1 (Rn.vals ⟨i, m, T, c⟩) [⟨i, m, T, c⟩] (fun _ => False) (El.ownIn_one (E := rnEl) rfl) rfl (fun j u hu => El.row_cells HRW.out j u hu) HFX.out (fun b hb => hb.elim) HXL.out
              have hS3 := hS2.trans hk7
              refine wpH_one (i := 17) (by kernel_rfl) (wpOp_val (v := v7) (w' := w7) (by rfl) (wanted_none (by rfl) _) (exec_append (v := .slice au q cu) (u := .slice (some ⟨W5.heap.size, 0, none⟩) 1 1) rfl (by go_simp) (by go_simp) ha7) ⟨hS3, ?_⟩)
              (try simp only [Act.put, List.setIfInBounds_toArray, List.set_cons_zero, List.set_cons_succ])
              have HO7 := Lib.hid ho7
              have HK7 := Lib.hid hk7
              clear ho7 hk7 ha7 s5 sA hS1 hS2
              have hS0 := hS3
              refine wpH_take (i := 18) (v := v7) hB (by rfl) (by kernel_rfl) (fun _ _ _ _ _ h => h) (by rfl) hS0 (fun W hI => by clear hI; go_simp) ?_; (try simp only [Act.put, List.setIfInBounds_toArray, List.set_cons_zero, List.set_cons_succ])
              refine wpH_end (by kernel_rfl) ?_
              clear hS0 hS3 hB
              have hS7 : Sees w1 w7 := El.keep_new HS6.out HK7.out (fun g hg => ((HO6.out.base hg).1).1)
              have hO8 : rnEl.Own (fun b => w1.heap.size ≤ b) w7 v7 (xs ++ [⟨i, m, T, c⟩]) := HO7.out.mono fun b _ hb => by
                rcases hb with hb | hb | hb
                · exact hb.1
                · exact hb.elim
                · have := HS6.out.size; omega
              have hE8 : (xs ++ [⟨i, m, T, c⟩]) ++ runsF f1 k (cs.drop k) = runsF U 0 cs := by rw [← hE.out, HST.out, List.append_assoc]; rfl
              have HE8 := Lib.hid hE8
              have HO8 := Lib.hid hO8
              have HS8 := Lib.hid hS7
              have hl8 : (xs ++ [(⟨i, m, T, c⟩ : Rn)]).length ≤ k := by rw [List.length_append, List.length_singleton]; omega
              clear hS7 hO8 hE8 HST HSL KT HRW HO6 HFX HXL HS6 HO7 HK7 HA0 NB HO0 SV
              go_wp2
              go_roundw
              case rel => exact ⟨k, f1, _, hk, by go_num, HO8.out, hl8, HE8, by omega, HS8.out⟩
              case measure => simp [intOf]; omega
          · have hend : ∀ d', cs[k]? = some d' → penOf d' ≠ penOf c := fun d' e => by have := (List.getElem?_eq_some_iff.1 e).1; have := HCL.out; omega
            have HSr := Lib.hid hS2
            have HOr := Lib.hid hO2
            clear hS2 hO2
            go_wp2_with fail
            refine wp_region_quiet_below (by kernel_rfl) (by kernel_rfl) ?_
            repeat (first | go_big_quiet_skip | (go_big_quiet_want; go_big_quiet_op; go_big_quiet_on))
            refine wpQuiet_nil ?_; intro w2 hw2'; have hw2 := regrown_sees hw2'; clear hw2'
            have hS2 := HSr.out.trans hw2
            have hO2 := HOr.out.sees hw2
            clear hw2 HSr HOr
            obtain ⟨f1, rfl⟩ : ∃ f1, f = f1 + 1 := ⟨f - 1, by omega⟩
            have HST := Lib.hid (runs_step (f := f1) hc hik h1.out hend)
            obtain ⟨a2, c2, hsl, hrd⟩ := mid_cells HPR.out i k (by omega) hk
            obtain ⟨T, hT⟩ : ∃ T, T = txts ((cs.drop i).take (k - i)) := ⟨_, rfl⟩
            obtain ⟨m, hm⟩ : ∃ m, m = k - i := ⟨_, rfl⟩
            rw [← hT, ← hm] at HST
            rw [← hm] at hsl hrd hT
            have HSL := Lib.hid hsl
            have KT : Hid (∀ W, Sees w W → Calls Tryz.prog 55 #[.slice a2 m c2] W fun e w' => e = .returned (.string (strL T)) ∧ Sees W w') := fun W hs => by
              rw [hT]
              exact texts_any _ _ F W (hrd F W (HPR.out.sees hs)) (by have := HCL.out; rw [List.length_take, List.length_drop]; omega)
            have hwk : IntKind.i64.wrap ((k : Int) - (i : Int)) = (m : Int) := by rw [IntWalk.i64_in _ (by omega)]; omega
            have hikI : ¬ ((k : Int) < (i : Int)) := by omega
            have HSr := Lib.hid hS2
            have HOr := Lib.hid hO2
            have HHC := Lib.hid hat0
            clear hsl hrd hT hm hS2 hO2 hend
            go_upto_region 10 with fail
            have hbl : b < w.heap.size := block_lt_of_cell (hat0 0 _ rfl)
            have HBL := Lib.hid hbl
            refine wpH_go (fun b => (Value.slice au q cu).ownBlock = some b) 19 (by kernel_rfl) (by kernel_rfl) (by rfl) (fun hB v0 hs9 => ?_)
            have SV := Lib.hid (HSr.out.trans hs9)
            have HO0 := Lib.hid (HOr.out.sees hs9)
            have HA0 := Lib.hid (HHC.out.sees (HS0.out.trans SV.out))
            have NB : Hid (¬ (Value.slice au q cu).ownBlock = some b) := fun e => by have := (HO0.out.base e).1; have := HBL.out; have := HS0.out.size; omega
            have hS0 : Keeps (fun b => (Value.slice au q cu).ownBlock = some b) v0 v0 := Keeps.refl _ v0
            clear hs9 hbl
            refine wpH_take (i := 0) (v := .slice au q cu) hB (by rfl) (by kernel_rfl) (fun _ _ _ _ _ h => h) (by rfl) hS0 (fun W hI => by clear hI; go_simp) ?_; (try simp only [Act.put, List.setIfInBounds_toArray, List.set_cons_zero, List.set_cons_succ])
            refine wpH_take (i := 1) (v := .int .i64 (i : Int)) hB (by rfl) (by kernel_rfl) (fun _ _ _ _ _ h => h) (by rfl) hS0 (fun W hI => by clear hI; go_simp) ?_; (try simp only [Act.put, List.setIfInBounds_toArray, List.set_cons_zero, List.set_cons_succ])
            refine wpH_take (i := 2) (v := .int .i64 (k : Int)) hB (by rfl) (by kernel_rfl) (fun _ _ _ _ _ h => h) (by rfl) hS0 (fun W hI => by clear hI; go_simp) ?_; (try simp only [Act.put, List.setIfInBounds_toArray, List.set_cons_zero, List.set_cons_succ])
            refine wpH_take (i := 3) (v := .int .i64 (i : Int)) hB (by rfl) (by kernel_rfl) (fun _ _ _ _ _ h => h) (by rfl) hS0 (fun W hI => by clear hI; go_simp) ?_; (try simp only [Act.put, List.setIfInBounds_toArray, List.set_cons_zero, List.set_cons_succ])
            refine wpH_take (i := 4) (v := .int .i64 (m : Int)) hB (by rfl) (by kernel_rfl) (fun _ _ _ _ _ h => h) (by rfl) hS0 (fun W hI => by clear hI; go_simp) ?_; (try simp only [Act.put, List.setIfInBounds_toArray, List.set_cons_zero, List.set_cons_succ])
            refine wpH_take (i := 5) (v := .slice (some ⟨b, o, none⟩) U cp) hB (by rfl) (by kernel_rfl) (fun _ _ _ _ _ h => h) (by rfl) hS0 (fun W hI => by clear hI; go_simp) ?_; (try simp only [Act.put, List.setIfInBounds_toArray, List.set_cons_zero, List.set_cons_succ])
            refine wpH_take (i := 6) (v := .int .i64 (i : Int)) hB (by rfl) (by kernel_rfl) (fun _ _ _ _ _ h => h) (by rfl) hS0 (fun W hI => by clear hI; go_simp) ?_; (try simp only [Act.put, List.setIfInBounds_toArray, List.set_cons_zero, List.set_cons_succ])
            refine wpH_take (i := 7) (v := .int .i64 (k : Int)) hB (by rfl) (by kernel_rfl) (fun _ _ _ _ _ h => h) (by rfl) hS0 (fun W hI => by clear hI; go_simp) ?_; (try simp only [Act.put, List.setIfInBounds_toArray, List.set_cons_zero, List.set_cons_succ])
            refine wpH_take (i := 8) (v := .slice a2 m c2) hB (by rfl) (by kernel_rfl) (fun _ _ _ _ _ h => h) (by rfl) hS0 (fun W hI => exec_mid rfl rfl rfl rfl (HSL.out W)) ?_
            (try simp only [Act.put, List.setIfInBounds_toArray, List.set_cons_zero, List.set_cons_succ])
            refine wpH_take (i := 10) (v := .slice (some ⟨b, o, none⟩) U cp) hB (by rfl) (by kernel_rfl) (fun _ _ _ _ _ h => h) (by rfl) hS0 (fun W hI => by clear hI; go_simp) ?_; (try simp only [Act.put, List.setIfInBounds_toArray, List.set_cons_zero, List.set_cons_succ])
            refine wpH_take (i := 11) (v := .int .i64 (i : Int)) hB (by rfl) (by kernel_rfl) (fun _ _ _ _ _ h => h) (by rfl) hS0 (fun W hI => by clear hI; go_simp) ?_; (try simp only [Act.put, List.setIfInBounds_toArray, List.set_cons_zero, List.set_cons_succ])
            refine wpH_take (i := 12) (v := .pointer (some ⟨b, o + i * 16, none⟩)) hB (by rfl) (by kernel_rfl) (fun _ _ _ _ _ h => h) (by rfl) hS0 (fun W hI => by clear hI; go_simp) ?_; (try simp only [Act.put, List.setIfInBounds_toArray, List.set_cons_zero, List.set_cons_succ])
            refine wpH_take (i := 13) (v := .pointer (some ⟨b, o + i * 16 + 5, none⟩)) hB (by rfl) (by kernel_rfl) (fun _ _ _ _ _ h => h) (by rfl) hS0 (fun W hI => by clear hI; go_simp) ?_; (try simp only [Act.put, List.setIfInBounds_toArray, List.set_cons_zero, List.set_cons_succ])
            refine wpH_take (i := 14) (v := c.pen) hB (by rfl) (by kernel_rfl) (fun _ _ _ _ _ h => h) (by rfl) hS0 (fun W hI => exec_load rfl rfl (run_loadPen (HA0.out.keeps hI NB.out))) ?_
            (try simp only [Act.put, List.setIfInBounds_toArray, List.set_cons_zero, List.set_cons_succ])
            refine wpH_one (i := 9) (by kernel_rfl) (wpOp_enter (fn := 55) (args := #[.slice a2 m c2]) (by rfl) (by rfl) (by go_simp) ((KT.out _ (HS0.out.trans SV.out)).mono ?_))
            rintro ee W5 ⟨rfl, s5⟩
            have hS1 := hS0.trans (Keeps.of_sees s5)
            refine ⟨_, rfl, hS1, ?_⟩
            (try simp only [Act.put, List.setIfInBounds_toArray, List.set_cons_zero, List.set_cons_succ])
            clear hS0
            refine wpH_take (i := 15) (v := Rn.val ⟨i, m, T, c⟩) hB (by rfl) (by kernel_rfl) (fun _ _ _ _ _ h => h) (by rfl) hS1 (fun W hI => exec_build4 (a := .int .i64 (i : Int)) (b := .int .i64 (m : Int)) (c := .string (strL T)) (d := c.pen) rfl (by clear hI; go_simp) (by clear hI; go_simp) (by clear hI; go_simp) (by clear hI; go_simp) (run_buildRn i m T c W)) ?_
            (try simp only [Act.put, List.setIfInBounds_toArray, List.set_cons_zero, List.set_cons_succ])
            have sA : Sees W5 (W5.alloc (.cells (Rn.vals ⟨i, m, T, c⟩).toArray 58)) := (Sees.refl W5).alloc _
            have HRW := Lib.hid (heap_alloc_new W5 (.cells (Rn.vals ⟨i, m, T, c⟩).toArray 58))
            have HO6 := Lib.hid ((HO0.out.sees s5).cut.sees sA)
            have HFX := Lib.hid (show ∀ b, (w1.heap.size ≤ b ∧ b < W5.heap.size) → b < (W5.alloc (.cells (Rn.vals ⟨i, m, T, c⟩).toArray 58)).heap.size from fun b hb => by rw [World.size_alloc]; omega)
            have HXL := Lib.hid (show xs.length + [(⟨i, m, T, c⟩ : Rn)].length ≤ 100000000 by rw [List.length_singleton]; omega)
            have HS6 := Lib.hid ((SV.out.trans s5).trans sA)
            have hS2 := hS1.trans (Keeps.of_sees sA)
            refine wpH_one (i := 16) (by kernel_rfl) (wpOp_val (v := .slice (some ⟨W5.heap.size, 0, none⟩) 1 1) (w' := W5.alloc (.cells (Rn.vals ⟨i, m, T, c⟩).toArray 58)) (by rfl) (wanted_none (by rfl) _) (exec_buildS (a := Rn.val ⟨i, m, T, c⟩) rfl (by go_simp) (run_buildSRn ⟨i, m, T, c⟩ W5)) ⟨hS2, ?_⟩)
            (try simp only [Act.put, List.setIfInBounds_toArray, List.set_cons_zero, List.set_cons_succ])
            obtain ⟨v7, w7, ha7, ho7, hk7⟩ := El.run_append_own typedRn 55 HO6.out ⟨W5.heap.size, 0, none⟩ 1 1 (Rn.vals ⟨i, m, T, c⟩) [⟨i, m, T, c⟩] (fun _ => False) (El.ownIn_one (E := rnEl) rfl) rfl (fun j u hu => El.row_cells HRW.out j u hu) HFX.out (fun b hb => hb.elim) HXL.out
            have hS3 := hS2.trans hk7
            refine wpH_one (i := 17) (by kernel_rfl) (wpOp_val (v := v7) (w' := w7) (by rfl) (wanted_none (by rfl) _) (exec_append (v := .slice au q cu) (u := .slice (some ⟨W5.heap.size, 0, none⟩) 1 1) rfl (by go_simp) (by go_simp) ha7) ⟨hS3, ?_⟩)
            (try simp only [Act.put, List.setIfInBounds_toArray, List.set_cons_zero, List.set_cons_succ])
            have HO7 := Lib.hid ho7
            have HK7 := Lib.hid hk7
            clear ho7 hk7 ha7 s5 sA hS1 hS2
            have hS0 := hS3
            refine wpH_take (i := 18) (v := v7) hB (by rfl) (by kernel_rfl) (fun _ _ _ _ _ h => h) (by rfl) hS0 (fun W hI => by clear hI; go_simp) ?_; (try simp only [Act.put, List.setIfInBounds_toArray, List.set_cons_zero, List.set_cons_succ])
            refine wpH_end (by kernel_rfl) ?_
            clear hS0 hS3 hB
            have hS7 : Sees w1 w7 := El.keep_new HS6.out HK7.out (fun g hg => ((HO6.out.base hg).1).1)
            have hO8 : rnEl.Own (fun b => w1.heap.size ≤ b) w7 v7 (xs ++ [⟨i, m, T, c⟩]) := HO7.out.mono fun b _ hb => by
              rcases hb with hb | hb | hb
              · exact hb.1
              · exact hb.elim
              · have := HS6.out.size; omega
            have hE8 : (xs ++ [⟨i, m, T, c⟩]) ++ runsF f1 k (cs.drop k) = runsF U 0 cs := by rw [← hE.out, HST.out, List.append_assoc]; rfl
            have HE8 := Lib.hid hE8
            have HO8 := Lib.hid hO8
            have HS8 := Lib.hid hS7
            have hl8 : (xs ++ [(⟨i, m, T, c⟩ : Rn)]).length ≤ k := by rw [List.length_append, List.length_singleton]; omega
            clear hS7 hO8 hE8 HST HSL KT HRW HO6 HFX HXL HS6 HO7 HK7 HA0 NB HO0 SV
            go_wp2
            go_roundw
            case rel => exact ⟨k, f1, _, hk, by go_num, HO8.out, hl8, HE8, by omega, HS8.out⟩
            case measure => simp [intOf]; omega
      · obtain rfl : i = U := by omega
        have hx : xs = runsF i 0 cs := by
          rw [← hE.out, List.drop_of_length_le (by have := HCL.out; omega)]
          cases f <;> simp [runsF]
        have HX := Lib.hid hx
        have HO := Lib.hid hO
        have HS := Lib.hid hS
        clear hx hO hS hE
        go_wp2
        go_ret2
        exact ⟨_, rfl, by rw [← HX.out]; exact HO.out.mono fun b _ hb => by have := HS0.out.size; omega, HS0.out.trans HS.out⟩
end Go.Proofs.YthcndmchlpohpaaGreatDoor

namespace Go.Proofs.YthcndmchlpohpaaGreatDoor
set_option linter.unusedVariables false
set_option linter.unusedSimpArgs false
open Go.RowKit Go.Shelf

/-- The bytes of a cell are bytes. -/
structure Cell.Bd (c : Cell) : Prop where
  f1 : 0 ≤ c.f1 ∧ c.f1 < 256
  f2 : 0 ≤ c.f2 ∧ c.f2 < 256
  f3 : 0 ≤ c.f3 ∧ c.f3 < 256
  f4 : 0 ≤ c.f4 ∧ c.f4 < 256
  b1 : 0 ≤ c.b1 ∧ c.b1 < 256
  b2 : 0 ≤ c.b2 ∧ c.b2 < 256
  b3 : 0 ≤ c.b3 ∧ c.b3 < 256
  b4 : 0 ≤ c.b4 ∧ c.b4 < 256
  fl : 0 ≤ c.flags ∧ c.flags < 256
def Cell.pOk (c : Cell) : Bool := vPen c.f0 c.f1 c.f2 c.f3 c.f4 c.b0 c.b1 c.b2 c.b3 c.b4
theorem tags_cell (c : Cell) (hb : c.Bd) (w : World) (hw : Sd w) :
    Calls Tryz.prog 16 #[c.pen] w fun e w' => e = .returned (.string (strL (if c.pOk then tagsL c else []))) ∧ Sees w w' := by
  obtain ⟨rune, m0, m1, m2, wd, k0, i0, r0, g0, b0, k1, i1, r1, g1, b1, fl⟩ := c
  obtain ⟨q1, q2, q3, q4, q5, q6, q7, q8, q9⟩ := hb
  simp only at q1 q2 q3 q4 q5 q6 q7 q8 q9
  obtain ⟨i0, rfl⟩ : ∃ n : Nat, i0 = n := ⟨i0.toNat, by omega⟩
  obtain ⟨r0, rfl⟩ : ∃ n : Nat, r0 = n := ⟨r0.toNat, by omega⟩
  obtain ⟨g0, rfl⟩ : ∃ n : Nat, g0 = n := ⟨g0.toNat, by omega⟩
  obtain ⟨b0, rfl⟩ : ∃ n : Nat, b0 = n := ⟨b0.toNat, by omega⟩
  obtain ⟨i1, rfl⟩ : ∃ n : Nat, i1 = n := ⟨i1.toNat, by omega⟩
  obtain ⟨r1, rfl⟩ : ∃ n : Nat, r1 = n := ⟨r1.toNat, by omega⟩
  obtain ⟨g1, rfl⟩ : ∃ n : Nat, g1 = n := ⟨g1.toNat, by omega⟩
  obtain ⟨b1, rfl⟩ : ∃ n : Nat, b1 = n := ⟨b1.toNat, by omega⟩
  obtain ⟨fl, rfl⟩ : ∃ n : Nat, fl = n := ⟨fl.toNat, by omega⟩
  unfold Cell.pOk
  simp only
  cases hv : vPen k0 i0 r0 g0 b0 k1 i1 r1 g1 b1 with
  | true => exact tags_ok k0 i0 r0 g0 b0 k1 i1 r1 g1 b1 fl (by omega) (by omega) (by omega) (by omega) (by omega) (by omega) (by omega) (by omega) (by omega) hv w (fun n hn W hs => itoa_any n hn W (hw.sees hs))
  | false => exact tags_bad k0 i0 r0 g0 b0 k1 i1 r1 g1 b1 fl hv w
theorem valid_pOk {c : Cell} (h : c.valid = true) : c.pOk = true := by
  unfold Cell.valid at h
  rw [Bool.and_eq_true] at h
  exact h.1
theorem ok_valid {cs : List Cell} (h : lnOk cs = true) {c : Cell} (hc : c ∈ cs) : c.valid = true := by
  unfold lnOk at h
  rw [Bool.and_eq_true] at h
  obtain ⟨k, hk⟩ := List.mem_iff_getElem?.1 hc
  have hkl := (List.getElem?_eq_some_iff.1 hk).1
  have h2 := h.2
  unfold rowOk at h2
  have := List.all_eq_true.1 h2 k (List.mem_range.2 hkl)
  unfold rowBad at this
  rw [hk] at this
  simp only [cellBad] at this
  cases hv : c.valid
  · rw [hv] at this; simp at this
  · rfl
/-- A run's markup. -/
def runTxt (cs : List Cell) (r : Rn) : List UInt8 := (91 :: (tagsL r.c ++ [93])) ++ ((cs.drop r.col).take r.wid).flatMap mkC
theorem mkFrom_run (p : List Int) : ∀ cs : List Cell, mkFrom (some p) cs = (cs.take (runLen p cs)).flatMap mkC ++ mkFrom none (cs.drop (runLen p cs))
  | [] => rfl
  | c :: cs => by
    by_cases h : penOf c = p
    · rw [mkFrom, if_pos (by rw [h]), runLen, if_pos h, List.take_succ_cons, List.drop_succ_cons, List.flatMap_cons, h, mkFrom_run p cs]
      simp
    · rw [runLen, if_neg h, List.take_zero, List.drop_zero, mkFrom, mkFrom, if_neg (by simpa using fun e => h e.symm), if_neg (by simp)]
      rfl
theorem runsF_text (U : List Cell) : ∀ (f i : Nat), U.length - i ≤ f → (runsF f i (U.drop i)).flatMap (runTxt U) = mkFrom none (U.drop i)
  | 0, i, h => by
    rw [List.drop_of_length_le (by omega)]
    rfl
  | f + 1, i, h => by
    by_cases hi : i < U.length
    · obtain ⟨c, hc⟩ : ∃ c, U[i]? = some c := ⟨_, List.getElem?_eq_getElem hi⟩
      obtain ⟨hl, e⟩ := List.getElem?_eq_some_iff.1 hc
      have hd : U.drop i = c :: U.drop (i + 1) := by rw [List.drop_eq_getElem_cons hl, e]
      obtain ⟨m, hm⟩ : ∃ m, m = runLen (penOf c) (U.drop (i + 1)) := ⟨_, rfl⟩
      have hdd : (U.drop (i + 1)).drop m = U.drop (i + (m + 1)) := by rw [List.drop_drop]; congr 1; omega
      rw [hd, runsF, ← hm, hdd, List.flatMap_cons, runsF_text U f (i + (m + 1)) (by omega), mkFrom, if_neg (by simp), mkFrom_run, ← hm, hdd]
      unfold runTxt
      rw [hd, List.take_succ_cons, List.flatMap_cons]
      simp
    · rw [List.drop_of_length_le (by omega)]
      rfl
theorem runsL_text (cs : List Cell) : (runsL cs).flatMap (runTxt (cs.take (usedN cs))) = mkFrom none (cs.take (usedN cs)) := by
  have h := runsF_text (cs.take (usedN cs)) (usedN cs) 0 (by rw [List.length_take]; omega)
  rw [List.drop_zero] at h
  exact h
/-- Where a run lies. -/
theorem runsF_in (U : List Cell) : ∀ (f i : Nat), ∀ r ∈ runsF f i (U.drop i), i ≤ r.col ∧ 1 ≤ r.wid ∧ r.col + r.wid ≤ U.length ∧ r.c ∈ U ∧ r.txt = txts ((U.drop r.col).take r.wid)
  | 0, i, r, h => by cases h
  | f + 1, i, r, h => by
    by_cases hi : i < U.length
    · obtain ⟨c, hc⟩ : ∃ c, U[i]? = some c := ⟨_, List.getElem?_eq_getElem hi⟩
      obtain ⟨hl, e⟩ := List.getElem?_eq_some_iff.1 hc
      have hd : U.drop i = c :: U.drop (i + 1) := by rw [List.drop_eq_getElem_cons hl, e]
      obtain ⟨m, hm⟩ : ∃ m, m = runLen (penOf c) (U.drop (i + 1)) := ⟨_, rfl⟩
      have hml : m ≤ U.length - (i + 1) := by rw [hm]; have := runLen_le (penOf c) (U.drop (i + 1)); rw [List.length_drop] at this; exact this
      have hdd : (U.drop (i + 1)).drop m = U.drop (i + (m + 1)) := by rw [List.drop_drop]; congr 1; omega
      rw [hd, runsF, ← hm, hdd] at h
      rcases List.mem_cons.1 h with rfl | h
      · exact ⟨Nat.le_refl _, by show 1 ≤ m + 1; omega, by show i + (m + 1) ≤ _; omega, List.mem_iff_getElem?.2 ⟨i, hc⟩, by show _ = txts ((U.drop i).take (m + 1)); rw [hd]⟩
      · obtain ⟨h1, h2⟩ := runsF_in U f (i + (m + 1)) r h
        exact ⟨by omega, h2⟩
    · rw [List.drop_of_length_le (by omega)] at h
      cases h
theorem flagL_len (n : Nat) : (flagL n).length ≤ 8 := by rw [← flagTo_all]; exact flagTo_len n 8
theorem tagsL_len (c : Cell) : (tagsL c).length ≤ 24 := by
  unfold tagsL
  have := flagL_len c.flags.toNat
  have := tagC_len 43 c.f0 c.f1 c.f2 c.f3 c.f4
  have := tagC_len 45 c.b0 c.b1 c.b2 c.b3 c.b4
  simp only [List.length_append]
  omega
theorem mkC_len (c : Cell) : (mkC c).length ≤ 17 := by
  unfold mkC
  have := c.txt_len
  split
  · simp
  · split
    · simp only [List.length_cons]; omega
    · omega
theorem mkFrom_len : ∀ (p : Option (List Int)) (cs : List Cell), (mkFrom p cs).length ≤ cs.length * 43
  | _, [] => by simp [mkFrom]
  | p, c :: cs => by
    rw [mkFrom]
    have := mkFrom_len (some (penOf c)) cs
    have := mkC_len c
    have := tagsL_len c
    simp only [List.length_append, List.length_cons]
    split
    · simp only [List.length_nil]; omega
    · simp only [List.length_append, List.length_cons, List.length_nil]; omega
theorem flat_take_len {α β : Type} (f : α → List β) (l : List α) (k : Nat) : ((l.take k).flatMap f).length ≤ (l.flatMap f).length := by
  have h : l.flatMap f = (l.take k).flatMap f ++ (l.drop k).flatMap f := by rw [← List.flatMap_append, List.take_append_drop]
  rw [h, List.length_append]
  omega
theorem flat_step {α β : Type} (f : α → List β) {l : List α} {k : Nat} {x : α} (h : l[k]? = some x) : (l.take (k + 1)).flatMap f = (l.take k).flatMap f ++ f x := by
  rw [List.take_add_one, h]
  simp
theorem part_of {cs : List Cell} {n c m : Nat} (h : c + m ≤ n) : ((cs.take n).drop c).take m = (cs.drop c).take m := by
  rw [List.drop_take, List.take_take, Nat.min_eq_left (by omega)]
end Go.Proofs.YthcndmchlpohpaaGreatDoor

namespace Go.Proofs.YthcndmchlpohpaaGreatDoor
set_option linter.unusedVariables false
set_option linter.unusedSimpArgs false
open Go.RowKit Go.Shelf
attribute [local go_sem] Oper.semAt_some

theorem rn_isAgg : ∀ W, (isAgg 58).run Tryz.prog W = .ok true W := fun _ => by kernel_rfl
theorem rn_sizeOf : ∀ W, (sizeOf 58).run Tryz.prog W = .ok 14 W := fun _ => by kernel_rfl
theorem rn_one (r : Rn) : ∀ v ∈ r.vals, v.oneCell' = true := by intro v hv; simp [Rn.vals, Cell.pvals] at hv; rcases hv with rfl | rfl | rfl | rfl | rfl | rfl | rfl | rfl | rfl | rfl | rfl | rfl | rfl | rfl <;> rfl
/-- A run in memory. -/
def RnAt (w : World) (b p : Nat) (r : Rn) : Prop := ∀ j x, r.vals[j]? = some x → w.cell? ⟨b, p + j, none⟩ = some x
theorem RnAt.sees {w W : World} {b p : Nat} {r : Rn} (h : RnAt w b p r) (hs : Sees w W) : RnAt W b p r := fun j x hx => hs.cell (h j x hx)
theorem RnAt.c {w : World} {b : Nat} {r : Rn} (h : RnAt w b 0 r) : w.cell? ⟨b, 0, none⟩ = some (.int .i64 (r.col : Int)) ∧ w.cell? ⟨b, 1, none⟩ = some (.int .i64 (r.wid : Int)) ∧ w.cell? ⟨b, 2, none⟩ = some (.string (strL r.txt)) := ⟨h 0 _ rfl, h 1 _ rfl, h 2 _ rfl⟩
theorem run_loadRn {W : World} {b p : Nat} {r : Rn} (h : RnAt W b p r) : (Instr.loadAt 58 (.pointer (some ⟨b, p, none⟩))).run Tryz.prog W = .ok r.val W :=
  run_load_agg 58 b p r.vals rn_isAgg rn_sizeOf h
theorem run_loadRnPen {W : World} {b : Nat} {r : Rn} (h : RnAt W b 0 r) : (Instr.loadAt 40 (.pointer (some ⟨b, 3, none⟩))).run Tryz.prog W = .ok r.c.pen W :=
  run_load_agg 40 b 3 r.c.pvals pen_isAgg pen_sizeOf fun j x hx => by
    have := h (3 + j) x (by rw [show r.vals = [.int .i64 (r.col : Int), .int .i64 (r.wid : Int), .string (strL r.txt)] ++ r.c.pvals from rfl, List.getElem?_append_right (by simp)]; simpa using hx)
    rwa [Nat.zero_add] at this
theorem run_storeRn {W : World} (r : Rn) (x : Array Value) (hx : x.size = 14) (g : Nat) (hg : g = W.heap.size) : (Instr.storeAt 58 (.pointer (some ⟨g, 0, none⟩)) r.val).run Tryz.prog (W.alloc (.cells x 58)) = .ok () (W.alloc (.cells r.vals.toArray 58)) := by
  subst hg
  have h := run_storeAt_row (P := Tryz.prog) (W := W.alloc (.cells x 58)) 58 W.heap.size x 58 r.vals rn_sizeOf (heap_alloc_new W _) (by rw [hx]; rfl) (rn_one r)
  rw [setRow_alloc] at h
  exact h
theorem rnAt_new (W : World) (r : Rn) (t : TypeId) : RnAt (W.alloc (.cells r.vals.toArray t)) W.heap.size 0 r := by
  intro j x hx
  rw [Nat.zero_add, cell_of_row _ _ _ _ _ _ (heap_alloc_new W _)]
  simpa using hx
theorem rn_at {F : Nat → Prop} {w : World} {ao : Option Addr} {n c k : Nat} {rs : List Rn} (h : rnEl.Rd F w (.slice ao n c) rs) (hk : k < n) : ∃ b o r, ao = some ⟨b, o, none⟩ ∧ rs[k]? = some r ∧ RnAt w b (o + k * 14) r := by
  have hl : n = rs.length := h.len
  obtain ⟨ao', cap, e, _, hh⟩ := h
  cases e
  obtain ⟨b, o, rfl, _, hc⟩ := hh (fun e => by rw [e] at hk; simp at hk)
  have hx : rs[k]? = some rs[k] := List.getElem?_eq_getElem (by omega)
  obtain ⟨vs, h1, h2⟩ := hc k _ hx
  have e : vs = rs[k].vals := h1
  rw [e] at h2
  exact ⟨b, o, _, rfl, hx, h2⟩
theorem BuSt.writeK {w W : World} {bs : List UInt8} (h : BuSt w bs W) (t : List UInt8) (hl : bs.length + t.length ≤ 1000000000) :
    Calls Tryz.prog 37 #[.pointer (some ⟨w.heap.size, 0, none⟩), .string ⟨t.toArray⟩] W fun e W' => ∃ x y, e = .returned (.tuple #[x, y]) ∧ BuSt w (bs ++ t) W' ∧ Lib.OthersKept 5 (some w.heap.size) W W' := by
  refine (write_bytes w.heap.size w.heap.size bs t W h.b hl h.s.size).mono ?_
  rintro e W' ⟨x, y, rfl, h1, h2, h3⟩
  exact ⟨x, y, rfl, ⟨h1, h.s.below.trans h2⟩, h3⟩
theorem flat_len_ge {α β : Type} (f : α → List β) : ∀ (l : List α), (∀ x, f x ≠ []) → l.length ≤ (l.flatMap f).length
  | [], _ => by simp
  | x :: l, h => by
    have h1 := flat_len_ge f l h
    have h2 : 1 ≤ (f x).length := by
      rcases Nat.eq_zero_or_pos (f x).length with h0 | h0
      · exact absurd (List.eq_nil_of_length_eq_zero h0) (h x)
      · exact h0
    rw [List.flatMap_cons, List.length_append, List.length_cons]
    omega
set_option maxHeartbeats 2000000 in
set_option maxRecDepth 100000 in
theorem markup_any (v : Value) (cs : List Cell) (so : Bool) (F : Nat → Prop) (w : World) (ht : Sd w) (h : cellEl.Rd F w v cs) (hn : cs.length ≤ 1000000) (hbd : ∀ c ∈ cs, c.Bd) :
    Calls Tryz.prog 32 #[.agg #[v, .bool so]] w fun e w' => e = .returned (.tuple #[.string (strL (if lnOk cs then mkL cs so else [])), .int .i64 (if lnOk cs then 0 else 2)]) ∧ Sees w w' := by
  have KR := Lib.hid (fun W (hs : Sees w W) => runs_any v ⟨cs, so⟩ F W (ht.sees hs).t (h.sees hs) hn)
  obtain ⟨a, cp, rfl, hcp⟩ := h.slice'
  obtain ⟨n, hnn⟩ : ∃ n, n = cs.length := ⟨_, rfl⟩
  rw [← hnn] at h hn hcp KR ⊢
  have H := Lib.hid h
  have HN := Lib.hid hnn
  have HT := Lib.hid ht
  have S0 : Sees w (w.alloc (.cells #[.slice a n cp, .bool so] 27)) := (Sees.refl w).alloc _
  have L0 : LnAt (w.alloc (.cells #[.slice a n cp, .bool so] 27)) w.heap.size (.slice a n cp) so := LnAt.new rfl
  obtain ⟨w1, hw1⟩ : ∃ w1, w1 = w.alloc (.cells #[.slice a n cp, .bool so] 27) := ⟨_, rfl⟩
  rw [← hw1] at S0 L0
  have HW1 := Lib.hid hw1
  have HS0 := Lib.hid S0
  have HL0 := Lib.hid L0
  obtain ⟨ok, hok⟩ : ∃ ok, ok = lnOk cs := ⟨_, rfl⟩
  rw [← hok] at KR ⊢
  have HOK := Lib.hid hok
  clear h hnn hw1 S0 L0 hok ht
  go_enter Tryz.func32, Tryz.ntmps32
  go_upto_region 1 with fail
  rw [← HW1.out]
  obtain ⟨l0, l1⟩ := HL0.out.c
  go_wp2_with fail
  refine (KR.out _ (HS0.out)).mono ?_
  rintro e W2 ⟨u, rfl, hu, s2⟩
  have HS2 := Lib.hid s2
  have HL2 := Lib.hid (HL0.out.sees s2)
  have HU := Lib.hid hu
  clear l0 l1 s2 KR hu HL0
  cases ok with
  | false =>
    go_wp2
    go_ret2
    exact ⟨rfl, HS0.out.trans HS2.out⟩
  | true =>
    obtain ⟨U, hU⟩ : ∃ U, U = cs.take (usedN cs) := ⟨_, rfl⟩
    have HRT : Hid ((runsL cs).flatMap (runTxt U) = mkFrom none U) := by rw [hU]; exact runsL_text _
    have HLEN : Hid (((runsL cs).flatMap (runTxt U)).length ≤ 43000) := by
      unfold RowKit.Hid
      rw [HRT.out]
      have h1 := mkFrom_len none U
      have h2 : U.length ≤ 1000 := by
        rw [hU, List.length_take]
        have := HOK.out
        unfold lnOk at this
        simp at this
        omega
      omega
    have HIN : Hid (∀ r ∈ runsL cs, 1 ≤ r.wid ∧ r.col + r.wid ≤ n ∧ r.c ∈ cs ∧ (U.drop r.col).take r.wid = (cs.drop r.col).take r.wid) := fun r hr => by
      have q := runsF_in U (usedN cs) 0 r (by rw [List.drop_zero, hU]; exact hr)
      rw [hU] at q ⊢
      rw [List.length_take] at q
      have := usedN_le cs
      refine ⟨q.2.1, by rw [HN.out]; omega, List.mem_of_mem_take q.2.2.2.1, part_of (by omega)⟩
    have HMK : Hid (mkL cs so = mkFrom none U ++ (if so then [92] else [])) := by rw [hU]; rfl
    obtain ⟨R, hR⟩ : ∃ R, R = runsL cs := ⟨_, rfl⟩
    have HUD : Hid (rnEl.Rd (fun b => b < W2.heap.size) W2 u R) := by
      rw [hR]
      exact (HU.out.cut.rd).mono fun b _ hb => hb.2
    rw [← hR] at HRT HLEN HIN
    clear hU hR HU
    obtain ⟨au, cu, rfl, hcu⟩ := HUD.out.slice'
    obtain ⟨N, hN⟩ : ∃ N, N = R.length := ⟨_, rfl⟩
    rw [← hN] at HUD hcu ⊢
    have hNb : N ≤ 43000 := by
      have h1 := flat_len_ge (runTxt U) R (fun r => by unfold runTxt; simp)
      have h2 := HLEN.out
      omega
    have HNN := Lib.hid hN
    clear hN
    go_upto_region 5 with fail
    refine wp_world fun W3 hW3 => ?_
    have G3 : Hid (BuSt W2 [] W3) := by subst hW3; exact BuSt.start W2
    clear hW3
    go_wp2
    go_loopw [21] (fun v W => ∃ k : Nat, k ≤ N ∧ v = .int .i64 k ∧ BuSt W2 ((R.take k).flatMap (runTxt U)) W) (fun v _ => N - (intOf v).toNat)
    case atStart => exact ⟨0, Nat.zero_le _, rfl, by rw [List.take_zero]; exact G3.out⟩
    case round =>
      obtain ⟨k, hk, rfl, hS⟩ := hrel
      have HS := Lib.hid hS
      clear hS
      by_cases hlt : k < N
      · obtain ⟨b, o, r, rfl, hr, hat0⟩ := rn_at HUD.out hlt
        have hat := hat0.sees HS.out.s
        obtain ⟨q1, q2, q3, q4⟩ := HIN.out r (List.mem_iff_getElem?.2 ⟨k, hr⟩)
        obtain ⟨P, hP⟩ : ∃ P, P = (R.take k).flatMap (runTxt U) := ⟨_, rfl⟩
        have hst := flat_step (runTxt U) hr
        have hlen := flat_take_len (runTxt U) R (k + 1)
        rw [hst, ← hP] at hlen
        rw [← hP] at hst HS
        obtain ⟨TT, hTT⟩ : ∃ TT, TT = tagsL r.c := ⟨_, rfl⟩
        obtain ⟨M, hM⟩ : ∃ M, M = (cs.drop r.col).take r.wid := ⟨_, rfl⟩
        have hrt : runTxt U r = (91 :: (TT ++ [93])) ++ M.flatMap mkC := by unfold runTxt; rw [q4, hTT, hM]
        rw [hrt] at hst hlen
        have hz : (strL TT).size ≤ 24 := by rw [strL_size, hTT]; exact tagsL_len _
        have HLE : Hid ((P ++ ((91 :: (TT ++ [93])) ++ M.flatMap mkC)).length ≤ 43000) := Nat.le_trans hlen HLEN.out
        have KT : Hid (∀ W, Sees w W → Calls Tryz.prog 16 #[r.c.pen] W fun e w' => e = .returned (.string (strL TT)) ∧ Sees W w') := fun W hs => by
          have q := tags_cell r.c (hbd _ q3) W (HT.out.sees hs)
          rw [if_pos (valid_pOk (ok_valid HOK.out.symm q3)), ← hTT] at q
          exact q
        have KW : Hid (∀ W, BuSt W2 P W → Calls Tryz.prog 37 #[.pointer (some ⟨W2.heap.size, 0, none⟩), .string (⟨#[91]⟩ ++ strL TT ++ ⟨#[93]⟩)] W fun e W' => ∃ x y, e = .returned (.tuple #[x, y]) ∧ BuSt W2 (P ++ (91 :: (TT ++ [93]))) W' ∧ Lib.OthersKept 5 (some W2.heap.size) W W') := fun W hW => by
          rw [show (⟨#[91]⟩ : ByteArray) = strL [91] from rfl, show (⟨#[93]⟩ : ByteArray) = strL [93] from rfl, strL_app, strL_app, show [91] ++ TT ++ [93] = 91 :: (TT ++ [93]) from rfl]
          exact hW.writeK _ (by have := HLE.out; simp only [List.length_append] at this ⊢; omega)
        have HST := Lib.hid hst
        obtain ⟨a2, c2, hsl, hrd⟩ := mid_cells H.out r.col (r.col + r.wid) (by omega) q2
        rw [Nat.add_sub_cancel_left] at hsl hrd
        rw [← hM] at hrd
        have HSL := Lib.hid hsl
        have HMR := Lib.hid (hrd F w H.out)
        have hwc : IntKind.i64.wrap ((r.col : Int) + (r.wid : Int)) = ((r.col + r.wid : Nat) : Int) := by rw [IntWalk.i64_in _ (by omega)]; omega
        have hwb : r.wid ≤ 1000000 := by omega
        have HR1 := Lib.hid q1
        clear hat0 hst hlen hrt hTT hP hsl hrd q1 q2 q3 q4 hr
        go_upto_region 8 with (first
          | (guard_target = wpList _ _ _ ({ dst := _, op := Op.load 58 _, type := _, pos := _, after := _, guard := _ } :: _) _ _; refine wpList_val rfl (exec_load (v := r.val) rfl rfl (run_loadRn hat)) (fun K hK => ?_); go_simp; refine hK _ _ ?_; clear hK K)
          | (guard_target = wpList _ _ _ ({ dst := _, op := Op.store 58 _ _, type := _, pos := _, after := _, guard := _ } :: _) _ _; refine wpList_skip rfl (exec_store (v := r.val) rfl rfl rfl (run_storeRn r _ rfl _ rfl)) (fun K hK => ?_); go_simp; refine hK _ _ ?_; clear hK K))
        refine wp_world fun W4 hW4 => ?_
        have X4 : RnAt W4 wr.heap.size 0 r := by subst hW4; exact rnAt_new _ r _
        have HX4 : Hid (W4.heap[wr.heap.size]? = some (.cells r.vals.toArray 58 (0, 0))) := by subst hW4; exact heap_alloc_new wr _
        have HS4 : Hid (BuSt W2 P W4) := by subst hW4; exact HS.out.sees ((Sees.refl _).alloc _)
        have HNB : Hid (W2.heap.size < wr.heap.size) := by
          rcases HS.out.b with hb | hb
          · obtain ⟨_, v9, hb9, _⟩ := hb
            exact (Array.getElem?_eq_some_iff.1 hb9).1
          · obtain ⟨_, v9, hb9, _⟩ := hb
            exact (Array.getElem?_eq_some_iff.1 hb9).1
        clear hW4 hat HS
        go_wp2_with (guard_target = wpList _ _ _ ({ dst := _, op := Op.load 40 _, type := _, pos := _, after := _, guard := _ } :: _) _ _; refine wpList_val rfl (exec_load (v := r.c.pen) rfl rfl (run_loadRnPen X4)) (fun K hK => ?_); go_simp; refine hK _ _ ?_; clear hK K)
        refine (KT.out _ ((HS0.out.trans HS2.out).trans HS4.out.s)).mono ?_
        rintro e W5 ⟨rfl, s⟩
        have HX5 : Hid (W5.heap[wr.heap.size]? = some (.cells r.vals.toArray 58 (0, 0))) := by unfold RowKit.Hid; rw [s.block _ (Array.getElem?_eq_some_iff.1 HX4.out).1]; exact HX4.out
        have HS5 := Lib.hid (HS4.out.sees s)
        clear s X4 HX4 HS4 KT
        go_wp2_with fail
        refine (KW.out _ HS5.out).mono ?_
        rintro e W6 ⟨r1, r2, rfl, hS6, hk6⟩
        have hx6 := hk6 _ _ HX5.out (fun e => by have := HNB.out; simp at e; omega) (fun c fz e => by cases e)
        have HS6 := Lib.hid hS6
        have e0 : W6.cell? ⟨wr.heap.size, 0, none⟩ = some (.int .i64 (r.col : Int)) := by rw [cell_of_row _ _ _ _ _ _ hx6]; rfl
        have e1 : W6.cell? ⟨wr.heap.size, 1, none⟩ = some (.int .i64 (r.wid : Int)) := by rw [cell_of_row _ _ _ _ _ _ hx6]; rfl
        obtain ⟨l0, l1⟩ := (HL2.out.sees HS6.out.s).c
        clear hS6 hk6 hx6 HX5 HS5 KW
        go_wp2_with (guard_target = wpList _ _ _ ({ dst := _, op := Op.slice _ _ _ _ _, type := _, pos := _, after := _, guard := _ } :: _) _ _; refine wpList_val rfl (exec_mid (v := .slice a2 r.wid c2) rfl rfl rfl rfl (HSL.out _)) (fun K hK => ?_); go_simp; refine hK _ _ ?_; clear hK K)
        clear e0 e1 l0 l1
        go_loopw [42] (fun v W => ∃ j : Nat, j ≤ r.wid ∧ v = .int .i64 j ∧ BuSt W2 (P ++ (91 :: (TT ++ [93])) ++ (M.take j).flatMap mkC) W) (fun v _ => r.wid - (intOf v).toNat)
        case atStart => exact ⟨0, Nat.zero_le _, rfl, by rw [List.take_zero, List.flatMap_nil, List.append_nil]; exact HS6.out⟩
        case round =>
          obtain ⟨j, hj, rfl, hS⟩ := hrel
          have HS := Lib.hid hS
          clear hS HS6
          by_cases hjt : j < r.wid
          · obtain ⟨b2, o2, c, rfl, _, hc, hatc⟩ := HMR.out.cell hjt
            have hat := hatc.sees ((HS0.out.trans HS2.out).trans HS.out.s)
            obtain ⟨Z, hZ⟩ : ∃ Z, Z = P ++ (91 :: (TT ++ [93])) ++ (M.take j).flatMap mkC := ⟨_, rfl⟩
            have hst2 : P ++ (91 :: (TT ++ [93])) ++ (M.take (j + 1)).flatMap mkC = Z ++ mkC c := by rw [flat_step mkC hc, hZ, List.append_assoc, List.append_assoc, List.append_assoc]
            have hl2 : (Z ++ mkC c).length ≤ 43000 := by
              rw [← hst2]
              have h1 := HLE.out
              have h2 := flat_take_len mkC M (j + 1)
              simp only [List.length_append] at h1 ⊢
              omega
            rw [← hZ] at HS
            have HST2 := Lib.hid hst2
            have HL3 := Lib.hid hl2
            have KC : Hid (∀ W, Calls Tryz.prog 23 #[c.val] W fun e w' => e = .returned (.string (strL c.txt)) ∧ Sees W w') := fun W => ctext_any c W
            have hzc : (strL c.txt).size ≤ 16 := by rw [strL_size]; exact c.txt_len
            clear hatc hst2 hl2 hZ hc
            go_upto_region 13 with (first
              | (guard_target = wpList _ _ _ ({ dst := _, op := Op.load 42 _, type := _, pos := _, after := _, guard := _ } :: _) _ _; refine wpList_val rfl (exec_load (v := c.val) rfl rfl (run_loadCell hat)) (fun K hK => ?_); go_simp; refine hK _ _ ?_; clear hK K)
              | (guard_target = wpList _ _ _ ({ dst := _, op := Op.store 42 _ _, type := _, pos := _, after := _, guard := _ } :: _) _ _; refine wpList_skip rfl (exec_store (v := c.val) rfl rfl rfl (run_storeNew c _ rfl _ rfl)) (fun K hK => ?_); go_simp; refine hK _ _ ?_; clear hK K))
            refine wp_world fun W7 hW7 => ?_
            have C7 : CellAt W7 wr.heap.size 0 c := by subst hW7; exact cellAt_new _ c _
            have HS7 : Hid (BuSt W2 Z W7) := by subst hW7; exact HS.out.sees ((Sees.refl _).alloc _)
            obtain ⟨f0, _, _, _, f4, _⟩ := C7.all
            clear hW7 hat HS
            by_cases hA : 0 < c.width ∧ c.rune = 0
            · obtain ⟨hA1, hA2⟩ := hA
              have hmk : mkC c = [95] := by unfold mkC; rw [if_pos ⟨hA1, hA2⟩]
              rw [hmk] at HST2 HL3
              have KB : Hid (∀ W, BuSt W2 Z W → Calls Tryz.prog 51 #[.pointer (some ⟨W2.heap.size, 0, none⟩), .int .u8 95] W fun e W' => e = .returned .nilIface ∧ BuSt W2 (Z ++ [95]) W') := fun W hW => hW.byte 95 (by have := HL3.out; simp only [List.length_append, List.length_singleton] at this; omega)
              have hA3 : (c.rune == 0) = true := by simpa using hA2
              have hA4 : c.width > 0 := hA1
              clear hmk
              go_wp2_with fail
              refine (KB.out _ HS7.out).mono ?_
              rintro e W8 ⟨rfl, hS8⟩
              rw [← HST2.out] at hS8
              have HS8 := Lib.hid hS8
              clear hS8 HS7 KB C7 f0 f4
              go_wp2
              go_roundw
              case rel => exact ⟨j + 1, by omega, by go_num, HS8.out⟩
              case measure => simp [intOf]; omega
            · have hA5 : 0 < c.width → (c.rune == 0) = false := fun h => by simpa using fun e => hA ⟨h, e⟩
              have hcut : ∀ (Y : List UInt8), mkC c = Y → True := fun _ _ => trivial
              have hG : (decide (c.width > 0) && (c.rune == 0)) = false := by
                rw [Bool.eq_false_iff]
                intro h
                simp at h
                exact hA h
              cases hE : escB c.rune with
              | true =>
                have hmk : mkC c = 92 :: c.txt := by unfold mkC; rw [if_neg hA, if_pos hE]
                rw [hmk] at HST2 HL3
                have KE : Hid (∀ W, Calls Tryz.prog 52 #[.int .i32 c.rune] W fun e w' => e = .returned (.bool true) ∧ Sees W w') := fun W => by
                  have q := escaped_any c.rune W
                  rw [hE] at q
                  exact q
                have KX : Hid (∀ W, BuSt W2 Z W → Calls Tryz.prog 37 #[.pointer (some ⟨W2.heap.size, 0, none⟩), .string (⟨#[92]⟩ ++ strL c.txt)] W fun e W' => ∃ x y, e = .returned (.tuple #[x, y]) ∧ BuSt W2 (Z ++ (92 :: c.txt)) W') := fun W hW => by
                  rw [show (⟨#[92]⟩ : ByteArray) = strL [92] from rfl, strL_app, show [92] ++ c.txt = 92 :: c.txt from rfl]
                  exact hW.write _ (by have := HL3.out; simp only [List.length_append] at this; omega)
                clear hmk
                rcases (show ((0 < c.width) ∧ (c.rune == 0) = false) ∨ ¬ 0 < c.width by by_cases h : 0 < c.width; exact .inl ⟨h, hA5 h⟩; exact .inr h) with ⟨g1, g2⟩ | g1
                all_goals
                  clear hA5 hG
                  go_wp2_with fail
                  refine (KE.out _).mono ?_
                  rintro e W8 ⟨rfl, s8⟩
                  have C8 := C7.sees s8
                  have HS8 := Lib.hid (HS7.out.sees s8)
                  clear s8 HS7 C7 f0 f4
                  go_wp2_with (guard_target = wpList _ _ _ ({ dst := _, op := Op.load 42 _, type := _, pos := _, after := _, guard := _ } :: _) _ _; refine wpList_val rfl (exec_load (v := c.val) rfl rfl (run_loadCell C8)) (fun K hK => ?_); go_simp; refine hK _ _ ?_; clear hK K)
                  refine (KC.out _).mono ?_
                  rintro e W9 ⟨rfl, s9⟩
                  have HS9 := Lib.hid (HS8.out.sees s9)
                  clear s9 HS8 C8
                  go_wp2_with fail
                  refine (KX.out _ HS9.out).mono ?_
                  rintro e Wa ⟨r3, r4, rfl, hSa⟩
                  rw [← HST2.out] at hSa
                  have HSa := Lib.hid hSa
                  clear hSa HS9 KX
                  go_wp2
                  go_roundw
                  case rel => exact ⟨j + 1, by omega, by go_num, HSa.out⟩
                  case measure => simp [intOf]; omega
              | false =>
                have hmk : mkC c = c.txt := by unfold mkC; rw [if_neg hA, if_neg (by rw [hE]; simp)]
                rw [hmk] at HST2 HL3
                have KE : Hid (∀ W, Calls Tryz.prog 52 #[.int .i32 c.rune] W fun e w' => e = .returned (.bool false) ∧ Sees W w') := fun W => by
                  have q := escaped_any c.rune W
                  rw [hE] at q
                  exact q
                have KX : Hid (∀ W, BuSt W2 Z W → Calls Tryz.prog 37 #[.pointer (some ⟨W2.heap.size, 0, none⟩), .string (strL c.txt)] W fun e W' => ∃ x y, e = .returned (.tuple #[x, y]) ∧ BuSt W2 (Z ++ c.txt) W') := fun W hW => by
                  exact hW.write _ (by have := HL3.out; simp only [List.length_append] at this; omega)
                clear hmk
                rcases (show ((0 < c.width) ∧ (c.rune == 0) = false) ∨ ¬ 0 < c.width by by_cases h : 0 < c.width; exact .inl ⟨h, hA5 h⟩; exact .inr h) with ⟨g1, g2⟩ | g1
                all_goals
                  clear hA5 hG
                  go_wp2_with fail
                  refine (KE.out _).mono ?_
                  rintro e W8 ⟨rfl, s8⟩
                  have C8 := C7.sees s8
                  have HS8 := Lib.hid (HS7.out.sees s8)
                  clear s8 HS7 C7 f0 f4
                  go_wp2_with (guard_target = wpList _ _ _ ({ dst := _, op := Op.load 42 _, type := _, pos := _, after := _, guard := _ } :: _) _ _; refine wpList_val rfl (exec_load (v := c.val) rfl rfl (run_loadCell C8)) (fun K hK => ?_); go_simp; refine hK _ _ ?_; clear hK K)
                  refine (KC.out _).mono ?_
                  rintro e W9 ⟨rfl, s9⟩
                  have HS9 := Lib.hid (HS8.out.sees s9)
                  clear s9 HS8 C8
                  go_wp2_with fail
                  refine (KX.out _ HS9.out).mono ?_
                  rintro e Wa ⟨r3, r4, rfl, hSa⟩
                  rw [← HST2.out] at hSa
                  have HSa := Lib.hid hSa
                  clear hSa HS9 KX
                  go_wp2
                  go_roundw
                  case rel => exact ⟨j + 1, by omega, by go_num, HSa.out⟩
                  case measure => simp [intOf]; omega
          · obtain rfl : j = r.wid := by omega
            have hfin : BuSt W2 ((R.take (k + 1)).flatMap (runTxt U)) wr := by
              have q := HS.out
              rw [show M.take r.wid = M from List.take_of_length_le (by have := HMR.out.len; omega)] at q
              rw [HST.out, ← List.append_assoc]
              exact q
            have HF := Lib.hid hfin
            clear hfin HS
            go_wp2
            go_roundw
            case rel => exact ⟨k + 1, by omega, by go_num, HF.out⟩
            case measure => simp [intOf]; omega
      · obtain rfl : k = N := by omega
        have hfin : BuSt W2 (mkFrom none U) wr := by
          have q := HS.out
          rw [show R.take k = R from List.take_of_length_le (by have := HNN.out; omega), HRT.out] at q
          exact q
        have HF := Lib.hid hfin
        obtain ⟨l0, l1⟩ := (HL2.out.sees HS.out.s).c
        have hLL : (mkFrom none U).length ≤ 43000 := by rw [← HRT.out]; exact HLEN.out
        have HLL := Lib.hid hLL
        clear hfin HS hLL
        cases so with
        | true =>
          have KB : Hid (∀ W, BuSt W2 (mkFrom none U) W → Calls Tryz.prog 51 #[.pointer (some ⟨W2.heap.size, 0, none⟩), .int .u8 92] W fun e W' => e = .returned .nilIface ∧ BuSt W2 (mkFrom none U ++ [92]) W') := fun W hW => hW.byte 92 (by have := HLL.out; omega)
          go_wp2_with fail
          refine (KB.out _ HF.out).mono ?_
          rintro e W8 ⟨rfl, hS8⟩
          have HS8 := Lib.hid hS8
          clear hS8 KB HF
          go_wp2_with fail
          refine HS8.out.string.mono ?_
          rintro e W9 ⟨rfl, s9⟩
          have HS10 := Lib.hid s9
          clear s9
          go_wp2
          go_ret2
          exact ⟨by rw [HMK.out]; rfl, (HS0.out.trans HS2.out).trans HS10.out⟩
        | false =>
          go_wp2_with fail
          refine HF.out.string.mono ?_
          rintro e W9 ⟨rfl, s9⟩
          have HS10 := Lib.hid s9
          clear s9
          go_wp2
          go_ret2
          exact ⟨by rw [HMK.out]; simp [strL], (HS0.out.trans HS2.out).trans HS10.out⟩
end Go.Proofs.YthcndmchlpohpaaGreatDoor
