/- LinksMany (43). The tables hold what the program's text lays. -/
import Derived.Test.YtfdolhppbimbmaaDoorLkO
namespace Go.Proofs.YtfdolhppbimbmaaDoor
set_option linter.unusedVariables false
set_option linter.unusedSimpArgs false
open Go.RowKit Go.Shelf
attribute [local go_sem] Oper.semAt_some

theorem lu_table : ((List.range 256).all fun i => !(decide (32 ≤ i) && decide (i ≤ 126)) || ((chC (UInt8.ofNat i)).valid && decide ((chC (UInt8.ofNat i)).txt = [UInt8.ofNat i]))) = true := by kernel_rfl
theorem lu_good {b : UInt8} (h : 32 ≤ b.toNat ∧ b.toNat ≤ 126) : (chC b).valid = true ∧ (chC b).txt = [b] := by
  have h3 := List.all_eq_true.1 lu_table b.toNat (List.mem_range.2 (by omega))
  rw [decide_eq_true h.1, decide_eq_true h.2, UInt8.ofNat_toNat] at h3
  simpa using h3
def unitL : List UInt8 := [102, 116, 112, 58, 47, 47, 97, 32]
def units : Nat → List UInt8
  | 0 => []
  | n + 1 => unitL ++ units n
theorem units_len : ∀ n, (units n).length = 8 * n
  | 0 => rfl
  | n + 1 => by rw [units, List.length_append, units_len n]; simp [unitL]; omega
theorem units_add : ∀ a b, units (a + b) = units a ++ units b
  | 0, b => by rw [Nat.zero_add]; rfl
  | a + 1, b => by rw [Nat.add_right_comm, units, units_add a b, units, List.append_assoc]
theorem units_good : ∀ n, ∀ b ∈ units n, 32 ≤ b.toNat ∧ b.toNat ≤ 126
  | 0, b, h => by cases h
  | n + 1, b, h => by
    rw [units, List.mem_append] at h
    rcases h with h | h
    · revert b; decide
    · exact units_good n b h
theorem spots_units : ∀ n i, spotsR false i 0 (units n) = (List.range n).map (fun j => (i + 8 * j, i + 8 * j + 7))
  | 0, _ => rfl
  | n + 1, i => by
    have ha : addrN (units (n + 1)) = 7 := addr_front (l := ftpL ++ [97]) (c := 32) (v := units n) (by decide) (by decide) (by decide)
    have e : units (n + 1) = 102 :: ([116, 112, 58, 47, 47] ++ 97 :: (32 :: units n)) := rfl
    rw [e] at ha ⊢
    rw [spots_yes (by rw [ha]; decide), ha, show (7 : Nat) - 1 = 5 + 1 from rfl, spots_skip 5 _ _ _ _ _ rfl, spots_no (.inr (no_sp _)), show brkB 32 = false by decide, spots_units n, List.range_succ_eq_map, List.map_cons, List.map_map]
    congr 1
    refine List.map_congr_left fun j _ => ?_
    simp only [Function.comp, Nat.succ_eq_add_one, Prod.mk.injEq]
    omega
def lineB (n : Int) : Nat → List UInt8 → List Bp
  | _, [] => []
  | k, b :: t => ⟨b, n, k⟩ :: lineB n (k + 1) t
theorem cellsB_line {n : Int} : ∀ {l : List UInt8} {k : Nat}, (∀ b ∈ l, 32 ≤ b.toNat ∧ b.toNat ≤ 126) → cellsB n k (l.map chC) = lineB n k l
  | [], _, _ => rfl
  | b :: t, k, h => by
    rw [List.map_cons, cellsB, cellsB_line (fun x hx => h x (List.mem_cons_of_mem _ hx)), cellB, (lu_good (h b List.mem_cons_self)).2]
    rfl
theorem lineB_b (n : Int) : ∀ (k : Nat) (l : List UInt8), (lineB n k l).map Bp.b = l
  | _, [] => rfl
  | k, b :: t => by rw [lineB, List.map_cons, lineB_b]
theorem lineB_len (n : Int) (k : Nat) (l : List UInt8) : (lineB n k l).length = l.length := by
  have := congrArg List.length (lineB_b n k l)
  rwa [List.length_map] at this
theorem lineB_get (n : Int) : ∀ (l : List UInt8) (k i : Nat), i < l.length → ∃ b, (lineB n k l)[i]? = some ⟨b, n, ((k + i : Nat) : Int)⟩
  | [], _, _, h => by simp at h
  | b :: t, k, 0, _ => ⟨b, rfl⟩
  | b :: t, k, i + 1, h => by
    obtain ⟨c, hc⟩ := lineB_get n t (k + 1) i (by simpa using h)
    refine ⟨c, ?_⟩
    rw [lineB, List.getElem?_cons_succ, hc]
    congr 3
    omega
def uRow (soft : Bool) : Ln := ⟨(units 100).map chC, soft⟩
theorem uRow_len (soft : Bool) : (uRow soft).cells.length = 800 := by unfold uRow; rw [List.length_map, units_len]
theorem uRow_used (soft : Bool) : usedN (uRow soft).cells = 800 := by
  unfold usedN
  rw [uRow_len]
  refine usedTo_not (fun e => ?_)
  unfold uRow at e
  rw [List.getElem?_map] at e
  obtain ⟨b, hb, he⟩ := Option.map_eq_some_iff.1 e
  have h1 := units_good 100 b (List.mem_iff_getElem?.2 ⟨_, hb⟩)
  have := congrArg Cell.rune he
  have h2 : ((b.toNat : Nat) : Int) = 0 := this
  omega
theorem uRow_part (soft last : Bool) : (uRow soft).part last = (uRow soft).cells := by
  unfold Ln.part
  split
  · rw [uRow_used, List.take_of_length_le (by rw [uRow_len]; exact Nat.le_refl _)]
  · rfl
theorem uRow_B (n : Int) (soft last : Bool) : rowB n last (uRow soft) = lineB n 0 (units 100) := by
  unfold rowB
  rw [uRow_part]
  exact cellsB_line (units_good 100)
def bigB (k : Int) : Nat → List Bp
  | 0 => []
  | n + 1 => lineB k 0 (units 100) ++ bigB (k + 1) n
theorem bigB_b : ∀ (n : Nat) (k : Int), (bigB k n).map Bp.b = units (100 * n)
  | 0, _ => rfl
  | n + 1, k => by rw [bigB, List.map_append, lineB_b, bigB_b n, ← units_add]; congr 1; omega
theorem bigB_len (n : Nat) (k : Int) : (bigB k n).length = 800 * n := by
  have := congrArg List.length (bigB_b n k)
  rw [List.length_map, units_len] at this
  omega
theorem bigB_get : ∀ (n : Nat) (k : Int) (i : Nat), i < 800 * n → ∃ b, (bigB k n)[i]? = some ⟨b, k + ((i / 800 : Nat) : Int), ((i % 800 : Nat) : Int)⟩
  | 0, k, i, h => by omega
  | n + 1, k, i, h => by
    have hl : (lineB k 0 (units 100)).length = 800 := by rw [lineB_len, units_len]
    rw [bigB]
    rcases Nat.lt_or_ge i 800 with hi | hi
    · obtain ⟨b, hb⟩ := lineB_get k (units 100) 0 i (by rw [units_len]; omega)
      refine ⟨b, ?_⟩
      have e0 : k + ((0 : Nat) : Int) = k := by omega
      rw [List.getElem?_append_left (by rw [hl]; exact hi), hb, Nat.div_eq_of_lt hi, Nat.mod_eq_of_lt hi, e0, Nat.zero_add]
    · obtain ⟨b, hb⟩ := bigB_get n (k + 1) (i - 800) (by omega)
      refine ⟨b, ?_⟩
      rw [List.getElem?_append_right (by rw [hl]; exact hi), hl, hb]
      have e1 : i / 800 = (i - 800) / 800 + 1 := by omega
      have e2 : i % 800 = (i - 800) % 800 := by omega
      have e3 : k + 1 + (((i - 800) / 800 : Nat) : Int) = k + (((i - 800) / 800 + 1 : Nat) : Int) := by omega
      rw [e1, e2, e3]
def ftpS : ByteArray := ⟨#[102, 116, 112, 58, 47, 47, 97]⟩
def uLk (k : Int) (j : Nat) : Lk := ⟨k + ((j / 100 : Nat) : Int), ((8 * (j % 100) : Nat) : Int), k + ((j / 100 : Nat) : Int), ((8 * (j % 100) + 6 : Nat) : Int), ftpS⟩
theorem units_cut {m j : Nat} (h : j < m) : cutL (units m) (8 * j, 8 * j + 7) = [102, 116, 112, 58, 47, 47, 97] := by
  obtain ⟨d, rfl⟩ : ∃ d, m = j + (d + 1) := ⟨m - j - 1, by omega⟩
  unfold cutL
  rw [units_add, List.drop_left' (units_len j)]
  rw [show 8 * j + 7 - 8 * j = 7 by omega]
  rfl
theorem linkS_big (k : Int) (n : Nat) : linkS (bigB k n) = (List.range (100 * n)).map (uLk k) := by
  unfold linkS spotsL
  rw [bigB_b, spots_units, List.map_map]
  refine List.map_congr_left fun j hj => ?_
  have hj := List.mem_range.1 hj
  obtain ⟨b0, h0⟩ := bigB_get n k (8 * j) (by omega)
  obtain ⟨b1, h1⟩ := bigB_get n k (8 * j + 6) (by omega)
  simp only [Function.comp, Nat.zero_add]
  unfold lkOf
  rw [bigB_b, units_cut hj]
  simp only [show 8 * j + 7 - 1 = 8 * j + 6 by omega, List.getD_eq_getElem?_getD, h0, h1, Option.getD_some]
  unfold uLk
  have d0 : 8 * j / 800 = j / 100 := by omega
  have d1 : 8 * j % 800 = 8 * (j % 100) := by omega
  have d2 : (8 * j + 6) / 800 = j / 100 := by omega
  have d3 : (8 * j + 6) % 800 = 8 * (j % 100) + 6 := by omega
  rw [d0, d1, d2, d3]
  rfl
theorem segs_usoft : ∀ (n : Nat) (k : Int) (acc : List Bp), 1 ≤ n → segs k acc (List.replicate n (uRow true)) = [acc ++ bigB k n]
  | 0, _, _, h => by omega
  | n + 1, k, acc, _ => by
    rw [List.replicate_succ, segs, bigB, uRow_B, uRow_B]
    cases n with
    | zero => simp [segs, bigB]
    | succ n => rw [if_pos (by simp [uRow, List.replicate_succ]), segs_usoft (n + 1) (k + 1) _ (by omega), List.append_assoc]
theorem segs_uhard : ∀ (n : Nat) (k : Int), (segs k [] (List.replicate n (uRow false))).flatMap linkS = (List.range (100 * n)).map (uLk k)
  | 0, _ => rfl
  | n + 1, k => by
    have h1 : linkS ([] ++ lineB k 0 (units 100)) = (List.range 100).map (uLk k) := by
      have := linkS_big k 1
      rw [bigB, bigB, List.append_nil] at this
      exact this
    rw [List.replicate_succ, segs, if_neg (by simp [uRow]), List.flatMap_cons, uRow_B, h1, segs_uhard n, show 100 * (n + 1) = 100 + 100 * n by omega, List.range_add, List.map_append, List.map_map]
    congr 1
    refine List.map_congr_left fun j _ => ?_
    unfold uLk
    simp only [Function.comp]
    have e1 : (100 + j) / 100 = j / 100 + 1 := by omega
    have e2 : (100 + j) % 100 = j % 100 := by omega
    rw [e1, e2]
    congr 1 <;> (push_cast; omega)
theorem allK_many (n : Nat) (hn : 1 ≤ n) (soft : Bool) : allK (List.replicate n (uRow soft)) 0 = (List.range (100 * n)).map (uLk 0) := by
  unfold allK
  cases soft
  · exact segs_uhard n 0
  · rw [segs_usoft n 0 [] hn, List.flatMap_cons, List.flatMap_nil, List.append_nil, List.nil_append, linkS_big]
theorem uRow_ok (soft : Bool) : lnOk (uRow soft).cells = true := by
  unfold lnOk
  rw [uRow_len]
  show (true && rowOk (uRow soft).cells) = true
  rw [Bool.true_and]
  refine rowOk_all fun k hk => ?_
  unfold uRow at *
  simp only [] at *
  unfold rowBad
  rw [List.length_map] at hk
  have hg : ∀ j, j < (units 100).length → ∃ b, ((units 100).map chC)[j]? = some (chC b) ∧ (chC b).valid = true := fun j hj => by
    refine ⟨(units 100)[j], by rw [List.getElem?_map, List.getElem?_eq_getElem hj]; rfl, (lu_good (units_good 100 _ (List.getElem_mem hj))).1⟩
  obtain ⟨b, hb, hv⟩ := hg k hk
  rw [hb]
  have hbh : behindAt ((units 100).map chC) k = false := by
    cases k with
    | zero => rfl
    | succ m =>
      obtain ⟨c, hc, _⟩ := hg m (by omega)
      show (match ((units 100).map chC)[m]? with | some p => p.width == 2 | none => false) = false
      rw [hc]
      rfl
  show cellBad _ _ _ _ = false
  unfold cellBad
  rw [hbh, hv]
  show (!true || ((1 : Int) == 0) != false || (false && _) || ((1 : Int) == 2 && _)) = false
  simp
theorem many_of (n : Nat) (hn : n ≤ 1000) (soft : Bool) : ofE (List.replicate n (uRow soft)) 0 = 0 := by
  refine ofE_ok ?_ (by rw [List.length_replicate]; exact hn)
  unfold rowsOk scrB
  rw [decide_eq_true (p := (0 : Int) ≥ 0) (by omega), decide_eq_true (p := (0 : Int) ≤ 1099511627776) (by omega), Bool.and_self, Bool.and_true, List.all_eq_true]
  intro x hx
  have hcols : cols (List.replicate n (uRow soft)) = 800 := by
    cases n with
    | zero => cases hx
    | succ n => rw [List.replicate_succ]; exact uRow_len soft
  rw [(List.mem_replicate.1 hx).2, hcols]
  unfold scrAt
  rw [uRow_ok, uRow_len]
  rfl
/-- Lines, their cells left as they are. -/
def rwEl : El (Option Addr × Nat × Nat × Bool) := wordsEl 37 2 (fun m => [.slice m.1 m.2.1 m.2.2.1, .bool m.2.2.2]) (by decide) (fun _ => rfl) (by intro x v hv; simp at hv; rcases hv with rfl | rfl <;> rfl)
theorem typedRw : El.Typed Tryd.prog rwEl 22 := El.typed_of (z := .agg #[.slice none 0 0, .bool false]) (bytes := 32) Tryd.underlying22 (by kernel_rfl) rfl (by decide)
theorem rw_lines {F G H : Nat → Prop} {W : World} {v : Value} {k c n : Nat} {a : Option Addr} {soft : Bool} {cs : List Cell} (h : rwEl.Rd F W v (List.replicate k (a, n, c, soft))) (hc : cellEl.Rd G W (.slice a n c) cs) (h1 : ∀ b, b < W.heap.size → F b → H b) (h2 : ∀ b, b < W.heap.size → G b → H b) : lnEl.Rd H W v (List.replicate k ⟨cs, soft⟩) := by
  obtain ⟨ao, cap, rfl, hl, hh⟩ := (h.mono h1 : rwEl.Rd H W v _)
  have hc' : cellEl.Rd H W (.slice a n c) cs := hc.mono h2
  rw [List.length_replicate] at hl
  refine ⟨ao, cap, by rw [List.length_replicate, List.length_replicate], by rw [List.length_replicate]; exact hl, fun hne => ?_⟩
  obtain ⟨b, o, e, hb, hx⟩ := hh (by intro e; have := congrArg List.length e; rw [List.length_replicate] at this; subst this; exact hne rfl)
  refine ⟨b, o, e, hb, fun i x hi => ?_⟩
  rw [List.getElem?_replicate] at hi
  split at hi
  · rename_i hik
    cases hi
    obtain ⟨vs, h3, h4⟩ := hx i (a, n, c, soft) (by rw [List.getElem?_replicate, if_pos hik])
    have h3 : vs = [.slice a n c, .bool soft] := h3
    exact ⟨vs, by rw [h3]; exact ln_rel hc' soft, h4⟩
  · cases hi
set_option maxHeartbeats 4000000 in
set_option maxRecDepth 1000000 in
theorem lmany_good (N : Nat) (soft : Bool) (w : World) (hst : Std w) (ht : Tabs w) (n1 : 98 ≤ N) (n2 : N ≤ 102) :
    Calls Tryd.prog 7 #[.int .i64 N, .bool soft] w fun e w' => e = .returned (.bool true) ∧ Sees w w' := by
  have KN := Lib.hid (fun W (hs : Sees w W) => lknown_any W (hst.sees hs) (ht.sees hs))
  have HT := Lib.hid ht
  have HST := Lib.hid hst
  have g1 : decide ((N : Int) < 98) = false := decide_eq_false (by omega)
  have g2 : decide ((N : Int) > 102) = false := decide_eq_false (by omega)
  have g3 : ¬ ((N : Int) < 98) := by omega
  have g4 : ¬ (N < 98) := by omega
  have g5 : ¬ (102 < N) := by omega
  clear hst ht
  go_enter Tryd.func7, Tryd.ntmps7
  go_wp2_with fail
  go_loopw [5, 6] (fun ut ii W => ∃ (k : Nat) (tx : ByteArray), k ≤ 100 ∧ ii = .int .i64 k ∧ ut = .string tx ∧ Hid (tx = strL (units k)) ∧ W = w) (fun _ ii _ => 100 - (intOf ii).toNat)
  case atStart => exact ⟨0, _, by omega, rfl, rfl, rfl, rfl⟩
  case round =>
    obtain ⟨k, tx, hk, rfl, rfl, htx, hW⟩ := hrel
    subst hW
    by_cases hlt : k < 100
    · have hk1 : (k : Int) < 100 := by omega
      have hsz : tx.size ≤ 800 := by rw [htx.out, strL_size, units_len]; omega
      have HNX : Hid (tx ++ (⟨#[102, 116, 112, 58, 47, 47, 97, 32]⟩ : ByteArray) = strL (units (k + 1))) := by
        unfold RowKit.Hid
        rw [htx.out, show (⟨#[102, 116, 112, 58, 47, 47, 97, 32]⟩ : ByteArray) = strL (units 1) from rfl, strL_app, ← units_add]
      go_wp2
      exact ⟨⟨k + 1, _, by omega, by go_num, rfl, HNX, by first | trivial | rfl⟩, by simp [intOf]; omega⟩
    · obtain rfl : k = 100 := by omega
      have hsz : tx.size = 800 := by rw [htx.out, strL_size, units_len]
      have KR := Lib.hid (fun W => lrow_any tx 800 (by omega) (by omega) W)
      have hcs : chP tx (800 - tx.size) = (uRow soft).cells := by
        rw [hsz]
        unfold chP chL uRow
        rw [htx.out, strL_list]
        simp
      rw [hcs] at KR
      have gk : decide (((100 : Nat) : Int) < 100) = false := by decide
      clear hcs htx hk hlt hsz
      go_wp2_with fail
      refine (KR.out _).mono ?_
      rintro e W0 ⟨vc, rfl, hoc, s0⟩
      obtain ⟨ac, cc, rfl, _⟩ := hoc.slice
      rw [uRow_len] at hoc ⊢
      have HOC := Lib.hid (hoc.rd.mono (G := fun b => b < W0.heap.size) (fun b hb _ => hb))
      have HS0 := Lib.hid s0
      clear hoc s0 KR
      go_wp2_with fail
      go_loopw [8, 9] (fun vl ii W => ∃ k : Nat, k ≤ N ∧ ii = .int .i64 k ∧ rwEl.Own (fun b => W0.heap.size ≤ b) W vl (List.replicate k (ac, 800, cc, soft)) ∧ Sees W0 W) (fun _ ii _ => N - (intOf ii).toNat)
      case atStart => exact ⟨0, by omega, rfl, El.Own.nil _ _, Sees.refl _⟩
      case round =>
        obtain ⟨k, hk, rfl, ho, hS⟩ := hrel
        obtain ⟨aL, cL, rfl, _⟩ := ho.slice
        rw [List.length_replicate] at ho ⊢
        by_cases hlt : k < N
        · have hkN : (k : Int) < N := by omega
          have sA : Sees wr (wr.alloc (.cells #[.slice ac 800 cc, .bool soft] 37)) := (Sees.refl _).alloc _
          have HO := Lib.hid (ho.sees sA).cut
          have HRW := Lib.hid (heap_alloc_new wr (.cells #[.slice ac 800 cc, .bool soft] 37))
          have HS := Lib.hid (hS.trans sA)
          have HWB := Lib.hid (hS.trans sA).size
          have HLL : Hid ((List.replicate k (ac, 800, cc, soft)).length + [(ac, 800, cc, soft)].length ≤ 100000000) := by unfold RowKit.Hid; rw [List.length_replicate, List.length_singleton]; omega
          clear ho hS sA
          go_wp2_with (at_builtin; go_loud (refine El.wpList_append_own (v := .slice aL k cL) typedRw rfl (.tmp 34) (.tmp 38) rfl (by go_simp) HO.out ⟨wr.heap.size, 0, none⟩ 1 1 (by go_simp) [.slice ac 800 cc, .bool soft] [(ac, 800, cc, soft)] (fun _ => False) (El.ownIn_one (E := rwEl) rfl) rfl (fun j u hu => El.row_cells HRW.out j u hu) (fun b hb => hb.2) (fun b hb => hb.elim) HLL.out ?_); intro v7 w7 ho7 hk7; have HO7 := Lib.hid ho7; have HK7 := Lib.hid hk7; clear ho7 hk7)
          refine ⟨⟨k + 1, by omega, by go_num, ?_, El.keep_new HS.out HK7.out (fun g hg => (HO.out.base hg).1.1)⟩, by simp [intOf]; omega⟩
          rw [List.replicate_succ']
          refine HO7.out.mono fun b _ hb => ?_
          have := HWB.out
          rcases hb with hb | hb | hb
          · exact hb.1
          · exact hb.elim
          · omega
        · obtain rfl : k = N := by omega
          have HL : Hid (lnEl.Rd (fun b => b < wr.heap.size) wr (.slice aL k cL) (List.replicate k (uRow soft))) := rw_lines ho.rd (HOC.out.sees hS) (fun b hb _ => hb) (fun b hb _ => hb)
          have HS := Lib.hid (HS0.out.trans hS)
          have HOF : Hid (ofE (List.replicate k (uRow soft)) 0 = 0) := many_of k (by omega) soft
          clear ho hS HOC HS0 hlt hk
          obtain ⟨Q, hQ⟩ : ∃ Q, Q = 100 * k := ⟨_, rfl⟩
          obtain ⟨ks, hks⟩ : ∃ ks, ks = (allK (List.replicate k (uRow soft)) 0).take 10000 := ⟨_, rfl⟩
          obtain ⟨K, hK⟩ : ∃ K, K = ks.length := ⟨_, rfl⟩
          have hall := allK_many k (by omega) soft
          have hK2 : K = min 10000 Q := by rw [hK, hks, hall, List.length_take, List.length_map, List.length_range, hQ]
          have HXK : Hid (ks[K - 1]? = some (uLk 0 (K - 1))) := by
            unfold RowKit.Hid
            rw [hks, hall, List.getElem?_take, if_pos (by omega), List.getElem?_map, List.getElem?_range (by omega)]
            rfl
          have HK := Lib.hid hK
          have HKS := Lib.hid hks
          have f2 : min (100 * (k : Int)) 10000 = (K : Int) := by omega
          have f3 : IntKind.i64.wrap (100 * (k : Int)) = 100 * (k : Int) := IntWalk.i64_in _ (by omega)
          have hKb : 1 ≤ K ∧ K ≤ 10000 := by omega
          clear hQ hks hK hall hK2
          go_wp2_with fail
          refine (lall_ok (HST.out.sees HS.out) (HT.out.sees HS.out) HL.out HOF.out).mono ?_
          rintro e W3 ⟨v5, rfl, ho5, s⟩
          rw [← HKS.out] at ho5
          obtain ⟨a5, c5, rfl, _⟩ := ho5.slice
          rw [← HK.out] at ho5 ⊢
          have HO5 := Lib.hid ho5.rd
          have HS3 := Lib.hid (HS.out.trans s)
          have hKm : (K : Int) - 1 = ((K - 1 : Nat) : Int) := by omega
          obtain ⟨p, hp⟩ : ∃ p, p = K - 1 := ⟨_, rfl⟩
          obtain ⟨qd, hqd⟩ : ∃ qd : Int, qd = ((p / 100 : Nat) : Int) := ⟨_, rfl⟩
          obtain ⟨rm, hrm⟩ : ∃ rm : Int, rm = ((p % 100 : Nat) : Int) := ⟨_, rfl⟩
          obtain ⟨rd, hrd⟩ : ∃ rd : Int, rd = 8 * rm := ⟨_, rfl⟩
          have f5 : (p : Int).tdiv 100 = qd := by rw [hqd]; rfl
          have f6 : (p : Int).tmod 100 = rm := by rw [hrm]; rfl
          have HKP : Hid ((K : Int) - 1 = (p : Int)) := by unfold RowKit.Hid; rw [hKm, hp]
          have hx5 : uLk 0 p = ⟨qd, rd, qd, rd + 6, ftpS⟩ := by
            unfold uLk
            rw [hrd, hrm, hqd]
            congr 1 <;> (push_cast; omega)
          have HXP : Hid (ks[p]? = some ⟨qd, rd, qd, rd + 6, ftpS⟩) := by unfold RowKit.Hid; rw [← hx5, hp]; exact HXK.out
          have hqb : 0 ≤ qd ∧ qd ≤ 10000 := by omega
          have hrb : 0 ≤ rm ∧ rm ≤ 100 := by omega
          have u1 : IntKind.i64.wrap qd = qd := IntWalk.i64_in _ (by omega)
          have u2 : IntKind.i64.wrap rm = rm := IntWalk.i64_in _ (by omega)
          have u3 : 8 * rm = rd := hrd.symm
          have u4 : IntKind.i64.wrap rd = rd := IntWalk.i64_in _ (by omega)
          have u5 : IntKind.i64.wrap (rd + 6) = rd + 6 := IntWalk.i64_in _ (by omega)
          have u6 : IntKind.i64.wrap (p : Int) = (p : Int) := IntWalk.i64_in _ (by omega)
          have u7 : (K : Int) - 1 = (p : Int) := HKP.out
          have hpK : p < K := by omega
          have KP := Lib.hid (fun l c W => lat_any l c W)
          clear ho5 s hKm hp hqd hrm hrd hx5 HL HS HXK
          go_upto_region 19 with fail
          refine wpH_go (fun _ => False) 23 (by kernel_rfl) (by kernel_rfl) (by rfl) (fun hB w9 hs9 => ?_)
          have S9 := Lib.hid (HS3.out.trans hs9)
          have HO9 := Lib.hid (HO5.out.sees hs9)
          clear hs9
          have hS0 : Keeps (fun _ => False) w9 w9 := Keeps.refl _ w9
          obtain ⟨b3, o3, x, rfl, hx, c0, c1, c2, c3, c4⟩ := lk_cell HO9.out hpK
          obtain rfl : x = ⟨qd, rd, qd, rd + 6, ftpS⟩ := by have := HXP.out; rw [hx] at this; exact Option.some.inj this
          dsimp only at c0 c1 c2 c3 c4
          have C0 := Lib.hid c0
          have C1 := Lib.hid c1
          have C2 := Lib.hid c2
          have C3 := Lib.hid c3
          have C4 := Lib.hid c4
          clear hx c0 c1 c2 c3 c4
          refine wpH_take (i := 0) (v := .slice (some ⟨b3, o3, none⟩) K c5) hB (by rfl) (by kernel_rfl) (fun _ _ _ _ _ h => h) (by rfl) hS0 (fun W hI => by clear hI; go_simp) ?_; (try simp only [Act.put, List.setIfInBounds_toArray, List.set_cons_zero, List.set_cons_succ])
          refine wpH_take (i := 1) (v := .int .i64 p) hB (by rfl) (by kernel_rfl) (fun _ _ _ _ _ h => h) (by rfl) hS0 (fun W hI => by clear hI; go_simp) ?_; (try simp only [Act.put, List.setIfInBounds_toArray, List.set_cons_zero, List.set_cons_succ])
          refine wpH_take (i := 2) (v := .pointer (some ⟨b3, o3 + p * 5, none⟩)) hB (by rfl) (by kernel_rfl) (fun _ _ _ _ _ h => h) (by rfl) hS0 (fun W hI => by clear hI; go_simp) ?_; (try simp only [Act.put, List.setIfInBounds_toArray, List.set_cons_zero, List.set_cons_succ])
          refine wpH_take (i := 3) (v := .agg #[.int .i64 qd, .int .i64 rd, .int .i64 qd, .int .i64 (rd + 6), .string ftpS]) hB (by rfl) (by kernel_rfl) (fun _ _ _ _ _ h => h) (by rfl) hS0 (fun W hI => by have q1 := hI.cell (fun h => h) C0.out; have q2 := hI.cell (fun h => h) C1.out; have q3 := hI.cell (fun h => h) C2.out; have q4 := hI.cell (fun h => h) C3.out; have q5 := hI.cell (fun h => h) C4.out; go_simp) ?_; (try simp only [Act.put, List.setIfInBounds_toArray, List.set_cons_zero, List.set_cons_succ])
          refine wpH_take (i := 4) (v := .int .i64 p) hB (by rfl) (by kernel_rfl) (fun _ _ _ _ _ h => h) (by rfl) hS0 (fun W hI => by clear hI; go_simp) ?_; (try simp only [Act.put, List.setIfInBounds_toArray, List.set_cons_zero, List.set_cons_succ])
          refine wpH_take (i := 5) (v := .int .i64 qd) hB (by rfl) (by kernel_rfl) (fun _ _ _ _ _ h => h) (by rfl) hS0 (fun W hI => by clear hI; go_simp) ?_; (try simp only [Act.put, List.setIfInBounds_toArray, List.set_cons_zero, List.set_cons_succ])
          refine wpH_take (i := 6) (v := .int .i64 p) hB (by rfl) (by kernel_rfl) (fun _ _ _ _ _ h => h) (by rfl) hS0 (fun W hI => by clear hI; go_simp) ?_; (try simp only [Act.put, List.setIfInBounds_toArray, List.set_cons_zero, List.set_cons_succ])
          refine wpH_take (i := 7) (v := .int .i64 rm) hB (by rfl) (by kernel_rfl) (fun _ _ _ _ _ h => h) (by rfl) hS0 (fun W hI => by clear hI; go_simp) ?_; (try simp only [Act.put, List.setIfInBounds_toArray, List.set_cons_zero, List.set_cons_succ])
          refine wpH_take (i := 8) (v := .int .i64 rd) hB (by rfl) (by kernel_rfl) (fun _ _ _ _ _ h => h) (by rfl) hS0 (fun W hI => by clear hI; go_simp) ?_; (try simp only [Act.put, List.setIfInBounds_toArray, List.set_cons_zero, List.set_cons_succ])
          refine wpH_take (i := 10) (v := .int .i64 p) hB (by rfl) (by kernel_rfl) (fun _ _ _ _ _ h => h) (by rfl) hS0 (fun W hI => by clear hI; go_simp) ?_; (try simp only [Act.put, List.setIfInBounds_toArray, List.set_cons_zero, List.set_cons_succ])
          refine wpH_take (i := 11) (v := .int .i64 qd) hB (by rfl) (by kernel_rfl) (fun _ _ _ _ _ h => h) (by rfl) hS0 (fun W hI => by clear hI; go_simp) ?_; (try simp only [Act.put, List.setIfInBounds_toArray, List.set_cons_zero, List.set_cons_succ])
          refine wpH_take (i := 12) (v := .int .i64 p) hB (by rfl) (by kernel_rfl) (fun _ _ _ _ _ h => h) (by rfl) hS0 (fun W hI => by clear hI; go_simp) ?_; (try simp only [Act.put, List.setIfInBounds_toArray, List.set_cons_zero, List.set_cons_succ])
          refine wpH_take (i := 13) (v := .int .i64 rm) hB (by rfl) (by kernel_rfl) (fun _ _ _ _ _ h => h) (by rfl) hS0 (fun W hI => by clear hI; go_simp) ?_; (try simp only [Act.put, List.setIfInBounds_toArray, List.set_cons_zero, List.set_cons_succ])
          refine wpH_take (i := 14) (v := .int .i64 rd) hB (by rfl) (by kernel_rfl) (fun _ _ _ _ _ h => h) (by rfl) hS0 (fun W hI => by clear hI; go_simp) ?_; (try simp only [Act.put, List.setIfInBounds_toArray, List.set_cons_zero, List.set_cons_succ])
          refine wpH_take (i := 15) (v := .int .i64 (rd + 6)) hB (by rfl) (by kernel_rfl) (fun _ _ _ _ _ h => h) (by rfl) hS0 (fun W hI => by clear hI; go_simp) ?_; (try simp only [Act.put, List.setIfInBounds_toArray, List.set_cons_zero, List.set_cons_succ])
          refine wpH_one (i := 9) (by kernel_rfl) (wpOp_enter (fn := 33) (args := #[.int .i64 qd, .int .i64 rd]) (by rfl) (by rfl) (by go_simp) ((KP.out qd rd w9).mono ?_))
          rintro ee w11 ⟨rfl, hs⟩
          have hS1 := hS0.trans (Keeps.of_sees hs)
          refine ⟨_, rfl, hS1, ?_⟩
          (try simp only [Act.put, List.setIfInBounds_toArray, List.set_cons_zero, List.set_cons_succ])
          have S11 := Lib.hid (S9.out.trans hs)
          clear hs hS0
          have hS0 := hS1
          clear hS1
          refine wpH_one (i := 16) (by kernel_rfl) (wpOp_enter (fn := 33) (args := #[.int .i64 qd, .int .i64 (rd + 6)]) (by rfl) (by rfl) (by go_simp) ((KP.out qd (rd + 6) w11).mono ?_))
          rintro ee w12 ⟨rfl, hs⟩
          have hS1 := hS0.trans (Keeps.of_sees hs)
          refine ⟨_, rfl, hS1, ?_⟩
          (try simp only [Act.put, List.setIfInBounds_toArray, List.set_cons_zero, List.set_cons_succ])
          have S12 := Lib.hid (S11.out.trans hs)
          clear hs hS0
          have hS0 := hS1
          clear hS1
          refine wpH_take (i := 17) (v := .agg #[.int .i64 qd, .int .i64 rd, .int .i64 qd, .int .i64 (rd + 6), .string ftpS]) hB (by rfl) (by kernel_rfl) (fun _ _ _ _ _ h => h) (by rfl) hS0 (fun W hI => by clear hI; (try rw [show ftpS = ⟨#[102, 116, 112, 58, 47, 47, 97]⟩ from rfl]); go_simp) ?_; (try simp only [Act.put, List.setIfInBounds_toArray, List.set_cons_zero, List.set_cons_succ])
          refine wpH_take (i := 18) (v := .bool true) hB (by rfl) (by kernel_rfl) (fun _ _ _ _ _ h => h) (by rfl) hS0 (fun W hI => by clear hI; go_simp) ?_; (try simp only [Act.put, List.setIfInBounds_toArray, List.set_cons_zero, List.set_cons_succ])
          refine wpH_take (i := 19) (v := .bool true) hB (by rfl) (by kernel_rfl) (fun _ _ _ _ _ h => h) (by rfl) hS0 (fun W hI => by clear hI; go_simp) ?_; (try simp only [Act.put, List.setIfInBounds_toArray, List.set_cons_zero, List.set_cons_succ])
          refine wpH_one (i := 20) (by kernel_rfl) (wpOp_enterG (fn := 23) (args := #[]) (by rfl) (by go_simp) (by go_simp) ((KN.out w12 S12.out).mono ?_))
          rintro ee w13 ⟨rfl, hs⟩
          have hS1 := hS0.trans (Keeps.of_sees hs)
          refine ⟨_, rfl, hS1, ?_⟩
          (try simp only [Act.put, List.setIfInBounds_toArray, List.set_cons_zero, List.set_cons_succ])
          have S13 := Lib.hid (S12.out.trans hs)
          clear hs hS0
          have hS0 := hS1
          clear hS1
          refine wpH_take (i := 21) (v := .bool true) hB (by rfl) (by kernel_rfl) (fun _ _ _ _ _ h => h) (by rfl) hS0 (fun W hI => by clear hI; go_simp) ?_; (try simp only [Act.put, List.setIfInBounds_toArray, List.set_cons_zero, List.set_cons_succ])
          refine wpH_take (i := 22) (v := .bool true) hB (by rfl) (by kernel_rfl) (fun _ _ _ _ _ h => h) (by rfl) hS0 (fun W hI => by clear hI; go_simp) ?_; (try simp only [Act.put, List.setIfInBounds_toArray, List.set_cons_zero, List.set_cons_succ])
          refine wpH_end (by kernel_rfl) ?_
          clear hS0 hB
          go_wp2
          go_ret
          exact ⟨rfl, S13.out⟩
set_option maxHeartbeats 1000000 in
theorem linksMany_any (rows : Int) (soft : Bool) (w : World) (hst : Std w) (ht : Tabs w) :
    Calls Tryd.prog 7 #[.int .i64 rows, .bool soft] w fun e w' => e = .returned (.bool true) ∧ Sees w w' := by
  by_cases h1 : rows < 98
  · have g1 : decide (rows < 98) = true := decide_eq_true h1
    have KN := Lib.hid (lknown_any w hst ht)
    clear hst ht
    go_enter Tryd.func7, Tryd.ntmps7
    go_wp2_with fail
    refine KN.out.mono ?_
    rintro e W2 ⟨rfl, s⟩
    go_wp2
    go_ret
    exact ⟨rfl, s⟩
  by_cases h2 : 102 < rows
  · have g1 : decide (rows < 98) = false := decide_eq_false h1
    have g2 : decide (rows > 102) = true := decide_eq_true h2
    have KN := Lib.hid (lknown_any w hst ht)
    clear hst ht
    go_enter Tryd.func7, Tryd.ntmps7
    go_wp2_with fail
    refine KN.out.mono ?_
    rintro e W2 ⟨rfl, s⟩
    go_wp2
    go_ret
    exact ⟨rfl, s⟩
  obtain ⟨N, rfl⟩ : ∃ N : Nat, rows = N := ⟨rows.toNat, by omega⟩
  exact lmany_good N soft w hst ht (by omega) (by omega)
end Go.Proofs.YtfdolhppbimbmaaDoor
