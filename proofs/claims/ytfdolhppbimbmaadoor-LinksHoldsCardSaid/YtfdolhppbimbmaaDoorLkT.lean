/- LinksHolds (43). The tables hold what the program's text lays. -/
import Derived.Test.YtfdolhppbimbmaaDoorLkO
namespace Go.Proofs.YtfdolhppbimbmaaDoor
set_option linter.unusedVariables false
set_option linter.unusedSimpArgs false
open Go.RowKit Go.Shelf
open Go.Extern.FmtText (enc1)
attribute [local go_sem] Oper.semAt_some

theorem lk_valid {cs : List Cell} (h : lnOk cs = true) {c : Cell} (hc : c ∈ cs) : c.valid = true := by
  unfold lnOk at h
  rw [Bool.and_eq_true] at h
  obtain ⟨k, hk⟩ := List.mem_iff_getElem?.1 hc
  have hkl := (List.getElem?_eq_some_iff.1 hk).1
  have h2 := h.2
  unfold rowOk at h2
  have := List.all_eq_true.1 h2 k (List.mem_range.2 hkl)
  unfold rowBad at this
  rw [hk] at this
  simp only [cellBad] at this
  cases hv : c.valid
  · rw [hv] at this; simp at this
  · rfl
set_option maxRecDepth 100000 in
theorem enc_high {q : Nat} (hv : q < 55296 ∨ (57344 ≤ q ∧ q ≤ 1114111)) (h : 128 ≤ q) : ∀ b ∈ encL (q : Int), 128 ≤ b.toNat := by
  intro b hb
  have hb2 : b ∈ Lib.encodeRune (q : Int) := by rw [enc_list]; exact hb
  have hd := dec_enc q hv []
  rw [List.append_nil] at hd
  rcases dec_bytes (Lib.encodeRune (q : Int)) with ⟨h1, h2⟩ | ⟨_, _, _, h4⟩
  · rw [hd] at h2
    have := congrArg Prod.fst h2
    simp only [] at this
    omega
  · rw [hd] at h4
    simp only [List.take_length] at h4
    exact h4 b hb2
theorem prn_in {r : Int} (h : prn r = true) : ∃ q : Nat, r = q ∧ (q < 55296 ∨ (57344 ≤ q ∧ q ≤ 1114111)) := by
  simp [prn] at h
  exact ⟨r.toNat, by omega, by omega⟩
theorem marks_high : ((List.range 18).all fun i => decide (128 ≤ (marksT i).1)) = true := by kernel_rfl
theorem mark_in {m : Int} (h : wOf m = 0) : ∃ q : Nat, m = q ∧ (q < 55296 ∨ (57344 ≤ q ∧ q ≤ 1114111)) ∧ 128 ≤ q := by
  unfold wOf at h
  split at h
  · rename_i hp
    split at h
    · rename_i hm
      obtain ⟨q, rfl, hv⟩ := prn_in hp
      refine ⟨q, rfl, hv, ?_⟩
      unfold inTab at hm
      obtain ⟨i, hi, hh⟩ := List.any_eq_true.1 hm
      have h2 := List.all_eq_true.1 marks_high i hi
      rw [decide_eq_true_eq] at h2
      simp at hh
      omega
    · split at h <;> omega
  · omega
theorem mkTxt_high {i : Nat} {p m : Int} (h : mkBad i p m = false) : ∀ b ∈ mkTxt m, 128 ≤ b.toNat := by
  unfold mkTxt
  split
  · intro b hb; cases hb
  · rename_i h0
    unfold mkBad at h
    have hw : wOf m = 0 := by
      by_cases e : wOf m = 0
      · exact e
      · rw [show (m != 0) = true by simpa using h0, show (wOf m != 0) = true by simpa using e] at h
        simp at h
    obtain ⟨q, rfl, hv, hq⟩ := mark_in hw
    exact enc_high hv hq
set_option maxRecDepth 100000 in
/-- Behind the first byte of a cell's text there is no letter. -/
theorem txt_pw {c : Cell} (h : c.valid = true) : c.txt.Pairwise (fun _ b => 128 ≤ b.toNat) := by
  have high : ∀ {l : List UInt8}, (∀ b ∈ l, 128 ≤ b.toNat) → l.Pairwise (fun _ b => 128 ≤ b.toNat) := fun {l} hl => by
    rw [List.pairwise_iff_getElem]
    intro i j _ hj _
    exact hl _ (List.getElem_mem hj)
  unfold Cell.txt
  split
  · exact List.Pairwise.nil
  · split
    · simp
    · rename_i h0 h1
      unfold Cell.valid at h
      rw [Bool.and_eq_true, if_neg h1, Bool.and_eq_true, Bool.and_eq_true] at h
      obtain ⟨_, hm, hw, hw2⟩ := h
      unfold mkOk at hm
      simp only [Bool.and_eq_true, Bool.not_eq_true'] at hm
      have a0 := mkTxt_high hm.1.1
      have a1 := mkTxt_high hm.1.2
      have a2 := mkTxt_high hm.2
      have hr : prn c.rune = true := by
        rw [decide_eq_true_eq] at hw
        rw [beq_iff_eq] at hw2
        unfold wOf at hw2
        cases hp : prn c.rune
        · rw [hp] at hw2; simp at hw2; omega
        · rfl
      obtain ⟨q, hq, hv⟩ := prn_in hr
      have hrest : ∀ b ∈ mkTxt c.m0 ++ mkTxt c.m1 ++ mkTxt c.m2, 128 ≤ b.toNat := by
        intro b hb
        rcases List.mem_append.1 hb with hb | hb
        · rcases List.mem_append.1 hb with hb | hb
          · exact a0 b hb
          · exact a1 b hb
        · exact a2 b hb
      rw [List.append_assoc, List.append_assoc, ← List.append_assoc (mkTxt c.m0), List.pairwise_append]
      refine ⟨?_, high hrest, fun _ _ b hb => hrest b hb⟩
      rw [hq]
      by_cases hlt : q < 128
      · rw [show encL (q : Int) = [UInt8.ofNat q] from enc1 q hlt]
        simp
      · exact high (enc_high hv (by omega))
/-- One byte of a text stands before another one; and in an earlier cell, if that one is a letter. -/
def bpG (a b : Bp) : Prop := a.line < b.line ∨ (a.line = b.line ∧ (a.col < b.col ∨ (a.col ≤ b.col ∧ 128 ≤ b.b.toNat)))
theorem cellsB_g {n : Int} : ∀ {k : Nat} {cs : List Cell}, (∀ c ∈ cs, c.valid = true) → (cellsB n k cs).Pairwise bpG
  | _, [], _ => by simp [cellsB]
  | k, c :: cs, hc => by
    rw [cellsB, List.pairwise_append]
    refine ⟨?_, cellsB_g (fun d hd => hc d (List.mem_cons_of_mem _ hd)), ?_⟩
    · rw [cellB, List.pairwise_map]
      exact (txt_pw (hc c List.mem_cons_self)).imp (fun h => .inr ⟨rfl, .inr ⟨Int.le_refl _, h⟩⟩)
    · intro a ha b hb
      obtain ⟨x, _, rfl⟩ := List.mem_map.1 ha
      obtain ⟨h1, h2, _⟩ := cellsB_mem hb
      exact .inr ⟨h1.symm, .inl (by push_cast at h2; show (k : Int) < _; omega)⟩
theorem part_mem {x : Ln} {last : Bool} {c : Cell} (h : c ∈ x.part last) : c ∈ x.cells := by
  unfold Ln.part at h
  split at h
  · exact List.mem_of_mem_take h
  · exact h
theorem segs_g : ∀ {ls : List Ln} {n : Int} {acc : List Bp}, (∀ x ∈ ls, ∀ c ∈ x.cells, c.valid = true) → acc.Pairwise bpG → (∀ y ∈ acc, y.line < n) → (segs n acc ls).flatten.Pairwise bpG
  | [], _, _, _, _, _ => by simp [segs]
  | x :: xs, n, acc, h0, h1, h2 => by
    have hrow : ∀ last, (acc ++ rowB n last x).Pairwise bpG := fun last => by
      rw [List.pairwise_append]
      exact ⟨h1, cellsB_g (fun c hc => h0 x List.mem_cons_self c (part_mem hc)), fun a ha b hb => .inl (by have := h2 a ha; have := (rowB_mem hb).1; omega)⟩
    have hlt : ∀ last, ∀ y ∈ acc ++ rowB n last x, y.line < n + 1 := fun last y hy => by
      rcases List.mem_append.1 hy with h | h
      · have := h2 y h; omega
      · have := (rowB_mem h).1; omega
    have h0' : ∀ y ∈ xs, ∀ c ∈ y.cells, c.valid = true := fun y hy => h0 y (List.mem_cons_of_mem _ hy)
    unfold segs
    split
    · exact segs_g h0' (hrow _) (hlt _)
    · rw [List.flatten_cons, List.pairwise_append]
      refine ⟨hrow _, segs_g h0' List.Pairwise.nil (fun y hy => by cases hy), fun a ha b hb => ?_⟩
      obtain ⟨s, hs, hb⟩ := List.mem_flatten.1 hb
      have h3 := hlt _ a ha
      rcases segs_mem hs hb with h4 | h4
      · cases h4
      · exact .inl (by omega)
theorem addr_first {l : List UInt8} (h : addrN l ≠ 0) : ∃ b t, l = b :: t ∧ b.toNat < 128 := by
  rcases schN_cases l with ⟨u, rfl, _⟩ | ⟨u, rfl, _⟩ | ⟨u, rfl, _⟩ | ⟨u, rfl, _⟩ | h0
  · exact ⟨_, _, rfl, by decide⟩
  · exact ⟨_, _, rfl, by decide⟩
  · exact ⟨_, _, rfl, by decide⟩
  · exact ⟨_, _, rfl, by decide⟩
  · exact absurd (addr_none h0) h
theorem getD_g {s : List Bp} (h : s.Pairwise bpG) {i j : Nat} (hij : i < j) (hj : j < s.length) : bpG (s.getD i default) (s.getD j default) := by
  rw [List.getD_eq_getElem?_getD, List.getD_eq_getElem?_getD, List.getElem?_eq_getElem (by omega), List.getElem?_eq_getElem hj]
  exact List.pairwise_iff_getElem.1 h i j (by omega) hj hij
def lkLt (a b : Lk) : Prop := a.l1 < b.l0 ∨ (a.l1 = b.l0 ∧ a.c1 < b.c0)
def lkSelf (a : Lk) : Prop := a.l0 < a.l1 ∨ (a.l0 = a.l1 ∧ a.c0 ≤ a.c1)
theorem g_strict {a b : Bp} (h : bpG a b) (hb : b.b.toNat < 128) : a.line < b.line ∨ (a.line = b.line ∧ a.col < b.col) := by
  unfold bpG at h
  omega
theorem g_weak {a b : Bp} (h : bpG a b) : a.line < b.line ∨ (a.line = b.line ∧ a.col ≤ b.col) := by
  unfold bpG at h
  omega
/-- The first byte of an address is a letter. -/
theorem spot_first {seg : List Bp} {m : Nat × Nat} (h : m ∈ spotsL (seg.map Bp.b)) : (seg.getD m.1 default).b.toNat < 128 := by
  have hin := spots_in (seg.map Bp.b) false 0 0 m h
  rw [List.length_map, Nat.sub_zero] at hin
  obtain ⟨b, t, he, hb⟩ := addr_first (l := (seg.map Bp.b).drop m.1) (by omega)
  have hg : (seg.map Bp.b)[m.1]? = some b := by
    have := congrArg (fun l : List UInt8 => l[0]?) he
    simpa using this
  rw [List.getElem?_map] at hg
  obtain ⟨y, hy, rfl⟩ := Option.map_eq_some_iff.1 hg
  rw [List.getD_eq_getElem?_getD, hy]
  exact hb
theorem linkS_gap {seg : List Bp} (h : seg.Pairwise bpG) : (linkS seg).Pairwise lkLt := by
  unfold linkS
  rw [List.pairwise_map]
  refine List.Pairwise.imp_of_mem ?_ (spots_sorted (seg.map Bp.b) false 0 0)
  intro a b ha hb hab
  have h1 := spots_in (seg.map Bp.b) false 0 0 a ha
  have h2 := spots_in (seg.map Bp.b) false 0 0 b hb
  rw [List.length_map] at h1 h2
  exact g_strict (getD_g h (show a.2 - 1 < b.1 by omega) (by omega)) (spot_first hb)
theorem allK_gap {ls : List Ln} (first : Int) (hv : ∀ x ∈ ls, ∀ c ∈ x.cells, c.valid = true) : (allK ls first).Pairwise lkLt := by
  have hs := segs_g (ls := ls) (n := first) (acc := []) hv List.Pairwise.nil (fun y hy => by cases hy)
  rw [List.pairwise_flatten] at hs
  unfold allK
  rw [List.pairwise_flatMap]
  refine ⟨fun s hm => linkS_gap (hs.1 s hm), hs.2.imp ?_⟩
  intro a b hab x hx y hy
  unfold linkS at hx hy
  obtain ⟨m, hm, rfl⟩ := List.mem_map.1 hx
  obtain ⟨k, hk, rfl⟩ := List.mem_map.1 hy
  have h1 := spots_in (a.map Bp.b) false 0 0 m hm
  have h2 := spots_in (b.map Bp.b) false 0 0 k hk
  rw [List.length_map] at h1 h2
  exact g_strict (hab _ (bp_mem (k := m.2 - 1) (by omega)) _ (bp_mem (k := k.1) (by omega))) (spot_first hk)
theorem allK_self {ls : List Ln} {first : Int} (hv : ∀ x ∈ ls, ∀ c ∈ x.cells, c.valid = true) {x : Lk} (h : x ∈ allK ls first) : lkSelf x := by
  have hs := segs_g (ls := ls) (n := first) (acc := []) hv List.Pairwise.nil (fun y hy => by cases hy)
  rw [List.pairwise_flatten] at hs
  obtain ⟨seg, hseg, m, hm, rfl, h1, h2⟩ := lk_mem h
  by_cases e : m.1 = m.2 - 1
  · unfold lkSelf lkOf
    rw [← e]
    exact .inr ⟨rfl, Int.le_refl _⟩
  · exact g_weak (getD_g (hs.1 seg hseg) (show m.1 < m.2 - 1 by omega) (by omega))
theorem in_32 : ((List.range 256).all fun i => !inB (UInt8.ofNat i) || decide (32 ≤ i)) = true := by kernel_rfl
theorem inB_32 {b : UInt8} (h : inB b = true) : 32 ≤ b.toNat := by
  have := List.all_eq_true.1 in_32 b.toNat (List.mem_range.2 b.toNat_lt)
  simp at this
  rcases this with hh | hh
  · rw [h] at hh; cases hh
  · exact hh
theorem sch_32 {p : List UInt8} (h : p = httpL ∨ p = httpsL ∨ p = ftpL ∨ p = fileL) : ∀ b ∈ p, 32 ≤ b.toNat := by
  rcases h with rfl | rfl | rfl | rfl <;> decide
theorem addr_32 {a : List UInt8} (h : addrN a = a.length) (hne : a ≠ []) : ∀ b ∈ a, 32 ≤ b.toNat := by
  have key : ∀ (p u : List UInt8), a = p ++ u → schN a = p.length → (p = httpL ∨ p = httpsL ∨ p = ftpL ∨ p = fileL) → ∀ b ∈ a, 32 ≤ b.toNat := by
    intro p u he hs hp b hb
    have hlen : 0 < a.length := List.length_pos_iff.2 hne
    have hd : a.drop (schN a) = u := by rw [hs, he, List.drop_left]
    unfold addrN at h
    rw [hd] at h
    split at h
    · omega
    · split at h
      · omega
      · have h1 : tailN (u.takeWhile inB) ≤ (u.takeWhile inB).length := trimK_le _ _
        have h2 := takeWhile_le inB u
        have h3 : a.length = p.length + u.length := by rw [he, List.length_append]
        have hk : u.length ≤ (u.takeWhile inB).length := by omega
        rw [he] at hb
        rcases List.mem_append.1 hb with hb | hb
        · exact sch_32 hp b hb
        · refine inB_32 (take_in hk b ?_)
          rw [List.take_length]
          exact hb
  rcases schN_cases a with ⟨u, he, hs⟩ | ⟨u, he, hs⟩ | ⟨u, he, hs⟩ | ⟨u, he, hs⟩ | h0
  · exact key _ u he hs (.inl rfl)
  · exact key _ u he hs (.inr (.inl rfl))
  · exact key _ u he hs (.inr (.inr (.inl rfl)))
  · exact key _ u he hs (.inr (.inr (.inr rfl)))
  · rw [addr_none h0] at h
    exact absurd (List.eq_nil_of_length_eq_zero h.symm) hne
theorem cut_addr {l : List UInt8} {m : Nat × Nat} (h : m ∈ spotsL l) : addrN (cutL l m) = (cutL l m).length ∧ cutL l m ≠ [] := find_addr (List.mem_map_of_mem h)
theorem lk_pat {ls : List Ln} {first : Int} {x : Lk} (h : x ∈ allK ls first) (hs : x.a.size ≤ 200) : patOk x.a = true := by
  obtain ⟨seg, hseg, m, hm, rfl, h1, h2⟩ := lk_mem h
  have hc := cut_addr hm
  have ha : (lkOf seg m).a = strL (cutL (seg.map Bp.b) m) := rfl
  rw [ha] at hs ⊢
  have hp := List.length_pos_iff.2 hc.2
  unfold patOk
  rw [decide_eq_true hs, decide_eq_true (show 1 ≤ (strL (cutL (seg.map Bp.b) m)).size by rw [strL_size]; omega)]
  show patB _ = true
  unfold patB
  rw [strL_list, List.all_eq_true]
  exact fun b hb => decide_eq_true (addr_32 hc.1 hc.2 b hb)
theorem low_id (l : List UInt8) : l.map (low false) = l := by
  have : low false = id := by funext b; rfl
  rw [this, List.map_id]
/-- Layer 42 finds each address. -/
theorem lk_found {ls : List Ln} {first : Int} {x : Lk} (h : x ∈ allK ls first) : 1 ≤ (allM ls first x.a.data.toList false).length := by
  obtain ⟨seg, hseg, m, hm, rfl, h1, h2⟩ := lk_mem h
  have hc := cut_addr hm
  have ha : (lkOf seg m).a.data.toList = cutL (seg.map Bp.b) m := rfl
  rw [ha]
  unfold allM
  rw [low_id]
  have hh : hits (cutL (seg.map Bp.b) m) 0 0 (seg.map Bp.b) ≠ [] := by
    rw [hits_ne hc.2]
    refine ⟨m.1, by rw [List.length_map]; omega, ?_⟩
    rw [List.isPrefixOf_iff_prefix]
    exact List.take_prefix _ _
  have hl : lowB false seg = seg.map Bp.b := by unfold lowB; rfl
  have hm2 : matchS (cutL (seg.map Bp.b) m) false seg ≠ [] := by
    unfold matchS
    rw [hl]
    simpa using hh
  obtain ⟨y, ys, hy⟩ := List.exists_cons_of_ne_nil hm2
  have : y ∈ (segs first [] ls).flatMap (matchS (cutL (seg.map Bp.b) m) false) := List.mem_flatMap.2 ⟨seg, hseg, by rw [hy]; exact List.mem_cons_self⟩
  exact List.length_pos_iff.2 (fun e => by rw [e] at this; cases this)
theorem finds_one {s x : ByteArray} (hs : s.size ≤ 10000000) (h : findS s.data.toList = [x]) (w : World) : Calls Tryd.prog 25 #[.string s, .slice (some ⟨w.heap.size, 0, none⟩) 1 1] (w.alloc (.cells #[.string x] 9)) fun e w' => e = .returned (.bool true) ∧ Sees w w' := by
  refine (finds_true s hs _ (fun _ => True) _ ?_).mono (fun e w' hh => ⟨hh.1, ((Sees.refl w).alloc _).trans hh.2⟩)
  rw [h]
  exact rd_block (E := sEl) (heap_alloc_new w _) (relIn_one (E := sEl) (s_rel _ _ x)) trivial rfl
theorem str_app (a b : ByteArray) : (a ++ b).data.toList = a.data.toList ++ b.data.toList := by
  rw [ByteArray.data_append, Array.toList_append]
theorem own_find {l : List UInt8} {x : ByteArray} (h : x ∈ findS l) : findS x.data.toList = [x] ∧ findS ((⟨#[97, 32]⟩ ++ x) ++ (⟨#[32, 98]⟩ : ByteArray)).data.toList = [x] := by
  unfold findS at h
  obtain ⟨a, ha, rfl⟩ := List.mem_map.1 h
  have hc := find_addr ha
  rw [strL_list]
  refine ⟨by unfold findS; rw [find_alone hc.1 hc.2]; rfl, ?_⟩
  rw [str_app, str_app, strL_list, List.append_assoc]
  unfold findS
  rw [show (⟨#[97, 32]⟩ : ByteArray).data.toList = [97, 32] from rfl, show (⟨#[32, 98]⟩ : ByteArray).data.toList = [32, 98] from rfl, find_between hc.1 hc.2]
  rfl
theorem pair_lk {ks : List Lk} {R : Lk → Lk → Prop} (h : ks.Pairwise R) {i : Nat} {x y : Lk} (hx : ks[i]? = some x) (hy : ks[i + 1]? = some y) : R x y := by
  have h1 := List.getElem?_eq_some_iff.1 hx
  have h2 := List.getElem?_eq_some_iff.1 hy
  have := List.pairwise_iff_getElem.1 h i (i + 1) h1.1 h2.1 (by omega)
  rwa [h1.2, h2.2] at this
theorem find_size {l : List UInt8} {x : ByteArray} (h : x ∈ findS l) : x.size ≤ l.length := by
  unfold findS findL at h
  obtain ⟨a, ha, rfl⟩ := List.mem_map.1 h
  obtain ⟨m, hm, rfl⟩ := List.mem_map.1 ha
  rw [strL_size]
  unfold cutL
  rw [List.length_take, List.length_drop]
  omega
theorem le_sum : ∀ {L : List Nat} {x : Nat}, x ∈ L → x ≤ L.sum
  | y :: L, x, h => by
    rw [List.sum_cons]
    rcases List.mem_cons.1 h with rfl | h
    · omega
    · have := le_sum h; omega
theorem lk_size {ls : List Ln} {first : Int} {x : Lk} {k : Nat} (hk : ∀ y ∈ ls, y.cells.length ≤ k) (h : x ∈ allK ls first) : x.a.size ≤ ls.length * (k * 16) := by
  obtain ⟨seg, hseg, m, hm, rfl, h1, h2⟩ := lk_mem h
  have h3 := segs_total (n := first) (acc := []) hk
  have h4 : seg.length ≤ ((segs first [] ls).map List.length).sum := le_sum (List.mem_map_of_mem hseg)
  have ha : (lkOf seg m).a = strL (cutL (seg.map Bp.b) m) := rfl
  rw [ha, strL_size]
  unfold cutL
  rw [List.length_take, List.length_drop, List.length_map]
  simp only [List.length_nil, Nat.zero_add] at h3
  omega
set_option maxHeartbeats 4000000 in
set_option maxRecDepth 1000000 in
theorem linksHolds_any (s : ByteArray) (v : Value) (ls : List Ln) (first : Int) (w : World) (hst : Std w) (ht : Tabs w) (ha : lnEl.Rd (fun b => b < w.heap.size) w v ls) :
    Calls Tryd.prog 8 #[.string s, v, .int .i64 first] w fun e w' => e = .returned (.bool true) ∧ Sees w w' := by
  obtain ⟨a, n, cp, rfl⟩ : ∃ a n cp, v = .slice a n cp := by obtain ⟨a, c, rfl⟩ := ha.slice; exact ⟨_, _, _, rfl⟩
  have KN := Lib.hid (fun W (hs : Sees w W) => lknown_any W (hst.sees hs) (ht.sees hs))
  have HA := Lib.hid ha
  have HT := Lib.hid ht
  have HST := Lib.hid hst
  have HN : Hid (n = ls.length) := ha.len
  have KSm := Lib.hid (lsmall_any _ _ ls w ha)
  obtain ⟨B, hB⟩ : ∃ B, B = smallK ls := ⟨_, rfl⟩
  rw [← hB] at KSm
  have HB := Lib.hid hB
  clear ha hst ht hB
  go_enter Tryd.func8, Tryd.ntmps8
  by_cases hbig : 200 < s.size
  · have h1 : decide ((s.size : Int) > 200) = true := decide_eq_true (by omega)
    go_wp2_with fail
    refine (KN.out _ (Sees.refl w)).mono ?_
    rintro e W1 ⟨rfl, s1⟩
    go_wp2
    go_ret
    exact ⟨rfl, s1⟩
  have h1 : decide ((s.size : Int) > 200) = false := decide_eq_false (by omega)
  cases B
  · go_wp2_with fail
    refine KSm.out.mono ?_
    rintro e W1 ⟨rfl, s1⟩
    have HS1 := Lib.hid s1
    clear s1
    go_wp2_with fail
    refine (KN.out _ HS1.out).mono ?_
    rintro e W2 ⟨rfl, s2⟩
    go_wp2
    go_ret
    exact ⟨rfl, HS1.out.trans s2⟩
  obtain ⟨hl1, hcell⟩ := smallK_ways HB.out.symm
  have HC := Lib.hid hcell
  have HL := Lib.hid hl1
  have hn10 : n ≤ 10 := by have := HN.out; omega
  obtain ⟨X, hX⟩ : ∃ X, X = findS s.data.toList := ⟨_, rfl⟩
  obtain ⟨m, hm⟩ : ∃ m, m = X.length := ⟨_, rfl⟩
  have hml : m ≤ 200 := by
    have := spots_len s.data.toList false 0 0
    rw [hm, hX, findS_len]
    unfold spotsL
    rw [← Lib.size_eq] at this
    omega
  have HOW : Hid (∀ x ∈ X, findS x.data.toList = [x] ∧ findS ((⟨#[97, 32]⟩ ++ x) ++ (⟨#[32, 98]⟩ : ByteArray)).data.toList = [x] ∧ x.size ≤ 200) := fun x hx => by
    rw [hX] at hx
    have := find_size hx
    rw [← Lib.size_eq] at this
    exact ⟨(own_find hx).1, (own_find hx).2, by omega⟩
  have KF := Lib.hid (fun W => find_any s (by omega) W)
  rw [← hX] at KF
  have HXL := Lib.hid hm
  clear hX hm hl1 hcell
  go_wp2_with fail
  refine KSm.out.mono ?_
  rintro e W1 ⟨rfl, s1⟩
  have HS1 := Lib.hid s1
  clear s1 KSm
  go_wp2_with fail
  refine (KF.out _).mono ?_
  rintro e W2 ⟨vx, rfl, ho, s2⟩
  obtain ⟨ax, cx, rfl, _⟩ := ho.slice
  rw [← HXL.out] at ho
  rw [← HXL.out]
  have HX := Lib.hid ho.rd
  have HS2 := Lib.hid (HS1.out.trans s2)
  clear s2 ho HS1 KF
  go_wp2_with fail
  go_loopw [8] (fun ii W => ∃ i : Nat, i ≤ m ∧ ii = .int .i64 i ∧ Sees W2 W) (fun ii _ => m - (intOf ii).toNat)
  case atStart => exact ⟨0, Nat.zero_le _, rfl, Sees.refl _⟩
  case round =>
    obtain ⟨i, hi, rfl, hS⟩ := hrel
    have HSi := Lib.hid hS
    clear hS
    by_cases him : i < m
    · go_upto_region 7 with fail
      refine wpH_go (fun _ => False) 26 (by kernel_rfl) (by kernel_rfl) (by rfl) (fun hB w9 hs9 => ?_)
      have HX9 := Lib.hid (HX.out.sees (HSi.out.trans hs9))
      have S9 := Lib.hid (HSi.out.trans hs9)
      clear hs9
      have hS0 : Keeps (fun _ => False) w9 w9 := Keeps.refl _ w9
      obtain ⟨b3, o3, x, rfl, hx, c0⟩ := str_cell HX9.out him
      obtain ⟨p1, p2, p3⟩ := HOW.out x (List.mem_iff_getElem?.2 ⟨_, hx⟩)
      have K1 := Lib.hid (fun W => finds_one (by omega) p1 W)
      obtain ⟨A1, hA1⟩ : ∃ A1 : ByteArray, A1 = ⟨#[97, 32]⟩ ++ x := ⟨_, rfl⟩
      obtain ⟨A2, hA2⟩ : ∃ A2 : ByteArray, A2 = A1 ++ (⟨#[32, 98]⟩ : ByteArray) := ⟨_, rfl⟩
      have hs1 : A1.size = 2 + x.size := by rw [hA1, ByteArray.size_append]; rfl
      have hs2 : A2.size = A1.size + 2 := by rw [hA2, ByteArray.size_append]; rfl
      have K2 := Lib.hid (fun W => finds_one (s := A2) (x := x) (by omega) (by rw [hA2, hA1]; exact p2) W)
      have e1 : (⟨#[97, 32]⟩ : ByteArray) ++ x = A1 := hA1.symm
      have e2 : A1 ++ (⟨#[32, 98]⟩ : ByteArray) = A2 := hA2.symm
      have z1 : 2 + x.size ≤ 9223372036854775807 := by omega
      have z2 : A1.size ≤ 9223372036854775805 := by omega
      have C0 := Lib.hid c0
      clear c0 hx p1 p2 hA1 hA2 hs1 hs2
      refine wpH_take (i := 0) (v := .slice (some ⟨b3, o3, none⟩) m cx) hB (by rfl) (by kernel_rfl) (fun _ _ _ _ _ h => h) (by rfl) hS0 (fun W hI => by clear hI; go_simp) ?_; (try simp only [Act.put, List.setIfInBounds_toArray, List.set_cons_zero, List.set_cons_succ])
      refine wpH_take (i := 1) (v := .int .i64 i) hB (by rfl) (by kernel_rfl) (fun _ _ _ _ _ h => h) (by rfl) hS0 (fun W hI => by clear hI; go_simp) ?_; (try simp only [Act.put, List.setIfInBounds_toArray, List.set_cons_zero, List.set_cons_succ])
      refine wpH_take (i := 2) (v := .pointer (some ⟨b3, o3 + i, none⟩)) hB (by rfl) (by kernel_rfl) (fun _ _ _ _ _ h => h) (by rfl) hS0 (fun W hI => by clear hI; go_simp) ?_; (try simp only [Act.put, List.setIfInBounds_toArray, List.set_cons_zero, List.set_cons_succ])
      refine wpH_take (i := 3) (v := .string x) hB (by rfl) (by kernel_rfl) (fun _ _ _ _ _ h => h) (by rfl) hS0 (fun W hI => by have q1 := hI.cell (fun h => h) C0.out; go_simp) ?_; (try simp only [Act.put, List.setIfInBounds_toArray, List.set_cons_zero, List.set_cons_succ])
      refine wpH_take (i := 4) (v := .slice (some ⟨b3, o3, none⟩) m cx) hB (by rfl) (by kernel_rfl) (fun _ _ _ _ _ h => h) (by rfl) hS0 (fun W hI => by clear hI; go_simp) ?_; (try simp only [Act.put, List.setIfInBounds_toArray, List.set_cons_zero, List.set_cons_succ])
      refine wpH_take (i := 5) (v := .int .i64 i) hB (by rfl) (by kernel_rfl) (fun _ _ _ _ _ h => h) (by rfl) hS0 (fun W hI => by clear hI; go_simp) ?_; (try simp only [Act.put, List.setIfInBounds_toArray, List.set_cons_zero, List.set_cons_succ])
      refine wpH_take (i := 6) (v := .pointer (some ⟨b3, o3 + i, none⟩)) hB (by rfl) (by kernel_rfl) (fun _ _ _ _ _ h => h) (by rfl) hS0 (fun W hI => by clear hI; go_simp) ?_; (try simp only [Act.put, List.setIfInBounds_toArray, List.set_cons_zero, List.set_cons_succ])
      refine wpH_take (i := 7) (v := .string x) hB (by rfl) (by kernel_rfl) (fun _ _ _ _ _ h => h) (by rfl) hS0 (fun W hI => by have q1 := hI.cell (fun h => h) C0.out; go_simp) ?_; (try simp only [Act.put, List.setIfInBounds_toArray, List.set_cons_zero, List.set_cons_succ])
      refine wpH_one (i := 8) (by kernel_rfl) (wpOp_val (v := .slice (some ⟨w9.heap.size, 0, none⟩) 1 1) (w' := w9.alloc (.cells #[.string x] 9)) (by rfl) (wanted_none (by rfl) _) (by go_simp) ⟨hS0.trans (Keeps.of_sees ((Sees.refl _).alloc _)), ?_⟩)
      (try simp only [Act.put, List.setIfInBounds_toArray, List.set_cons_zero, List.set_cons_succ])
      refine wpH_one (i := 9) (by kernel_rfl) (wpOp_enter (fn := 25) (args := #[.string x, .slice (some ⟨w9.heap.size, 0, none⟩) 1 1]) (by rfl) (by rfl) (by go_simp) ((K1.out w9).mono ?_))
      rintro ee w11 ⟨rfl, hs⟩
      have hS1 := hS0.trans (Keeps.of_sees hs)
      refine ⟨_, rfl, hS1, ?_⟩
      (try simp only [Act.put, List.setIfInBounds_toArray, List.set_cons_zero, List.set_cons_succ])
      have S11 := Lib.hid (S9.out.trans hs)
      clear hs hS0
      have hS0 := hS1
      clear hS1
      refine wpH_take (i := 10) (v := .bool false) hB (by rfl) (by kernel_rfl) (fun _ _ _ _ _ h => h) (by rfl) hS0 (fun W hI => by clear hI; go_simp) ?_; (try simp only [Act.put, List.setIfInBounds_toArray, List.set_cons_zero, List.set_cons_succ])
      refine wpH_take (i := 11) (v := .bool false) hB (by rfl) (by kernel_rfl) (fun _ _ _ _ _ h => h) (by rfl) hS0 (fun W hI => by clear hI; go_simp) ?_; (try simp only [Act.put, List.setIfInBounds_toArray, List.set_cons_zero, List.set_cons_succ])
      refine wpH_takeG (i := 12) (v := .slice (some ⟨b3, o3, none⟩) m cx) hB (by rfl) (by kernel_rfl) (fun _ _ _ _ _ h => h) (by go_simp) hS0 (fun W hI => by clear hI; go_simp) ?_; (try simp only [Act.put, List.setIfInBounds_toArray, List.set_cons_zero, List.set_cons_succ])
      refine wpH_takeG (i := 13) (v := .int .i64 i) hB (by rfl) (by kernel_rfl) (fun _ _ _ _ _ h => h) (by go_simp) hS0 (fun W hI => by clear hI; go_simp) ?_; (try simp only [Act.put, List.setIfInBounds_toArray, List.set_cons_zero, List.set_cons_succ])
      refine wpH_takeG (i := 14) (v := .pointer (some ⟨b3, o3 + i, none⟩)) hB (by rfl) (by kernel_rfl) (fun _ _ _ _ _ h => h) (by go_simp) hS0 (fun W hI => by clear hI; go_simp) ?_; (try simp only [Act.put, List.setIfInBounds_toArray, List.set_cons_zero, List.set_cons_succ])
      refine wpH_takeG (i := 15) (v := .string x) hB (by rfl) (by kernel_rfl) (fun _ _ _ _ _ h => h) (by go_simp) hS0 (fun W hI => by have q1 := hI.cell (fun h => h) C0.out; go_simp) ?_; (try simp only [Act.put, List.setIfInBounds_toArray, List.set_cons_zero, List.set_cons_succ])
      refine wpH_takeG (i := 16) (v := .string A1) hB (by rfl) (by kernel_rfl) (fun _ _ _ _ _ h => h) (by go_simp) hS0 (fun W hI => by clear hI; go_simp) ?_; (try simp only [Act.put, List.setIfInBounds_toArray, List.set_cons_zero, List.set_cons_succ])
      refine wpH_takeG (i := 17) (v := .string A2) hB (by rfl) (by kernel_rfl) (fun _ _ _ _ _ h => h) (by go_simp) hS0 (fun W hI => by clear hI; go_simp) ?_; (try simp only [Act.put, List.setIfInBounds_toArray, List.set_cons_zero, List.set_cons_succ])
      refine wpH_takeG (i := 18) (v := .slice (some ⟨b3, o3, none⟩) m cx) hB (by rfl) (by kernel_rfl) (fun _ _ _ _ _ h => h) (by go_simp) hS0 (fun W hI => by clear hI; go_simp) ?_; (try simp only [Act.put, List.setIfInBounds_toArray, List.set_cons_zero, List.set_cons_succ])
      refine wpH_takeG (i := 19) (v := .int .i64 i) hB (by rfl) (by kernel_rfl) (fun _ _ _ _ _ h => h) (by go_simp) hS0 (fun W hI => by clear hI; go_simp) ?_; (try simp only [Act.put, List.setIfInBounds_toArray, List.set_cons_zero, List.set_cons_succ])
      refine wpH_takeG (i := 20) (v := .pointer (some ⟨b3, o3 + i, none⟩)) hB (by rfl) (by kernel_rfl) (fun _ _ _ _ _ h => h) (by go_simp) hS0 (fun W hI => by clear hI; go_simp) ?_; (try simp only [Act.put, List.setIfInBounds_toArray, List.set_cons_zero, List.set_cons_succ])
      refine wpH_takeG (i := 21) (v := .string x) hB (by rfl) (by kernel_rfl) (fun _ _ _ _ _ h => h) (by go_simp) hS0 (fun W hI => by have q1 := hI.cell (fun h => h) C0.out; go_simp) ?_; (try simp only [Act.put, List.setIfInBounds_toArray, List.set_cons_zero, List.set_cons_succ])
      refine wpH_one (i := 22) (by kernel_rfl) (wpOp_val (v := .slice (some ⟨w11.heap.size, 0, none⟩) 1 1) (w' := w11.alloc (.cells #[.string x] 9)) (by rfl) (by go_simp) (by go_simp) ⟨hS0.trans (Keeps.of_sees ((Sees.refl _).alloc _)), ?_⟩)
      (try simp only [Act.put, List.setIfInBounds_toArray, List.set_cons_zero, List.set_cons_succ])
      refine wpH_one (i := 23) (by kernel_rfl) (wpOp_enterG (fn := 25) (args := #[.string A2, .slice (some ⟨w11.heap.size, 0, none⟩) 1 1]) (by rfl) (by go_simp) (by go_simp) ((K2.out w11).mono ?_))
      rintro ee w12 ⟨rfl, hs⟩
      have hS1 := hS0.trans (Keeps.of_sees hs)
      refine ⟨_, rfl, hS1, ?_⟩
      (try simp only [Act.put, List.setIfInBounds_toArray, List.set_cons_zero, List.set_cons_succ])
      have S12 := Lib.hid (S11.out.trans hs)
      clear hs hS0
      have hS0 := hS1
      clear hS1
      refine wpH_takeG (i := 24) (v := .bool false) hB (by rfl) (by kernel_rfl) (fun _ _ _ _ _ h => h) (by go_simp) hS0 (fun W hI => by clear hI; go_simp) ?_; (try simp only [Act.put, List.setIfInBounds_toArray, List.set_cons_zero, List.set_cons_succ])
      refine wpH_take (i := 25) (v := .bool false) hB (by rfl) (by kernel_rfl) (fun _ _ _ _ _ h => h) (by rfl) hS0 (fun W hI => by clear hI; go_simp) ?_; (try simp only [Act.put, List.setIfInBounds_toArray, List.set_cons_zero, List.set_cons_succ])
      refine wpH_end (by kernel_rfl) ?_
      clear hS0 hB
      go_wp2
      exact ⟨⟨i + 1, by omega, by go_num, S12.out⟩, by simp [intOf]; omega⟩
    · obtain rfl : i = m := by omega
      have HS3 := Lib.hid (HS2.out.trans HSi.out)
      clear HX HOW HSi
      rcases ofE_ways ls first with hof | hof
      · have HOF := Lib.hid hof
        obtain ⟨hro, hlen⟩ := ofE_zero hof
        obtain ⟨hrow, f0, f1⟩ := rowsOk_ok hro
        have hval : ∀ x ∈ ls, ∀ c ∈ x.cells, c.valid = true := fun x hx c hc => lk_valid (hrow x hx).2.1 hc
        have hval := Lib.hid hval
        obtain ⟨ks, hks⟩ : ∃ ks, ks = allK ls first := ⟨_, rfl⟩
        obtain ⟨N, hN⟩ : ∃ N, N = ks.length := ⟨_, rfl⟩
        have hN2 : N ≤ 6400 := by
          have h1 := allK_few (m := 40) first HC.out
          have h2 : ls.length * (40 * 16) ≤ 10 * (40 * 16) := Nat.mul_le_mul_right _ HL.out
          rw [hN, hks]
          omega
        have HTK : Hid ((allK ls first).take 10000 = ks) := by unfold RowKit.Hid; rw [← hks, List.take_of_length_le (by omega)]
        have HGAP : Hid (ks.Pairwise lkLt) := by unfold RowKit.Hid; rw [hks]; exact allK_gap first hval.out
        have HSELF : Hid (∀ x ∈ ks, lkSelf x) := fun x hx => allK_self hval.out (by rw [← hks]; exact hx)
        have HNE := Lib.hid hN
        have KCO : Hid (∀ x ∈ ks, ∃ C E : Int, (x.a.size ≤ 200 → 1 ≤ C ∧ E = 0) ∧ ∀ W, Sees w W → Calls Tryd.prog 22 #[.slice a n cp, .int .i64 first, .string x.a, .bool false] W fun e w' => e = .returned (.tuple #[.int .i64 C, .int .i64 E]) ∧ Sees W w') := fun x hx => by
          rw [hks] at hx
          have hlsz := lk_size HC.out hx
          have h2 : ls.length * (40 * 16) ≤ 10 * (40 * 16) := Nat.mul_le_mul_right _ HL.out
          by_cases hsz : x.a.size ≤ 200
          · have hck : ckR ls first x.a = 0 := ckR_ok hro hlen (lk_pat hx hsz)
            have hfew := allM_few (m := 40) HC.out first x.a.data.toList false
            exact ⟨((allM ls first x.a.data.toList false).length : Nat), 0, fun _ => ⟨by have := lk_found hx; omega, rfl⟩, fun W hs => count_ok (HST.out.sees hs) (HT.out.sees hs) (rd_up HA.out hs) false hck _ rfl (by omega)⟩
          · have hp : patOk x.a = false := by unfold patOk; rw [decide_eq_false hsz]; simp
            exact ⟨0, 2, fun h => absurd h hsz, fun W hs => count_err (HT.out.sees hs) (rd_up HA.out hs) (by have := HL.out; omega) (fun y hy => by have := HC.out y hy; omega) (by omega) false (ckR_pat hp)⟩
        have KAL := Lib.hid (fun W (hs : Sees w W) => lall_ok (HST.out.sees hs) (HT.out.sees hs) (rd_up HA.out hs) HOF.out)
        rw [HTK.out] at KAL
        clear hks hN hro hlen hrow hval hof HTK
        go_wp2_with fail
        refine (KAL.out _ HS3.out).mono ?_
        rintro e W4 ⟨vk, rfl, ho, s⟩
        obtain ⟨ak, ck, rfl, _⟩ := ho.slice
        rw [← HNE.out] at ho
        rw [← HNE.out]
        have HO := Lib.hid ho.rd
        have HS4 := Lib.hid (HS3.out.trans s)
        clear s ho HS3 KAL
        go_wp2_with fail
        go_loopw [11] (fun ii W => ∃ i : Nat, i ≤ N ∧ ii = .int .i64 i ∧ Sees W4 W) (fun ii _ => N - (intOf ii).toNat)
        case atStart => exact ⟨0, Nat.zero_le _, rfl, Sees.refl _⟩
        case round =>
          obtain ⟨i, hi, rfl, hS⟩ := hrel
          have HSi := Lib.hid hS
          clear hS
          by_cases hlt : i < N
          · obtain ⟨x, hx⟩ : ∃ x, ks[i]? = some x := ⟨_, List.getElem?_eq_getElem (by have := HNE.out; omega)⟩
            have HXX := Lib.hid hx
            have hself := HSELF.out x (List.mem_iff_getElem?.2 ⟨_, hx⟩)
            obtain ⟨C, E, hCE, hKC⟩ := KCO.out x (List.mem_iff_getElem?.2 ⟨_, hx⟩)
            have HCE := Lib.hid hCE
            have KC := Lib.hid (fun W hs => hKC W (HS4.out.trans hs))
            have HSF := Lib.hid hself
            clear hx hself hCE hKC
            go_upto_region 15 with fail
            go_cut [12, 13] from 81 to 90 (fun v12 v13 wx => ∃ (ga gb : Nat), v12 = .pointer (some ⟨ga, 0, none⟩) ∧ v13 = .pointer (some ⟨gb, 0, none⟩) ∧ PlAt wx ga x.l0 x.c0 ∧ PlAt wx gb x.l1 x.c1 ∧ Sees wr wx)
            case first =>
              refine wpH_go (fun _ => False) 14 (by kernel_rfl) (by kernel_rfl) (by rfl) (fun hB w9 hs9 => ?_)
              have HO9 := Lib.hid (HO.out.sees (HSi.out.trans hs9))
              have S9 := Lib.hid hs9
              clear hs9
              have hS0 : Keeps (fun _ => False) w9 w9 := Keeps.refl _ w9
              obtain ⟨b3, o3, x0, rfl, hx0, c0, c1, c2, c3, c4⟩ := lk_cell HO9.out hlt
              obtain rfl : x0 = x := by have := HXX.out; rw [hx0] at this; exact Option.some.inj this
              have C0 := Lib.hid c0
              have C1 := Lib.hid c1
              have C2 := Lib.hid c2
              have C3 := Lib.hid c3
              clear c0 c1 c2 c3 c4 hx0
              refine wpH_take (i := 0) (v := .slice (some ⟨b3, o3, none⟩) N ck) hB (by rfl) (by kernel_rfl) (fun _ _ _ _ _ h => h) (by rfl) hS0 (fun W hI => by clear hI; go_simp) ?_; (try simp only [Act.put, List.setIfInBounds_toArray, List.set_cons_zero, List.set_cons_succ])
              refine wpH_take (i := 1) (v := .int .i64 i) hB (by rfl) (by kernel_rfl) (fun _ _ _ _ _ h => h) (by rfl) hS0 (fun W hI => by clear hI; go_simp) ?_; (try simp only [Act.put, List.setIfInBounds_toArray, List.set_cons_zero, List.set_cons_succ])
              refine wpH_take (i := 2) (v := .pointer (some ⟨b3, o3 + i * 5, none⟩)) hB (by rfl) (by kernel_rfl) (fun _ _ _ _ _ h => h) (by rfl) hS0 (fun W hI => by clear hI; go_simp) ?_; (try simp only [Act.put, List.setIfInBounds_toArray, List.set_cons_zero, List.set_cons_succ])
              refine wpH_take (i := 3) (v := .pointer (some ⟨b3, o3 + i * 5, none⟩)) hB (by rfl) (by kernel_rfl) (fun _ _ _ _ _ h => h) (by rfl) hS0 (fun W hI => by clear hI; go_simp) ?_; (try simp only [Act.put, List.setIfInBounds_toArray, List.set_cons_zero, List.set_cons_succ])
              refine wpH_take (i := 4) (v := .agg #[.int .i64 x0.l0, .int .i64 x0.c0]) hB (by rfl) (by kernel_rfl) (fun _ _ _ _ _ h => h) (by rfl) hS0 (fun W hI => by have q1 := hI.cell (fun h => h) C0.out; have q2 := hI.cell (fun h => h) C1.out; go_simp) ?_; (try simp only [Act.put, List.setIfInBounds_toArray, List.set_cons_zero, List.set_cons_succ])
              refine wpH_take (i := 5) (v := .slice (some ⟨b3, o3, none⟩) N ck) hB (by rfl) (by kernel_rfl) (fun _ _ _ _ _ h => h) (by rfl) hS0 (fun W hI => by clear hI; go_simp) ?_; (try simp only [Act.put, List.setIfInBounds_toArray, List.set_cons_zero, List.set_cons_succ])
              refine wpH_take (i := 6) (v := .int .i64 i) hB (by rfl) (by kernel_rfl) (fun _ _ _ _ _ h => h) (by rfl) hS0 (fun W hI => by clear hI; go_simp) ?_; (try simp only [Act.put, List.setIfInBounds_toArray, List.set_cons_zero, List.set_cons_succ])
              refine wpH_take (i := 7) (v := .pointer (some ⟨b3, o3 + i * 5, none⟩)) hB (by rfl) (by kernel_rfl) (fun _ _ _ _ _ h => h) (by rfl) hS0 (fun W hI => by clear hI; go_simp) ?_; (try simp only [Act.put, List.setIfInBounds_toArray, List.set_cons_zero, List.set_cons_succ])
              refine wpH_take (i := 8) (v := .pointer (some ⟨b3, o3 + i * 5 + 2, none⟩)) hB (by rfl) (by kernel_rfl) (fun _ _ _ _ _ h => h) (by rfl) hS0 (fun W hI => by clear hI; go_simp) ?_; (try simp only [Act.put, List.setIfInBounds_toArray, List.set_cons_zero, List.set_cons_succ])
              refine wpH_take (i := 9) (v := .agg #[.int .i64 x0.l1, .int .i64 x0.c1]) hB (by rfl) (by kernel_rfl) (fun _ _ _ _ _ h => h) (by rfl) hS0 (fun W hI => by have q1 := hI.cell (fun h => h) C2.out; have q2 := hI.cell (fun h => h) C3.out; go_simp) ?_; (try simp only [Act.put, List.setIfInBounds_toArray, List.set_cons_zero, List.set_cons_succ])
              obtain ⟨wa, hwa⟩ : ∃ wa, wa = w9.alloc (.cells #[.int .i64 0, .int .i64 0] 31) := ⟨_, rfl⟩
              obtain ⟨wb, hwb⟩ : ∃ wb, wb = wa.alloc (.cells #[.int .i64 0, .int .i64 0] 31) := ⟨_, rfl⟩
              have HSA : Hid (wa.heap.size = w9.heap.size + 1) := by unfold RowKit.Hid; rw [hwa, World.size_alloc]
              have E1 : Hid (PlAt wb w9.heap.size 0 0) := by
                have q : PlAt wa w9.heap.size 0 0 := by rw [hwa]; exact heap_alloc_new w9 _
                rw [hwb]
                exact q.sees ((Sees.refl _).alloc _)
              have E2 : Hid (PlAt wb wa.heap.size 0 0) := by rw [hwb]; exact heap_alloc_new wa _
              have KA : Keeps (fun _ => False) w9 wa := by rw [hwa]; exact Keeps.of_sees ((Sees.refl _).alloc _)
              have KB : Keeps (fun _ => False) w9 wb := by rw [hwb]; exact KA.trans (Keeps.of_sees ((Sees.refl _).alloc _))
              have HWA := Lib.hid hwa
              have HWB := Lib.hid hwb
              clear hwa hwb
              refine wpH_two (i := 10) (j := 11) (by kernel_rfl) ?_ ?_
              · refine wpOp_val (v := .pointer (some ⟨w9.heap.size, 0, none⟩)) (w' := wa) (by rfl) (wanted_none (by rfl) _) (by rw [HWA.out]; go_simp) ⟨KA, ?_⟩
                (try simp only [Act.put, List.setIfInBounds_toArray, List.set_cons_zero, List.set_cons_succ])
                refine wpH_one (i := 11) (by kernel_rfl) (wpOp_val (v := .pointer (some ⟨wa.heap.size, 0, none⟩)) (w' := wb) (by rfl) (wanted_none (by rfl) _) (by rw [HWB.out]; go_simp) ⟨KB, ?_⟩)
                (try simp only [Act.put, List.setIfInBounds_toArray, List.set_cons_zero, List.set_cons_succ])
                refine wpH_one (i := 12) (by kernel_rfl) (wpOp_skip (w' := stP wb (w9.heap.size) (x0.l0) (x0.c0)) (by rfl) (wanted_none (by rfl) _) (exec_store (a := .pointer (some ⟨w9.heap.size, 0, none⟩)) (v := .agg #[.int .i64 (x0.l0), .int .i64 (x0.c0)]) rfl (by go_simp) (by go_simp) (run_storePl E1.out (x0.l0) (x0.c0))) ⟨KB.setRow' (by have := HSA.out; omega) _, ?_⟩)
                (try simp only [Act.put, List.setIfInBounds_toArray, List.set_cons_zero, List.set_cons_succ])
                refine wpH_one (i := 13) (by kernel_rfl) (wpOp_skip (w' := stP (stP wb (w9.heap.size) (x0.l0) (x0.c0)) (wa.heap.size) (x0.l1) (x0.c1)) (by rfl) (wanted_none (by rfl) _) (exec_store (a := .pointer (some ⟨wa.heap.size, 0, none⟩)) (v := .agg #[.int .i64 (x0.l1), .int .i64 (x0.c1)]) rfl (by go_simp) (by go_simp) (run_storePl (E2.out.keeps (stP_keeps _ _ _ _) (by have := HSA.out; omega)) (x0.l1) (x0.c1))) ⟨(KB.setRow' (by have := HSA.out; omega) _).setRow' (by have := HSA.out; omega) _, ?_⟩)
                (try simp only [Act.put, List.setIfInBounds_toArray, List.set_cons_zero, List.set_cons_succ])
                refine wpH_end (by kernel_rfl) ?_
                have hk2 : Keeps (fun _ => False) w9 (stP (stP wb (w9.heap.size) (x0.l0) (x0.c0)) (wa.heap.size) (x0.l1) (x0.c1)) := (KB.setRow' (by have := HSA.out; omega) _).setRow' (by have := HSA.out; omega) _
                have HFA : Hid (PlAt (stP (stP wb (w9.heap.size) (x0.l0) (x0.c0)) (wa.heap.size) (x0.l1) (x0.c1)) (w9.heap.size) (x0.l0) (x0.c0)) := (stP_at E1.out (x0.l0) (x0.c0)).keeps (stP_keeps _ _ _ _) (by have := HSA.out; omega)
                have HFB : Hid (PlAt (stP (stP wb (w9.heap.size) (x0.l0) (x0.c0)) (wa.heap.size) (x0.l1) (x0.c1)) (wa.heap.size) (x0.l1) (x0.c1)) := stP_at (E2.out.keeps (stP_keeps _ _ _ _) (by have := HSA.out; omega)) (x0.l1) (x0.c1)
                have HFS : Hid (Sees w9 (stP (stP wb (w9.heap.size) (x0.l0) (x0.c0)) (wa.heap.size) (x0.l1) (x0.c1))) := hk2.sees_end (fun _ _ h => h)
                clear hk2 hS0 hB KA KB
                go_wp2_with fail
                go_meet
                exact ⟨_, _, rfl, rfl, HFA.out, HFB.out, S9.out.trans HFS.out⟩
              · refine wpOp_val (v := .pointer (some ⟨w9.heap.size, 0, none⟩)) (w' := wa) (by rfl) (wanted_none (by rfl) _) (by rw [HWA.out]; go_simp) ⟨KA, ?_⟩
                (try simp only [Act.put, List.setIfInBounds_toArray, List.set_cons_zero, List.set_cons_succ])
                refine wpH_one (i := 10) (by kernel_rfl) (wpOp_val (v := .pointer (some ⟨wa.heap.size, 0, none⟩)) (w' := wb) (by rfl) (wanted_none (by rfl) _) (by rw [HWB.out]; go_simp) ⟨KB, ?_⟩)
                (try simp only [Act.put, List.setIfInBounds_toArray, List.set_cons_zero, List.set_cons_succ])
                refine wpH_one (i := 12) (by kernel_rfl) (wpOp_skip (w' := stP wb (wa.heap.size) (x0.l0) (x0.c0)) (by rfl) (wanted_none (by rfl) _) (exec_store (a := .pointer (some ⟨wa.heap.size, 0, none⟩)) (v := .agg #[.int .i64 (x0.l0), .int .i64 (x0.c0)]) rfl (by go_simp) (by go_simp) (run_storePl E2.out (x0.l0) (x0.c0))) ⟨KB.setRow' (by have := HSA.out; omega) _, ?_⟩)
                (try simp only [Act.put, List.setIfInBounds_toArray, List.set_cons_zero, List.set_cons_succ])
                refine wpH_one (i := 13) (by kernel_rfl) (wpOp_skip (w' := stP (stP wb (wa.heap.size) (x0.l0) (x0.c0)) (w9.heap.size) (x0.l1) (x0.c1)) (by rfl) (wanted_none (by rfl) _) (exec_store (a := .pointer (some ⟨w9.heap.size, 0, none⟩)) (v := .agg #[.int .i64 (x0.l1), .int .i64 (x0.c1)]) rfl (by go_simp) (by go_simp) (run_storePl (E1.out.keeps (stP_keeps _ _ _ _) (by have := HSA.out; omega)) (x0.l1) (x0.c1))) ⟨(KB.setRow' (by have := HSA.out; omega) _).setRow' (by have := HSA.out; omega) _, ?_⟩)
                (try simp only [Act.put, List.setIfInBounds_toArray, List.set_cons_zero, List.set_cons_succ])
                refine wpH_end (by kernel_rfl) ?_
                have hk2 : Keeps (fun _ => False) w9 (stP (stP wb (wa.heap.size) (x0.l0) (x0.c0)) (w9.heap.size) (x0.l1) (x0.c1)) := (KB.setRow' (by have := HSA.out; omega) _).setRow' (by have := HSA.out; omega) _
                have HFA : Hid (PlAt (stP (stP wb (wa.heap.size) (x0.l0) (x0.c0)) (w9.heap.size) (x0.l1) (x0.c1)) (wa.heap.size) (x0.l0) (x0.c0)) := (stP_at E2.out (x0.l0) (x0.c0)).keeps (stP_keeps _ _ _ _) (by have := HSA.out; omega)
                have HFB : Hid (PlAt (stP (stP wb (wa.heap.size) (x0.l0) (x0.c0)) (w9.heap.size) (x0.l1) (x0.c1)) (w9.heap.size) (x0.l1) (x0.c1)) := stP_at (E1.out.keeps (stP_keeps _ _ _ _) (by have := HSA.out; omega)) (x0.l1) (x0.c1)
                have HFS : Hid (Sees w9 (stP (stP wb (wa.heap.size) (x0.l0) (x0.c0)) (w9.heap.size) (x0.l1) (x0.c1))) := hk2.sees_end (fun _ _ h => h)
                clear hk2 hS0 hB KA KB
                go_wp2_with fail
                go_meet
                exact ⟨_, _, rfl, rfl, HFA.out, HFB.out, S9.out.trans HFS.out⟩
            case rest =>
              obtain ⟨ga, gb, rfl, rfl, hga, hgb, hs⟩ := hcut
              have HSp := Lib.hid (HSi.out.trans hs)
              obtain ⟨q0, q1⟩ := hga.cells
              obtain ⟨q2, q3⟩ := hgb.cells
              clear hs hga hgb HSi
              go_upto_region 16 with fail
              go_cut [109] from 91 to 109 (fun v109 wx => v109 = .bool false ∧ wx = wc)
              case first =>
                rcases HSF.out with hlt1 | ⟨heq, hle⟩
                · have g1 : decide (x.l1 < x.l0) = false := decide_eq_false (by omega)
                  have g2 : (x.l1 == x.l0) = false := by rw [beq_eq_false_iff_ne]; omega
                  go_wp2_with fail
                  go_meet
                  exact ⟨rfl, rfl⟩
                · have g1 : decide (x.l1 < x.l0) = false := decide_eq_false (by omega)
                  have g2 : (x.l1 == x.l0) = true := by rw [beq_iff_eq]; omega
                  have g3 : decide (x.c1 < x.c0) = false := decide_eq_false (by omega)
                  go_wp2_with fail
                  go_meet
                  exact ⟨rfl, rfl⟩
              case rest =>
                obtain ⟨rfl, rfl⟩ := hcut
                clear q0 q1 q2 q3
                rcases Nat.eq_zero_or_pos i with hi0 | hi0
                · subst hi0
                  have HSq := HSp
                  obtain ⟨b6, o6, x6, rfl, hx6, c0, c1, c2, c3, c4⟩ := lk_cell (HO.out.sees HSq.out) hlt
                  obtain rfl : x6 = x := by have := HXX.out; rw [hx6] at this; exact Option.some.inj this
                  have C4 := Lib.hid c4
                  clear hx6 c0 c1 c2 c3
                  go_wp2_with fail
                  refine (KC.out _ HSq.out).mono ?_
                  rintro e W9 ⟨rfl, s⟩
                  have HSr := Lib.hid (HSq.out.trans s)
                  have c5 := s.cell C4.out
                  clear s c4 C4
                  rcases Nat.lt_or_ge 200 x6.a.size with hbig | hsm
                  · have k9 : decide ((x6.a.size : Int) ≤ 200) = false := decide_eq_false (by omega)
                    go_wp2
                    exact ⟨⟨1, by omega, by go_num, HSr.out⟩, by simp [intOf]; omega⟩
                  · have k9 : decide ((x6.a.size : Int) ≤ 200) = true := decide_eq_true (by omega)
                    obtain ⟨hC1, rfl⟩ := HCE.out hsm
                    have kC : decide (C < 1) = false := decide_eq_false (by omega)
                    go_wp2
                    exact ⟨⟨1, by omega, by go_num, HSr.out⟩, by simp [intOf]; omega⟩

                · have gi : decide ((i : Int) > 0) = true := decide_eq_true (by omega)
                  obtain ⟨j, rfl⟩ : ∃ j, i = j + 1 := ⟨i - 1, by omega⟩
                  obtain ⟨y, hy⟩ : ∃ y, ks[j]? = some y := ⟨_, List.getElem?_eq_getElem (by have := HNE.out; omega)⟩
                  have HGY := Lib.hid (pair_lk HGAP.out hy HXX.out)
                  have HYY := Lib.hid hy
                  have hjN : j < N := by omega
                  have hwj : IntKind.i64.wrap (j : Int) = (j : Int) := IntWalk.i64_in _ (by omega)
                  have hj0 : (0 : Int) ≤ (j : Int) + 1 := by omega
                  have hj1 : (j : Int) + 1 < (N : Int) := by omega
                  have hj2 : ((j : Int) + 1).toNat = j + 1 := by omega
                  have hj3 : ¬ ((N : Int) ≤ (j : Int) + 1) := by omega
                  clear hy
                  go_upto_region 19 with fail
                  go_cut [14, 15] from 112 to 122 (fun v14 v15 wx => ∃ (ga gb : Nat), v14 = .pointer (some ⟨ga, 0, none⟩) ∧ v15 = .pointer (some ⟨gb, 0, none⟩) ∧ PlAt wx ga y.l1 y.c1 ∧ PlAt wx gb x.l0 x.c0 ∧ Sees W4 wx)
                  case first =>
                    refine wpH_go (fun _ => False) 15 (by kernel_rfl) (by kernel_rfl) (by rfl) (fun hB w9 hs9 => ?_)
                    have HO9 := Lib.hid (HO.out.sees (HSp.out.trans hs9))
                    have S9 := Lib.hid (HSp.out.trans hs9)
                    clear hs9
                    have hS0 : Keeps (fun _ => False) w9 w9 := Keeps.refl _ w9
                    obtain ⟨b3, o3, x0, rfl, hx0, c0, c1, c2, c3, c4⟩ := lk_cell HO9.out hlt
                    obtain rfl : x0 = x := by have := HXX.out; rw [hx0] at this; exact Option.some.inj this
                    obtain ⟨b4, o4, y0, e4, hy0, d0, d1, d2, d3, d4⟩ := lk_cell HO9.out hjN
                    cases e4
                    obtain rfl : y0 = y := by have := HYY.out; rw [hy0] at this; exact Option.some.inj this
                    have C0 := Lib.hid c0
                    have C1 := Lib.hid c1
                    have D2 := Lib.hid d2
                    have D3 := Lib.hid d3
                    clear c0 c1 c2 c3 c4 hx0 d0 d1 d2 d3 d4 hy0
                    refine wpH_take (i := 0) (v := .slice (some ⟨b3, o3, none⟩) N ck) hB (by rfl) (by kernel_rfl) (fun _ _ _ _ _ h => h) (by rfl) hS0 (fun W hI => by clear hI; go_simp) ?_; (try simp only [Act.put, List.setIfInBounds_toArray, List.set_cons_zero, List.set_cons_succ])
                    refine wpH_take (i := 1) (v := .int .i64 ((j : Int) + 1)) hB (by rfl) (by kernel_rfl) (fun _ _ _ _ _ h => h) (by rfl) hS0 (fun W hI => by clear hI; go_simp) ?_; (try simp only [Act.put, List.setIfInBounds_toArray, List.set_cons_zero, List.set_cons_succ])
                    refine wpH_take (i := 2) (v := .int .i64 j) hB (by rfl) (by kernel_rfl) (fun _ _ _ _ _ h => h) (by rfl) hS0 (fun W hI => by clear hI; go_simp) ?_; (try simp only [Act.put, List.setIfInBounds_toArray, List.set_cons_zero, List.set_cons_succ])
                    refine wpH_take (i := 3) (v := .pointer (some ⟨b3, o3 + j * 5, none⟩)) hB (by rfl) (by kernel_rfl) (fun _ _ _ _ _ h => h) (by rfl) hS0 (fun W hI => by clear hI; go_simp) ?_; (try simp only [Act.put, List.setIfInBounds_toArray, List.set_cons_zero, List.set_cons_succ])
                    refine wpH_take (i := 4) (v := .pointer (some ⟨b3, o3 + j * 5 + 2, none⟩)) hB (by rfl) (by kernel_rfl) (fun _ _ _ _ _ h => h) (by rfl) hS0 (fun W hI => by clear hI; go_simp) ?_; (try simp only [Act.put, List.setIfInBounds_toArray, List.set_cons_zero, List.set_cons_succ])
                    refine wpH_take (i := 5) (v := .agg #[.int .i64 y0.l1, .int .i64 y0.c1]) hB (by rfl) (by kernel_rfl) (fun _ _ _ _ _ h => h) (by rfl) hS0 (fun W hI => by have q1 := hI.cell (fun h => h) D2.out; have q2 := hI.cell (fun h => h) D3.out; go_simp) ?_; (try simp only [Act.put, List.setIfInBounds_toArray, List.set_cons_zero, List.set_cons_succ])
                    refine wpH_take (i := 6) (v := .slice (some ⟨b3, o3, none⟩) N ck) hB (by rfl) (by kernel_rfl) (fun _ _ _ _ _ h => h) (by rfl) hS0 (fun W hI => by clear hI; go_simp) ?_; (try simp only [Act.put, List.setIfInBounds_toArray, List.set_cons_zero, List.set_cons_succ])
                    refine wpH_take (i := 7) (v := .int .i64 ((j : Int) + 1)) hB (by rfl) (by kernel_rfl) (fun _ _ _ _ _ h => h) (by rfl) hS0 (fun W hI => by clear hI; go_simp) ?_; (try simp only [Act.put, List.setIfInBounds_toArray, List.set_cons_zero, List.set_cons_succ])
                    refine wpH_take (i := 8) (v := .pointer (some ⟨b3, o3 + (j + 1) * 5, none⟩)) hB (by rfl) (by kernel_rfl) (fun _ _ _ _ _ h => h) (by rfl) hS0 (fun W hI => by clear hI; go_simp) ?_; (try simp only [Act.put, List.setIfInBounds_toArray, List.set_cons_zero, List.set_cons_succ])
                    refine wpH_take (i := 9) (v := .pointer (some ⟨b3, o3 + (j + 1) * 5, none⟩)) hB (by rfl) (by kernel_rfl) (fun _ _ _ _ _ h => h) (by rfl) hS0 (fun W hI => by clear hI; go_simp) ?_; (try simp only [Act.put, List.setIfInBounds_toArray, List.set_cons_zero, List.set_cons_succ])
                    refine wpH_take (i := 10) (v := .agg #[.int .i64 x0.l0, .int .i64 x0.c0]) hB (by rfl) (by kernel_rfl) (fun _ _ _ _ _ h => h) (by rfl) hS0 (fun W hI => by have q1 := hI.cell (fun h => h) C0.out; have q2 := hI.cell (fun h => h) C1.out; go_simp) ?_; (try simp only [Act.put, List.setIfInBounds_toArray, List.set_cons_zero, List.set_cons_succ])
                    obtain ⟨wa, hwa⟩ : ∃ wa, wa = w9.alloc (.cells #[.int .i64 0, .int .i64 0] 31) := ⟨_, rfl⟩
                    obtain ⟨wb, hwb⟩ : ∃ wb, wb = wa.alloc (.cells #[.int .i64 0, .int .i64 0] 31) := ⟨_, rfl⟩
                    have HSA : Hid (wa.heap.size = w9.heap.size + 1) := by unfold RowKit.Hid; rw [hwa, World.size_alloc]
                    have E1 : Hid (PlAt wb w9.heap.size 0 0) := by
                      have q : PlAt wa w9.heap.size 0 0 := by rw [hwa]; exact heap_alloc_new w9 _
                      rw [hwb]
                      exact q.sees ((Sees.refl _).alloc _)
                    have E2 : Hid (PlAt wb wa.heap.size 0 0) := by rw [hwb]; exact heap_alloc_new wa _
                    have KA : Keeps (fun _ => False) w9 wa := by rw [hwa]; exact Keeps.of_sees ((Sees.refl _).alloc _)
                    have KB : Keeps (fun _ => False) w9 wb := by rw [hwb]; exact KA.trans (Keeps.of_sees ((Sees.refl _).alloc _))
                    have HWA := Lib.hid hwa
                    have HWB := Lib.hid hwb
                    clear hwa hwb
                    refine wpH_two (i := 11) (j := 12) (by kernel_rfl) ?_ ?_
                    · refine wpOp_val (v := .pointer (some ⟨w9.heap.size, 0, none⟩)) (w' := wa) (by rfl) (wanted_none (by rfl) _) (by rw [HWA.out]; go_simp) ⟨KA, ?_⟩
                      (try simp only [Act.put, List.setIfInBounds_toArray, List.set_cons_zero, List.set_cons_succ])
                      refine wpH_one (i := 12) (by kernel_rfl) (wpOp_val (v := .pointer (some ⟨wa.heap.size, 0, none⟩)) (w' := wb) (by rfl) (wanted_none (by rfl) _) (by rw [HWB.out]; go_simp) ⟨KB, ?_⟩)
                      (try simp only [Act.put, List.setIfInBounds_toArray, List.set_cons_zero, List.set_cons_succ])
                      refine wpH_one (i := 13) (by kernel_rfl) (wpOp_skip (w' := stP wb (w9.heap.size) (y0.l1) (y0.c1)) (by rfl) (wanted_none (by rfl) _) (exec_store (a := .pointer (some ⟨w9.heap.size, 0, none⟩)) (v := .agg #[.int .i64 (y0.l1), .int .i64 (y0.c1)]) rfl (by go_simp) (by go_simp) (run_storePl E1.out (y0.l1) (y0.c1))) ⟨KB.setRow' (by have := HSA.out; omega) _, ?_⟩)
                      (try simp only [Act.put, List.setIfInBounds_toArray, List.set_cons_zero, List.set_cons_succ])
                      refine wpH_one (i := 14) (by kernel_rfl) (wpOp_skip (w' := stP (stP wb (w9.heap.size) (y0.l1) (y0.c1)) (wa.heap.size) (x0.l0) (x0.c0)) (by rfl) (wanted_none (by rfl) _) (exec_store (a := .pointer (some ⟨wa.heap.size, 0, none⟩)) (v := .agg #[.int .i64 (x0.l0), .int .i64 (x0.c0)]) rfl (by go_simp) (by go_simp) (run_storePl (E2.out.keeps (stP_keeps _ _ _ _) (by have := HSA.out; omega)) (x0.l0) (x0.c0))) ⟨(KB.setRow' (by have := HSA.out; omega) _).setRow' (by have := HSA.out; omega) _, ?_⟩)
                      (try simp only [Act.put, List.setIfInBounds_toArray, List.set_cons_zero, List.set_cons_succ])
                      refine wpH_end (by kernel_rfl) ?_
                      have hk2 : Keeps (fun _ => False) w9 (stP (stP wb (w9.heap.size) (y0.l1) (y0.c1)) (wa.heap.size) (x0.l0) (x0.c0)) := (KB.setRow' (by have := HSA.out; omega) _).setRow' (by have := HSA.out; omega) _
                      have HFA : Hid (PlAt (stP (stP wb (w9.heap.size) (y0.l1) (y0.c1)) (wa.heap.size) (x0.l0) (x0.c0)) (w9.heap.size) (y0.l1) (y0.c1)) := (stP_at E1.out (y0.l1) (y0.c1)).keeps (stP_keeps _ _ _ _) (by have := HSA.out; omega)
                      have HFB : Hid (PlAt (stP (stP wb (w9.heap.size) (y0.l1) (y0.c1)) (wa.heap.size) (x0.l0) (x0.c0)) (wa.heap.size) (x0.l0) (x0.c0)) := stP_at (E2.out.keeps (stP_keeps _ _ _ _) (by have := HSA.out; omega)) (x0.l0) (x0.c0)
                      have HFS : Hid (Sees w9 (stP (stP wb (w9.heap.size) (y0.l1) (y0.c1)) (wa.heap.size) (x0.l0) (x0.c0))) := hk2.sees_end (fun _ _ h => h)
                      clear hk2 hS0 hB KA KB
                      go_wp2_with fail
                      go_meet
                      exact ⟨_, _, rfl, rfl, HFA.out, HFB.out, S9.out.trans HFS.out⟩
                    · refine wpOp_val (v := .pointer (some ⟨w9.heap.size, 0, none⟩)) (w' := wa) (by rfl) (wanted_none (by rfl) _) (by rw [HWA.out]; go_simp) ⟨KA, ?_⟩
                      (try simp only [Act.put, List.setIfInBounds_toArray, List.set_cons_zero, List.set_cons_succ])
                      refine wpH_one (i := 11) (by kernel_rfl) (wpOp_val (v := .pointer (some ⟨wa.heap.size, 0, none⟩)) (w' := wb) (by rfl) (wanted_none (by rfl) _) (by rw [HWB.out]; go_simp) ⟨KB, ?_⟩)
                      (try simp only [Act.put, List.setIfInBounds_toArray, List.set_cons_zero, List.set_cons_succ])
                      refine wpH_one (i := 13) (by kernel_rfl) (wpOp_skip (w' := stP wb (wa.heap.size) (y0.l1) (y0.c1)) (by rfl) (wanted_none (by rfl) _) (exec_store (a := .pointer (some ⟨wa.heap.size, 0, none⟩)) (v := .agg #[.int .i64 (y0.l1), .int .i64 (y0.c1)]) rfl (by go_simp) (by go_simp) (run_storePl E2.out (y0.l1) (y0.c1))) ⟨KB.setRow' (by have := HSA.out; omega) _, ?_⟩)
                      (try simp only [Act.put, List.setIfInBounds_toArray, List.set_cons_zero, List.set_cons_succ])
                      refine wpH_one (i := 14) (by kernel_rfl) (wpOp_skip (w' := stP (stP wb (wa.heap.size) (y0.l1) (y0.c1)) (w9.heap.size) (x0.l0) (x0.c0)) (by rfl) (wanted_none (by rfl) _) (exec_store (a := .pointer (some ⟨w9.heap.size, 0, none⟩)) (v := .agg #[.int .i64 (x0.l0), .int .i64 (x0.c0)]) rfl (by go_simp) (by go_simp) (run_storePl (E1.out.keeps (stP_keeps _ _ _ _) (by have := HSA.out; omega)) (x0.l0) (x0.c0))) ⟨(KB.setRow' (by have := HSA.out; omega) _).setRow' (by have := HSA.out; omega) _, ?_⟩)
                      (try simp only [Act.put, List.setIfInBounds_toArray, List.set_cons_zero, List.set_cons_succ])
                      refine wpH_end (by kernel_rfl) ?_
                      have hk2 : Keeps (fun _ => False) w9 (stP (stP wb (wa.heap.size) (y0.l1) (y0.c1)) (w9.heap.size) (x0.l0) (x0.c0)) := (KB.setRow' (by have := HSA.out; omega) _).setRow' (by have := HSA.out; omega) _
                      have HFA : Hid (PlAt (stP (stP wb (wa.heap.size) (y0.l1) (y0.c1)) (w9.heap.size) (x0.l0) (x0.c0)) (wa.heap.size) (y0.l1) (y0.c1)) := (stP_at E2.out (y0.l1) (y0.c1)).keeps (stP_keeps _ _ _ _) (by have := HSA.out; omega)
                      have HFB : Hid (PlAt (stP (stP wb (wa.heap.size) (y0.l1) (y0.c1)) (w9.heap.size) (x0.l0) (x0.c0)) (w9.heap.size) (x0.l0) (x0.c0)) := stP_at (E1.out.keeps (stP_keeps _ _ _ _) (by have := HSA.out; omega)) (x0.l0) (x0.c0)
                      have HFS : Hid (Sees w9 (stP (stP wb (wa.heap.size) (y0.l1) (y0.c1)) (w9.heap.size) (x0.l0) (x0.c0))) := hk2.sees_end (fun _ _ h => h)
                      clear hk2 hS0 hB KA KB
                      go_wp2_with fail
                      go_meet
                      exact ⟨_, _, rfl, rfl, HFA.out, HFB.out, S9.out.trans HFS.out⟩
                  case rest =>
                    obtain ⟨ga, gb, rfl, rfl, hga, hgb, hs⟩ := hcut
                    have HSq := Lib.hid hs
                    obtain ⟨q0, q1⟩ := hga.cells
                    obtain ⟨q2, q3⟩ := hgb.cells
                    clear hs hga hgb HSp
                    go_upto_region 20 with fail
                    go_cut [141] from 123 to 141 (fun v141 wx => v141 = .bool false ∧ wx = wc)
                    case first =>
                      rcases HGY.out with hlt1 | ⟨heq, hle⟩
                      · have g1 : decide (x.l0 < y.l1) = false := decide_eq_false (by omega)
                        have g2 : (x.l0 == y.l1) = false := by rw [beq_eq_false_iff_ne]; omega
                        go_wp2_with fail
                        go_meet
                        exact ⟨rfl, rfl⟩
                      · have g1 : decide (x.l0 < y.l1) = false := decide_eq_false (by omega)
                        have g2 : (x.l0 == y.l1) = true := by rw [beq_iff_eq]; omega
                        have g3 : decide (x.c0 ≤ y.c1) = false := decide_eq_false (by omega)
                        go_wp2_with fail
                        go_meet
                        exact ⟨rfl, rfl⟩
                    case rest =>
                      obtain ⟨rfl, rfl⟩ := hcut
                      clear q0 q1 q2 q3
                      obtain ⟨b6, o6, x6, rfl, hx6, c0, c1, c2, c3, c4⟩ := lk_cell (HO.out.sees HSq.out) hlt
                      obtain rfl : x6 = x := by have := HXX.out; rw [hx6] at this; exact Option.some.inj this
                      have C4 := Lib.hid c4
                      clear hx6 c0 c1 c2 c3
                      go_wp2_with fail
                      refine (KC.out _ HSq.out).mono ?_
                      rintro e W9 ⟨rfl, s⟩
                      have HSr := Lib.hid (HSq.out.trans s)
                      have c5 := s.cell C4.out
                      clear s c4 C4
                      rcases Nat.lt_or_ge 200 x6.a.size with hbig | hsm
                      · have k9 : decide ((x6.a.size : Int) ≤ 200) = false := decide_eq_false (by omega)
                        go_wp2
                        exact ⟨⟨j + 1 + 1, by omega, by go_num, HSr.out⟩, by simp [intOf]; omega⟩
                      · have k9 : decide ((x6.a.size : Int) ≤ 200) = true := decide_eq_true (by omega)
                        obtain ⟨hC1, rfl⟩ := HCE.out hsm
                        have kC : decide (C < 1) = false := decide_eq_false (by omega)
                        go_wp2
                        exact ⟨⟨j + 1 + 1, by omega, by go_num, HSr.out⟩, by simp [intOf]; omega⟩

          · obtain rfl : i = N := by omega
            have HSe := Lib.hid (HS4.out.trans HSi.out)
            go_wp2_with fail
            refine (KN.out _ HSe.out).mono ?_
            rintro e W8 ⟨rfl, s⟩
            have HS8 := Lib.hid (HSe.out.trans s)
            clear s
            go_wp2
            go_ret
            exact ⟨rfl, HS8.out⟩
      · have KAL := Lib.hid (fun W (hs : Sees w W) => lall_err (HT.out.sees hs) (rd_up HA.out hs) (by have := HL.out; omega) (fun x hx => by have := HC.out x hx; omega) hof)
        clear hof
        go_wp2_with fail
        refine (KAL.out _ HS3.out).mono ?_
        rintro e W4 ⟨rfl, s⟩
        have HS4 := Lib.hid (HS3.out.trans s)
        clear s
        go_wp2_with fail
        refine (KN.out _ HS4.out).mono ?_
        rintro e W5 ⟨rfl, s⟩
        have HS5 := Lib.hid (HS4.out.trans s)
        clear s
        go_wp2
        go_ret
        exact ⟨rfl, HS5.out⟩
end Go.Proofs.YtfdolhppbimbmaaDoor
