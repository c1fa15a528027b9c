/- choose: the spans of a choice in the rows (41): sheet.spans. The tables hold what the program's text lays; the choice's places are in the rows. choose.Spans and choose.Has (41), and the statements' tests of what is returned. The tables hold what the program's text lays. No condition. -/
import Derived.Test.YtooiiefipdjbjaaDoorChR
import Derived.Test.YtooiiefipdjbjaaDoorChO
import Derived.Test.YtooiiefipdjbjaaDoorChJ
namespace Go.Proofs.YtooiiefipdjbjaaDoor
set_option linter.unusedVariables false
set_option linter.unusedSimpArgs false
open Go.RowKit Go.Shelf
attribute [local go_sem] Oper.semAt_some

/-- What lies in memory while spans are made: the sheet, the choice, the first and the last place. -/
structure SpI (w : World) (b2 b3 b5 b6 : Nat) (a : Option Addr) (n cp : Nat) (first kd l0 c0 l1 c1 : Int) (f t : Int × Int) (W : World) : Prop where
  s : Sees w W
  sh : ShAt W b2 a n cp first
  ch : ChAt W b3 kd l0 c0 l1 c1
  pf : PlAt W b5 f.1 f.2
  pt : PlAt W b6 t.1 t.2
section
variable {w W W' : World} {b2 b3 b5 b6 : Nat} {a : Option Addr} {n cp : Nat} {first kd l0 c0 l1 c1 : Int} {f t : Int × Int}
theorem ShAt.keeps {F : Nat → Prop} {b : Nat} (h : ShAt W b a n cp first) (hk : Keeps F W W') (hF : ¬ F b) : ShAt W' b a n cp first := by
  unfold ShAt; rw [hk.block _ (Array.getElem?_eq_some_iff.1 h).1 hF]; exact h
theorem ShAt.c {b : Nat} (h : ShAt W b a n cp first) : W.cell? ⟨b, 0, none⟩ = some (.slice a n cp) ∧ W.cell? ⟨b, 1, none⟩ = some (.int .i64 first) := by
  constructor <;> rw [cell_of_row _ _ _ _ _ _ h] <;> rfl
theorem SpI.sees (h : SpI w b2 b3 b5 b6 a n cp first kd l0 c0 l1 c1 f t W) (hs : Sees W W') : SpI w b2 b3 b5 b6 a n cp first kd l0 c0 l1 c1 f t W' := ⟨h.s.trans hs, h.sh.sees hs, h.ch.sees hs, h.pf.sees hs, h.pt.sees hs⟩
theorem SpI.keeps {X : Nat → Prop} (h : SpI w b2 b3 b5 b6 a n cp first kd l0 c0 l1 c1 f t W) (hk : Keeps X W W') (hb : w.heap.size ≤ b2 ∧ b2 < b3 ∧ b3 < b5 ∧ b5 < b6) (hX : ∀ b, X b → b6 < b) : SpI w b2 b3 b5 b6 a n cp first kd l0 c0 l1 c1 f t W' :=
  ⟨((Keeps.of_sees (F := fun _ => False) h.s).trans' hk (fun c hc e => by have := hX c e; omega)).sees_end (fun _ _ h => h), h.sh.keeps hk (fun e => by have := hX _ e; omega), h.ch.keeps hk (fun e => by have := hX _ e; omega), h.pf.keeps hk (fun e => by have := hX _ e; omega), h.pt.keeps hk (fun e => by have := hX _ e; omega)⟩
theorem setP_keeps (W : World) (b : Nat) (l c : Int) : Keeps (fun y => y = b) W (setP W b l c) := Keeps.setCell (F := fun y => y = b) (Keeps.setCell (F := fun y => y = b) (Keeps.refl _ W) (p := ⟨b, 0, none⟩) (fun _ => rfl) _) (p := ⟨b, 1, none⟩) (fun _ => rfl) _
theorem SpI.setF (h : SpI w b2 b3 b5 b6 a n cp first kd l0 c0 l1 c1 f t W) (hb : w.heap.size ≤ b2 ∧ b2 < b3 ∧ b3 < b5 ∧ b5 < b6) (g : Int × Int) : SpI w b2 b3 b5 b6 a n cp first kd l0 c0 l1 c1 g t (setP W b5 g.1 g.2) :=
  ⟨sees_setP h.s (by omega) _ _, h.sh.keeps (setP_keeps W b5 _ _) (fun e => by omega), h.ch.keeps (setP_keeps W b5 _ _) (fun e => by omega), setP_at h.pf _ _, h.pt.keeps (setP_keeps W b5 _ _) (fun e => by omega)⟩
theorem SpI.setT (h : SpI w b2 b3 b5 b6 a n cp first kd l0 c0 l1 c1 f t W) (hb : w.heap.size ≤ b2 ∧ b2 < b3 ∧ b3 < b5 ∧ b5 < b6) (g : Int × Int) : SpI w b2 b3 b5 b6 a n cp first kd l0 c0 l1 c1 f g (setP W b6 g.1 g.2) :=
  ⟨sees_setP h.s (by omega) _ _, h.sh.keeps (setP_keeps W b6 _ _) (fun e => by omega), h.ch.keeps (setP_keeps W b6 _ _) (fun e => by omega), h.pf.keeps (setP_keeps W b6 _ _) (fun e => by omega), setP_at h.pt _ _⟩
theorem pl_cell {W : World} {b : Nat} {l c : Int} (h : PlAt W b l c) (j : Nat) (x : Int) : PlAt (W.setCell ⟨b, j, none⟩ (.int .i64 x)) b (if j = 0 then x else l) (if j = 1 then x else c) ∨ 2 ≤ j := by
  rcases (show j = 0 ∨ j = 1 ∨ 2 ≤ j by omega) with rfl | rfl | h2
  · exact .inl (heap_setCell_same W b 0 _ _ (.int .i64 x) h)
  · exact .inl (heap_setCell_same W b 1 _ _ (.int .i64 x) h)
  · exact .inr h2
theorem pl_set0 {W : World} {b : Nat} {l c : Int} (h : PlAt W b l c) (x : Int) : PlAt (W.setCell ⟨b, 0, none⟩ (.int .i64 x)) b x c := heap_setCell_same W b 0 _ _ (.int .i64 x) h
theorem pl_set1 {W : World} {b : Nat} {l c : Int} (h : PlAt W b l c) (x : Int) : PlAt (W.setCell ⟨b, 1, none⟩ (.int .i64 x)) b l x := heap_setCell_same W b 1 _ _ (.int .i64 x) h
theorem cell_keeps1 (W : World) (b j : Nat) (x : Value) : Keeps (fun y => y = b) W (W.setCell ⟨b, j, none⟩ x) := Keeps.setCell (F := fun y => y = b) (Keeps.refl _ W) (p := ⟨b, j, none⟩) (fun _ => rfl) _
theorem SpI.set5 (h : SpI w b2 b3 b5 b6 a n cp first kd l0 c0 l1 c1 f t W) (hb : w.heap.size ≤ b2 ∧ b2 < b3 ∧ b3 < b5 ∧ b5 < b6) (j : Nat) (x : Int) {g : Int × Int} (hg : PlAt (W.setCell ⟨b5, j, none⟩ (.int .i64 x)) b5 g.1 g.2) : SpI w b2 b3 b5 b6 a n cp first kd l0 c0 l1 c1 g t (W.setCell ⟨b5, j, none⟩ (.int .i64 x)) :=
  ⟨h.s.setCell (p := ⟨b5, j, none⟩) (by show w.heap.size ≤ b5; omega) _, h.sh.keeps (cell_keeps1 W b5 _ _) (fun e => by omega), h.ch.keeps (cell_keeps1 W b5 _ _) (fun e => by omega), hg, h.pt.keeps (cell_keeps1 W b5 _ _) (fun e => by omega)⟩
theorem SpI.set6 (h : SpI w b2 b3 b5 b6 a n cp first kd l0 c0 l1 c1 f t W) (hb : w.heap.size ≤ b2 ∧ b2 < b3 ∧ b3 < b5 ∧ b5 < b6) (j : Nat) (x : Int) {g : Int × Int} (hg : PlAt (W.setCell ⟨b6, j, none⟩ (.int .i64 x)) b6 g.1 g.2) : SpI w b2 b3 b5 b6 a n cp first kd l0 c0 l1 c1 f g (W.setCell ⟨b6, j, none⟩ (.int .i64 x)) :=
  ⟨h.s.setCell (p := ⟨b6, j, none⟩) (by show w.heap.size ≤ b6; omega) _, h.sh.keeps (cell_keeps1 W b6 _ _) (fun e => by omega), h.ch.keeps (cell_keeps1 W b6 _ _) (fun e => by omega), h.pf.keeps (cell_keeps1 W b6 _ _) (fun e => by omega), hg⟩
end
/-- And the spans so far, and the one that is made. -/
structure SpL (w : World) (b2 b3 b5 b6 b10 : Nat) (a : Option Addr) (n cp : Nat) (first kd l0 c0 l1 c1 : Int) (f t : Int × Int) (v : Value) (xs : List Sn) (s : Sn) (W : World) : Prop where
  i : SpI w b2 b3 b5 b6 a n cp first kd l0 c0 l1 c1 f t W
  x : SnAt W b10 s
  o : snEl.Own (fun b => b6 < b ∧ b < b10) W v xs
section
variable {w W W' : World} {b2 b3 b5 b6 b10 : Nat} {a : Option Addr} {n cp : Nat} {first kd l0 c0 l1 c1 : Int} {f t : Int × Int} {v : Value} {xs : List Sn} {s : Sn}
theorem SpL.sees (h : SpL w b2 b3 b5 b6 b10 a n cp first kd l0 c0 l1 c1 f t v xs s W) (hs : Sees W W') : SpL w b2 b3 b5 b6 b10 a n cp first kd l0 c0 l1 c1 f t v xs s W' := ⟨h.i.sees hs, h.x.sees hs, h.o.sees hs⟩
theorem sn_set1 {b : Nat} (h : SnAt W b s) (x : Int) : SnAt (W.setCell ⟨b, 1, none⟩ (.int .i64 x)) b ⟨s.row, x, s.t⟩ := heap_setCell_same W b 1 _ _ (.int .i64 x) h
theorem sn_set2 {b : Nat} (h : SnAt W b s) (x : Int) : SnAt (W.setCell ⟨b, 2, none⟩ (.int .i64 x)) b ⟨s.row, s.f, x⟩ := heap_setCell_same W b 2 _ _ (.int .i64 x) h
theorem SpL.setX (h : SpL w b2 b3 b5 b6 b10 a n cp first kd l0 c0 l1 c1 f t v xs s W) (hb : (w.heap.size ≤ b2 ∧ b2 < b3 ∧ b3 < b5 ∧ b5 < b6) ∧ b6 < b10) (j : Nat) (x : Int) {s' : Sn} (hs : SnAt (W.setCell ⟨b10, j, none⟩ (.int .i64 x)) b10 s') : SpL w b2 b3 b5 b6 b10 a n cp first kd l0 c0 l1 c1 f t v xs s' (W.setCell ⟨b10, j, none⟩ (.int .i64 x)) :=
  ⟨h.i.keeps (cell_keeps1 W b10 _ _) hb.1 (fun b e => by have e2 : b = b10 := e; omega), hs, h.o.keeps (cell_keeps1 W b10 _ _) (fun c hc e => by have e2 : c = b10 := e; omega)⟩
theorem SpL.set1 (h : SpL w b2 b3 b5 b6 b10 a n cp first kd l0 c0 l1 c1 f t v xs s W) (hb : (w.heap.size ≤ b2 ∧ b2 < b3 ∧ b3 < b5 ∧ b5 < b6) ∧ b6 < b10) (x : Int) : SpL w b2 b3 b5 b6 b10 a n cp first kd l0 c0 l1 c1 f t v xs ⟨s.row, x, s.t⟩ (W.setCell ⟨b10, 1, none⟩ (.int .i64 x)) := h.setX hb 1 x (sn_set1 h.x x)
theorem SpL.set2 (h : SpL w b2 b3 b5 b6 b10 a n cp first kd l0 c0 l1 c1 f t v xs s W) (hb : (w.heap.size ≤ b2 ∧ b2 < b3 ∧ b3 < b5 ∧ b5 < b6) ∧ b6 < b10) (x : Int) : SpL w b2 b3 b5 b6 b10 a n cp first kd l0 c0 l1 c1 f t v xs ⟨s.row, s.f, x⟩ (W.setCell ⟨b10, 2, none⟩ (.int .i64 x)) := h.setX hb 2 x (sn_set2 h.x x)
end
theorem cmpI_lt {a b : Int} (h : a < b) : cmpI a b = -1 := by unfold cmpI; rw [if_pos h]
theorem cmpI_self (a : Int) : cmpI a a = 0 := by unfold cmpI; rw [if_neg (by omega), if_neg (by omega)]
theorem cmpI_gt {a b : Int} (h : b < a) : cmpI a b = 1 := by unfold cmpI; rw [if_neg (by omega), if_pos h]
theorem cmpP_pl {ls : List Ln} (hM : 0 < cols ls) (first : Int) (x y : Nat) : cmpP (plI ls first x).1 (plI ls first x).2 (plI ls first y).1 (plI ls first y).2 > 0 ↔ y < x := by
  obtain ⟨r, c, hc, hx, h1, h2⟩ := dm_of x hM
  obtain ⟨q, d, hd, hy, h3, h4⟩ := dm_of y hM
  unfold plI cmpP
  rw [h1, h2, h3, h4]
  simp only []
  have key : r < q → r * cols ls + cols ls ≤ q * cols ls := fun h => by
    have := Nat.mul_le_mul_right (cols ls) (Nat.succ_le_of_lt h)
    rw [Nat.succ_mul] at this; exact this
  have key2 : q < r → q * cols ls + cols ls ≤ r * cols ls := fun h => by
    have := Nat.mul_le_mul_right (cols ls) (Nat.succ_le_of_lt h)
    rw [Nat.succ_mul] at this; exact this
  rcases Nat.lt_trichotomy r q with h | h | h
  · have := key h
    rw [cmpI_lt (show first + (r : Int) < first + (q : Int) by omega), if_pos (by decide)]
    omega
  · subst h
    rw [cmpI_self, if_neg (by decide)]
    rcases Nat.lt_trichotomy c d with h | h | h
    · rw [cmpI_lt (by omega)]; omega
    · subst h; rw [cmpI_self]; omega
    · rw [cmpI_gt (by omega)]; omega
  · have := key2 h
    rw [cmpI_gt (show first + (q : Int) < first + (r : Int) by omega), if_pos (by decide)]
    omega
theorem order_pl {ls : List Ln} (hM : 0 < cols ls) (first : Int) (x y : Nat) (w : World) : Calls Tryd.prog 65 #[plV (plI ls first x), plV (plI ls first y)] w fun e w' => e = .returned (.tuple #[plV (plI ls first (min x y)), plV (plI ls first (max x y))]) ∧ Sees w w' := by
  refine (order_any (plI ls first x).1 (plI ls first x).2 (plI ls first y).1 (plI ls first y).2 w).mono ?_
  rintro e w' ⟨rfl, hs⟩
  refine ⟨?_, hs⟩
  by_cases h : y < x
  · rw [if_pos ((cmpP_pl hM first x y).2 h), show min x y = y by omega, show max x y = x by omega]
  · rw [if_neg (fun h2 => h ((cmpP_pl hM first x y).1 h2)), show min x y = x by omega, show max x y = y by omega]
set_option maxHeartbeats 16000000 in
set_option maxRecDepth 100000 in
theorem spans_any (F : Nat → Prop) (a : Option Addr) (n cp : Nat) (ls : List Ln) (w : World) (first : Int) (h : ShF F w (.slice a n cp) ls first) (kd : Int) (hk1 : 1 ≤ kd) (hk4 : kd ≤ 4) (x y : Nat) (hx : x < ls.length * cols ls) (hy : y < ls.length * cols ls) :
    Calls Tryd.prog 40 #[.agg #[.slice a n cp, .int .i64 first], chV kd (plI ls first x).1 (plI ls first x).2 (plI ls first y).1 (plI ls first y).2] w fun e w' => ∃ v, e = .returned v ∧ snEl.Own (fun b => w.heap.size ≤ b) w' v (spansL ls first kd x y) ∧ Sees w w' := by
  obtain ⟨hM, hA1, hB1, hB2, hAB, hBn⟩ := ch_rows (kd := kd) hx hy
  obtain ⟨hall, hf0, hf1⟩ := rowsOk_ok h.ok
  have HALL := Lib.hid hall
  have hM2 := (h.row hx).2.1
  have hlen := h.len
  have hN : n = ls.length := h.rd.len
  have KO := Lib.hid (fun W => order_pl (ls := ls) hM first x y W)
  have KE1 := Lib.hid (fun W b2 (hs : Sees w W) (hsh : ShAt W b2 a n cp first) => end_s1 (h.sees hs) b2 hsh.c.1 hsh.c.2 (i := min x y) (by omega))
  have KE2 := Lib.hid (fun W b2 (hs : Sees w W) (hsh : ShAt W b2 a n cp first) => end_s2 (h.sees hs) b2 hsh.c.1 hsh.c.2 (i := max x y) (by omega))
  have hrx := dm_row hM (show min x y < ls.length * cols ls by omega)
  have hry := dm_row hM (show max x y < ls.length * cols ls by omega)
  have KL1 := Lib.hid (fun W (hs : Sees w W) => sh_logical F (.slice a n cp) ls W (h.rd.sees hs) (by omega) first hf0 hf1 (min x y / cols ls) hrx _ rfl)
  have KL2 := Lib.hid (fun W (hs : Sees w W) => sh_logical F (.slice a n cp) ls W (h.rd.sees hs) (by omega) first hf0 hf1 (max x y / cols ls) hry _ rfl)
  have H := Lib.hid h
  have hxy : Hid (min (x % cols ls) (y % cols ls) = min (min x y % cols ls) (max x y % cols ls) ∧ max (x % cols ls) (y % cols ls) = max (min x y % cols ls) (max x y % cols ls)) := by
    unfold RowKit.Hid
    rcases Nat.le_total x y with h | h
    · rw [Nat.min_eq_left h, Nat.max_eq_right h]; exact ⟨rfl, rfl⟩
    · rw [Nat.min_eq_right h, Nat.max_eq_left h]; exact ⟨Nat.min_comm _ _, Nat.max_comm _ _⟩
  have hzlt : 0 < ls.length := Nat.lt_of_le_of_lt (Nat.zero_le _) hrx
  have hn0 : 0 < n := by omega
  obtain ⟨Z, hZ⟩ : ∃ Z, Z = spansL ls first kd x y := ⟨_, rfl⟩
  rw [← hZ]
  have HZ0 := Lib.hid hZ
  clear hZ
  obtain ⟨b1, o1, z, a0, m0, rfl, hfb, hz, _, y0, _, _⟩ := h.rd.line (show 0 < n by omega)
  rw [Nat.zero_mul, Nat.add_zero] at y0
  have hcol := cols_of hz
  rw [← hcol] at y0
  have Y0 := Lib.hid y0
  have HN := Lib.hid hN
  have hnB : n ≤ 1000 := by omega
  have HRX := Lib.hid hrx
  have HRY := Lib.hid hry
  clear y0 hz hcol hzlt h hfb hN hlen hrx hry
  go_enter Tryd.func40, Tryd.ntmps40
  go_upto_region 1 with fail
  refine wp_world fun W1 hW1 => ?_
  have p2 : ShAt W1 w.heap.size (some ⟨b1, o1, none⟩) n cp first := by
    subst hW1
    have q : ShAt (w.alloc (.cells #[.slice (some ⟨b1, o1, none⟩) n cp, .int .i64 first] 87)) w.heap.size (some ⟨b1, o1, none⟩) n cp first := heap_alloc_new w _
    exact q.sees ((Sees.refl _).alloc _)
  have p3 : ChAt W1 (w.heap.size + 1) kd (plI ls first x).1 (plI ls first x).2 (plI ls first y).1 (plI ls first y).2 := by
    subst hW1
    have q := heap_alloc_new (w.alloc (.cells #[.slice (some ⟨b1, o1, none⟩) n cp, .int .i64 first] 87)) (.cells #[.int .i64 kd, .int .i64 (plI ls first x).1, .int .i64 (plI ls first x).2, .int .i64 (plI ls first y).1, .int .i64 (plI ls first y).2] 27)
    rw [World.size_alloc] at q
    exact q
  have s1 : Sees w W1 := by subst hW1; exact ((Sees.refl w).alloc _).alloc _
  obtain ⟨b3, hb3⟩ : ∃ b3, b3 = w.heap.size + 1 := ⟨_, rfl⟩
  obtain ⟨b2, hb2⟩ : ∃ b2, b2 = w.heap.size := ⟨_, rfl⟩
  have HB : Hid (w.heap.size ≤ b2 ∧ b2 < b3 ∧ b3 < W1.heap.size) := by have := p3.lt; unfold RowKit.Hid; omega
  rw [← hb3] at p3 ⊢
  rw [← hb2] at p2 ⊢
  have P2 := Lib.hid p2
  have P3 := Lib.hid p3
  have S1 := Lib.hid s1
  clear hW1 p2 p3 s1 hb2 hb3
  obtain ⟨c0, c1, c2, c3, c4⟩ := P3.out.c
  go_wp2_with fail
  refine (KO.out W1).mono ?_
  rintro ee W2 ⟨rfl, s2⟩
  have S2 := Lib.hid (S1.out.trans s2)
  have P22 := Lib.hid (P2.out.sees s2)
  have P32 := Lib.hid (P3.out.sees s2)
  have HZ := Lib.hid s2.size
  clear s2 KO c0 c1 c2 c3 c4
  obtain ⟨fl, fc, hP0⟩ : ∃ fl fc, plI ls first (min x y) = (fl, fc) := ⟨_, _, rfl⟩
  obtain ⟨tl, tc, hP1⟩ : ∃ tl tc, plI ls first (max x y) = (tl, tc) := ⟨_, _, rfl⟩
  rw [hP0] at KE1 ⊢
  rw [hP1] at KE2 ⊢
  have hfl : fl = first + ((min x y / cols ls : Nat) : Int) := by have := congrArg Prod.fst hP0; exact this.symm
  have htl : tl = first + ((max x y / cols ls : Nat) : Int) := by have := congrArg Prod.fst hP1; exact this.symm
  rw [← hfl] at KL1
  rw [← htl] at KL2
  have HP0 := Lib.hid hP0
  have HP1 := Lib.hid hP1
  clear hP0 hP1 hfl htl
  go_upto_region 2 with fail
  refine wp_world fun W3 hW3 => ?_
  have p5 : PlAt W3 W2.heap.size fl fc := by
    subst hW3
    exact PlAt.sees (heap_alloc_new W2 _) ((Sees.refl _).alloc _)
  have p6 : PlAt W3 (W2.heap.size + 1) tl tc := by
    subst hW3
    have q := heap_alloc_new (W2.alloc (.cells #[.int .i64 fl, .int .i64 fc] 25)) (.cells #[.int .i64 tl, .int .i64 tc] 25)
    rw [World.size_alloc] at q
    exact q
  have s3 : Sees W2 W3 := by subst hW3; exact ((Sees.refl _).alloc _).alloc _
  obtain ⟨b6, hb6⟩ : ∃ b6, b6 = W2.heap.size + 1 := ⟨_, rfl⟩
  obtain ⟨b5, hb5⟩ : ∃ b5, b5 = W2.heap.size := ⟨_, rfl⟩
  rw [← hb6] at p6 ⊢
  rw [← hb5] at p5 ⊢
  have hB : w.heap.size ≤ b2 ∧ b2 < b3 ∧ b3 < b5 ∧ b5 < b6 := by have := HZ.out; have := HB.out; omega
  have HI : Hid (SpI w b2 b3 b5 b6 (some ⟨b1, o1, none⟩) n cp first kd (plI ls first x).1 (plI ls first x).2 (plI ls first y).1 (plI ls first y).2 (fl, fc) (tl, tc) W3) := ⟨S2.out.trans s3, P22.out.sees s3, P32.out.sees s3, p5, p6⟩
  have HBB := Lib.hid hB
  have y0 := HI.out.s.cell Y0.out
  obtain ⟨c0, c1⟩ := HI.out.sh.c
  obtain ⟨d0, _⟩ := HI.out.ch.c
  clear hW3 p5 p6 s3 hb6 hb5 hB HB S1 P2 P3 S2 P22 P32 HZ
  have hMw : IntKind.i64.wrap ((cols ls : Int) - 1) = ((cols ls - 1 : Nat) : Int) := by rw [IntWalk.i64_in _ (by omega)]; omega
  obtain ⟨M, hMM⟩ : ∃ M, M = cols ls := ⟨_, rfl⟩
  obtain ⟨M1, hM1⟩ : ∃ M1, M1 = cols ls - 1 := ⟨_, rfl⟩
  rw [← hM1] at hMw
  rw [← hMM] at y0 hMw
  have HMM := Lib.hid hMM
  have HM1 := Lib.hid hM1
  clear hMM hM1
  go_upto_block 0 with fail
  go_cut [] from 29 to 59 (fun wx => SpI w b2 b3 b5 b6 (some ⟨b1, o1, none⟩) n cp first kd (plI ls first x).1 (plI ls first x).2 (plI ls first y).1 (plI ls first y).2 (plI ls first (chA ls kd (min x y))) (plI ls first (chB ls kd (max x y))) wx)
  case first =>
    by_cases hk2 : kd = 2
    · subst hk2
      obtain ⟨e0, e1⟩ := HI.out.pf.cells
      obtain ⟨e2, e3⟩ := HI.out.pt.cells
      have e4 : ∀ i, W3.frozen? ⟨b5, i, none⟩ = false := fun i => frozen_of_row W3 b5 i _ _ HI.out.pf
      go_wp2_with fail
      refine (KE1.out W3 b2 HI.out.s HI.out.sh).mono ?_
      rintro ee W4 ⟨rfl, s4⟩
      have HI4 := Lib.hid (HI.out.sees s4)
      clear s4 c0 c1 d0 e0 e1 e2 e3 e4
      have e4 : ∀ i, W4.frozen? ⟨b5, i, none⟩ = false := fun i => frozen_of_row W4 b5 i _ _ HI4.out.pf
      obtain ⟨e0, e1⟩ := HI4.out.pf.cells
      go_upto_region 6 with fail
      refine wp_world fun W5 hW5 => ?_
      have HI5 : Hid (SpI w b2 b3 b5 b6 (some ⟨b1, o1, none⟩) n cp first 2 (plI ls first x).1 (plI ls first x).2 (plI ls first y).1 (plI ls first y).2 (plI ls first (wA ls (min x y))) (tl, tc) W5) := by rw [hW5]; exact HI4.out.setF HBB.out _
      clear hW5 e4 e0 e1
      obtain ⟨c0, c1⟩ := HI5.out.sh.c
      obtain ⟨e2, e3⟩ := HI5.out.pt.cells
      go_wp2_with fail
      refine (KE2.out W5 b2 HI5.out.s HI5.out.sh).mono ?_
      rintro ee W6 ⟨rfl, s6⟩
      have HI6 := Lib.hid (HI5.out.sees s6)
      clear s6 c0 c1 e2 e3
      have e4 : ∀ i, W6.frozen? ⟨b6, i, none⟩ = false := fun i => frozen_of_row W6 b6 i _ _ HI6.out.pt
      obtain ⟨e0, e1⟩ := HI6.out.pt.cells
      go_wp2
      go_meet
      exact HI6.out.setT HBB.out (plI ls first (wB ls (max x y)))
    by_cases hk3 : kd = 3
    · subst hk3
      obtain ⟨e0, e1⟩ := HI.out.pf.cells
      go_wp2_with fail
      refine (KL1.out W3 HI.out.s).mono ?_
      rintro ee W4 ⟨rfl, s4⟩
      have HI4 := Lib.hid (HI.out.sees s4)
      clear s4 c0 c1 d0 e0 e1
      have e4 : ∀ i, W4.frozen? ⟨b5, i, none⟩ = false := fun i => frozen_of_row W4 b5 i _ _ HI4.out.pf
      obtain ⟨e0, e1⟩ := HI4.out.pf.cells
      go_upto_region 9 with fail
      refine wp_world fun W5 hW5 => ?_
      have HI5 : Hid (SpI w b2 b3 b5 b6 (some ⟨b1, o1, none⟩) n cp first 3 (plI ls first x).1 (plI ls first x).2 (plI ls first y).1 (plI ls first y).2 (first + (topI ls (min x y / cols ls) : Nat), fc) (tl, tc) W5) := by rw [hW5]; exact HI4.out.set5 HBB.out _ _ (pl_set0 HI4.out.pf _)
      clear hW5 e4 e0 e1
      obtain ⟨c0, c1⟩ := HI5.out.sh.c
      obtain ⟨e2, e3⟩ := HI5.out.pt.cells
      go_wp2_with fail
      refine (KL2.out W5 HI5.out.s).mono ?_
      rintro ee W6 ⟨rfl, s6⟩
      have HI6 := Lib.hid (HI5.out.sees s6)
      clear s6 c0 c1 e2 e3
      have e4 : ∀ i, W6.frozen? ⟨b6, i, none⟩ = false := fun i => frozen_of_row W6 b6 i _ _ HI6.out.pt
      obtain ⟨e0, e1⟩ := HI6.out.pt.cells
      go_upto_region 10 with fail
      refine wp_world fun W7 hW7 => ?_
      have HI7 : Hid (SpI w b2 b3 b5 b6 (some ⟨b1, o1, none⟩) n cp first 3 (plI ls first x).1 (plI ls first x).2 (plI ls first y).1 (plI ls first y).2 (first + (topI ls (min x y / cols ls) : Nat), fc) (first + (botI ls (max x y / cols ls) : Nat), tc) W7) := by rw [hW7]; exact HI6.out.set6 HBB.out _ _ (pl_set0 HI6.out.pt _)
      clear hW7 e4 e0 e1
      have HI8 := Lib.hid (HI7.out.set5 HBB.out 1 0 (g := (_, 0)) (pl_set1 HI7.out.pf 0))
      have HI9 := Lib.hid (HI8.out.set6 HBB.out 1 (M1 : Int) (g := (_, (M1 : Int))) (pl_set1 HI8.out.pt _))
      obtain ⟨e0, e1⟩ := HI7.out.pf.cells
      obtain ⟨e2, e3⟩ := HI7.out.pt.cells
      have e4 : ∀ i, W7.frozen? ⟨b5, i, none⟩ = false := fun i => frozen_of_row W7 b5 i _ _ HI7.out.pf
      have e5 : ∀ i, W7.frozen? ⟨b6, i, none⟩ = false := fun i => frozen_of_row W7 b6 i _ _ HI7.out.pt
      have hne : b5 ≠ b6 := by have := HBB.out; omega
      go_wp2
      go_meet
      obtain ⟨g1, g2⟩ := dm (r := topI ls (min x y / cols ls)) hM
      obtain ⟨g3, g4⟩ := dm (r := botI ls (max x y / cols ls)) (show cols ls - 1 < cols ls by omega)
      rw [Nat.add_zero] at g1 g2
      have q1 : plI ls first (chA ls 3 (min x y)) = (first + (topI ls (min x y / cols ls) : Nat), 0) := by
        unfold plI chA
        rw [if_neg (by decide), if_pos rfl, g1, g2]
        rfl
      have q2 : plI ls first (chB ls 3 (max x y)) = (first + (botI ls (max x y / cols ls) : Nat), (M1 : Int)) := by
        unfold plI chB
        rw [if_neg (by decide), if_pos rfl, g3, g4, HM1.out]
      rw [q1, q2]
      exact HI9.out
    · have q1 : (kd == 2) = false := by rw [beq_eq_false_iff_ne]; exact hk2
      have q2 : (kd == 3) = false := by rw [beq_eq_false_iff_ne]; exact hk3
      go_wp2
      go_meet
      have q3 : chA ls kd (min x y) = min x y := by unfold chA; rw [if_neg hk2, if_neg hk3]
      have q4 : chB ls kd (max x y) = max x y := by unfold chB; rw [if_neg hk2, if_neg hk3]
      rw [q3, q4, HP0.out, HP1.out]
      exact HI.out
  case rest =>
    have HIc := Lib.hid hcut
    clear HI hcut c0 c1 d0 y0 KE1 KE2 KL1 KL2
    obtain ⟨A, hA⟩ : ∃ A, A = chA ls kd (min x y) := ⟨_, rfl⟩
    obtain ⟨B, hB⟩ : ∃ B, B = chB ls kd (max x y) := ⟨_, rfl⟩
    have HF : Hid (Z = spTo ls first kd A B (x % cols ls) (y % cols ls) (B / cols ls + 1 - A / cols ls)) := by unfold RowKit.Hid; rw [hA, hB, HZ0.out]; rfl
    rw [← hA, ← hB] at HIc
    rw [← hA, ← hB] at hAB
    rw [← hB] at hBn hB2
    rw [← hA] at hA1
    obtain ⟨al, ac, hP2⟩ : ∃ al ac, plI ls first A = (al, ac) := ⟨_, _, rfl⟩
    obtain ⟨bl, bc, hP3⟩ : ∃ bl bc, plI ls first B = (bl, bc) := ⟨_, _, rfl⟩
    rw [hP2, hP3] at HIc
    have hal : al = first + ((A / cols ls : Nat) : Int) := by have := congrArg Prod.fst hP2; exact this.symm
    have hac : ac = ((A % cols ls : Nat) : Int) := by have := congrArg Prod.snd hP2; exact this.symm
    have hbl : bl = first + ((B / cols ls : Nat) : Int) := by have := congrArg Prod.fst hP3; exact this.symm
    have hbc : bc = ((B % cols ls : Nat) : Int) := by have := congrArg Prod.snd hP3; exact this.symm
    have hcx := Nat.mod_lt x hM
    have hcy := Nat.mod_lt y hM
    have hcA := Nat.mod_lt A hM
    have hcB := Nat.mod_lt B hM
    obtain ⟨top, htop⟩ : ∃ top, top = A / cols ls := ⟨_, rfl⟩
    obtain ⟨bot, hbot⟩ : ∃ bot, bot = B / cols ls := ⟨_, rfl⟩
    rw [← htop] at hal hAB HF
    rw [← hbot] at hbl hAB hBn HF
    have hbnd : 0 ≤ al ∧ al ≤ 1099511628776 ∧ 0 ≤ bl ∧ bl ≤ 1099511628776 ∧ 0 ≤ ac ∧ ac < 1000 ∧ 0 ≤ bc ∧ bc < 1000 := by have := HN.out; omega
    have hblk : Hid (4 = kd → min ac bc = ((min (x % cols ls) (y % cols ls) : Nat) : Int) ∧ max ac bc = ((max (x % cols ls) (y % cols ls) : Nat) : Int)) := fun e => by
      have q1 : A = min x y := by rw [hA, ← e]; rfl
      have q2 : B = max x y := by rw [hB, ← e]; rfl
      rw [hac, hbc, q1, q2, hxy.out.1, hxy.out.2]
      omega
    have HAL := Lib.hid (show al = first + (top : Int) ∧ bl = first + (bot : Int) ∧ ac = ((A % cols ls : Nat) : Int) ∧ bc = ((B % cols ls : Nat) : Int) ∧ top = A / cols ls ∧ bot = B / cols ls from ⟨hal, hbl, hac, hbc, htop, hbot⟩)
    clear hA hB hP2 hP3 hal hac hbl hbc htop hbot HP0 HP1 hxy
    obtain ⟨e0, e1⟩ := HIc.out.pf.cells
    go_wp2
    clear e0 e1
    go_loopw [8, 9] (fun u v W => ∃ (q : Nat) (T : Int), q ≤ bot + 1 - top ∧ v = .int .i64 T ∧ Hid (T = first + ((top + q : Nat) : Int)) ∧ snEl.Own (fun b => b6 < b) W u (spTo ls first kd A B (x % cols ls) (y % cols ls) q) ∧ SpI w b2 b3 b5 b6 (some ⟨b1, o1, none⟩) n cp first kd (plI ls first x).1 (plI ls first x).2 (plI ls first y).1 (plI ls first y).2 (al, ac) (bl, bc) W) (fun _ v _ => (bl + 1 - intOf v).toNat)
    case atStart => exact ⟨0, al, Nat.zero_le _, rfl, HAL.out.1, El.Own.nil _ _, HIc.out⟩
    case round =>
      obtain ⟨q, T, hq, rfl, hT, hO, hI⟩ := hrel
      have HO := Lib.hid hO
      have HI := Lib.hid hI
      have hTT : Hid (T = first + (top : Int) + (q : Int)) := by have := hT.out; unfold RowKit.Hid; omega
      obtain ⟨e2, e3⟩ := hI.pt.cells
      clear hO hI HIc
      by_cases hlt : q < bot + 1 - top
      · have hle : T ≤ bl := by have := hTT.out; have := HAL.out.2.1; omega
        have hTb : 0 ≤ T ∧ T ≤ 1099511628776 := by have := hTT.out; omega
        have hM1w : IntKind.i64.wrap ((M1 : Int) + 1) = (M : Int) := by have := HM1.out; have := HMM.out; rw [IntWalk.i64_in _ (by omega)]; omega
        obtain ⟨au, cu, hu, _⟩ := HO.out.slice
        rw [spTo_len] at hu
        subst hu
        go_upto_region 16 with fail
        refine wp_world fun W4 hW4 => ?_
        have hx4 : SnAt W4 wr.heap.size ⟨T, 0, (M : Int)⟩ := by subst hW4; exact heap_alloc_new wr _
        have s4 : Sees wr W4 := by subst hW4; exact (Sees.refl _).alloc _
        obtain ⟨b10, hb10⟩ : ∃ b10, b10 = wr.heap.size := ⟨_, rfl⟩
        have hb : b6 < b10 := by have := HI.out.pt.lt; omega
        have HL : Hid (SpL w b2 b3 b5 b6 b10 (some ⟨b1, o1, none⟩) n cp first kd (plI ls first x).1 (plI ls first x).2 (plI ls first y).1 (plI ls first y).2 (al, ac) (bl, bc) (.slice au q cu) (spTo ls first kd A B (x % cols ls) (y % cols ls) q) ⟨T, 0, (M : Int)⟩ W4) := ⟨HI.out.sees s4, by rw [hb10]; exact hx4, by rw [hb10]; exact HO.out.cut.sees s4⟩
        have HBX := Lib.hid (show (w.heap.size ≤ b2 ∧ b2 < b3 ∧ b3 < b5 ∧ b5 < b6) ∧ b6 < b10 from ⟨HBB.out, hb⟩)
        rw [← hb10]
        clear hW4 hx4 s4 hb10 hb e2 e3 HI HO
        obtain ⟨r, hr⟩ : ∃ r, r = top + q := ⟨_, rfl⟩
        have hTr : T = first + (r : Int) := by have := hTT.out; omega
        have HTR := Lib.hid hTr
        have HR := Lib.hid hr
        have hrn : r < n := by have := HN.out; omega
        clear hTr
        obtain ⟨C1, hC1⟩ : ∃ C1 : Bool, C1 = ((kd == 4) || (T == al)) := ⟨_, rfl⟩
        obtain ⟨C2, hC2⟩ : ∃ C2 : Bool, C2 = ((kd == 4) || (T == bl)) := ⟨_, rfl⟩
        have HC1 := Lib.hid hC1
        have HC2 := Lib.hid hC2
        clear hC1 hC2 hr
        obtain ⟨d0, _⟩ := HL.out.i.ch.c
        obtain ⟨e0, e1⟩ := HL.out.i.pf.cells
        go_cut [80] from 72 to 80 (fun v80 wx => v80 = .bool C1 ∧ wx = W4)
        case first =>
          rcases Bool.eq_false_or_eq_true (kd == 4) with g | g
          · have hc : C1 = true := by have := HC1.out; rw [this, g]; rfl
            subst hc
            go_wp2
            go_meet
            exact ⟨rfl, rfl⟩
          · rcases Bool.eq_false_or_eq_true (T == al) with g2 | g2
            · have hc : C1 = true := by have := HC1.out; rw [this, g, g2]; rfl
              subst hc
              go_wp2
              go_meet
              exact ⟨rfl, rfl⟩
            · have hc : C1 = false := by have := HC1.out; rw [this, g, g2]; rfl
              subst hc
              go_wp2
              go_meet
              exact ⟨rfl, rfl⟩
        obtain ⟨rfl, hwc⟩ := hcut
        subst hwc
        go_upto_if 80 with fail
        go_cut [] from 81 to 83 (fun wx => SpL w b2 b3 b5 b6 b10 (some ⟨b1, o1, none⟩) n cp first kd (plI ls first x).1 (plI ls first x).2 (plI ls first y).1 (plI ls first y).2 (al, ac) (bl, bc) (.slice au q cu) (spTo ls first kd A B (x % cols ls) (y % cols ls) q) ⟨T, if C1 then ac else 0, (M : Int)⟩ wx)
        case first =>
          cases C1
          · go_wp2
            go_meet
            exact HL.out
          · have e4 : ∀ i, wc.frozen? ⟨b10, i, none⟩ = false := HL.out.x.fr
            obtain ⟨x0, x1, x2⟩ := HL.out.x.c
            go_wp2
            go_meet
            exact HL.out.set1 HBX.out ac
        have HL2 := Lib.hid hcut
        clear hcut HL d0 e0 e1
        obtain ⟨f1, hf1⟩ : ∃ f1 : Int, f1 = if C1 then ac else 0 := ⟨_, rfl⟩
        rw [← hf1] at HL2
        have HF1 := Lib.hid hf1
        have hf1b : 0 ≤ f1 ∧ f1 < 1000 := by rw [hf1]; split <;> omega
        clear hf1
        go_upto_region 18 with fail
        obtain ⟨W5, hW5⟩ : ∃ W5, W5 = wc := ⟨_, rfl⟩
        rw [← hW5] at HL2 ⊢
        clear hW5
        obtain ⟨d0, _⟩ := HL2.out.i.ch.c
        obtain ⟨e0, e1⟩ := HL2.out.i.pt.cells
        go_cut [92] from 84 to 92 (fun v92 wx => v92 = .bool C2 ∧ wx = W5)
        case first =>
          rcases Bool.eq_false_or_eq_true (kd == 4) with g | g
          · have hc : C2 = true := by have := HC2.out; rw [this, g]; rfl
            subst hc
            go_wp2
            go_meet
            exact ⟨rfl, rfl⟩
          · rcases Bool.eq_false_or_eq_true (T == bl) with g2 | g2
            · have hc : C2 = true := by have := HC2.out; rw [this, g, g2]; rfl
              subst hc
              go_wp2
              go_meet
              exact ⟨rfl, rfl⟩
            · have hc : C2 = false := by have := HC2.out; rw [this, g, g2]; rfl
              subst hc
              go_wp2
              go_meet
              exact ⟨rfl, rfl⟩
        obtain ⟨rfl, hwc⟩ := hcut
        subst hwc
        have hbcw : IntKind.i64.wrap (bc + 1) = bc + 1 := IntWalk.i64_in _ (by omega)
        go_upto_if 92 with fail
        go_cut [] from 93 to 96 (fun wx => SpL w b2 b3 b5 b6 b10 (some ⟨b1, o1, none⟩) n cp first kd (plI ls first x).1 (plI ls first x).2 (plI ls first y).1 (plI ls first y).2 (al, ac) (bl, bc) (.slice au q cu) (spTo ls first kd A B (x % cols ls) (y % cols ls) q) ⟨T, f1, if C2 then bc + 1 else (M : Int)⟩ wx)
        case first =>
          cases C2
          · go_wp2
            go_meet
            exact HL2.out
          · have e4 : ∀ i, wc.frozen? ⟨b10, i, none⟩ = false := HL2.out.x.fr
            obtain ⟨x0, x1, x2⟩ := HL2.out.x.c
            go_wp2
            go_meet
            exact HL2.out.set2 HBX.out (bc + 1)
        have HL3 := Lib.hid hcut
        clear hcut HL2 d0 e0 e1 hbcw
        obtain ⟨t1, ht1⟩ : ∃ t1 : Int, t1 = if C2 then bc + 1 else (M : Int) := ⟨_, rfl⟩
        rw [← ht1] at HL3
        have HT1 := Lib.hid ht1
        clear ht1
        go_upto_region 20 with fail
        obtain ⟨W6, hW6⟩ : ∃ W6, W6 = wc := ⟨_, rfl⟩
        rw [← hW6] at HL3 ⊢
        clear hW6
        obtain ⟨d0, _⟩ := HL3.out.i.ch.c
        have HAM := Lib.hid hcA
        have HBM := Lib.hid hcB
        obtain ⟨RF, hRF⟩ : ∃ RF, RF = rawF ls kd A r (x % cols ls) (y % cols ls) := ⟨_, rfl⟩
        obtain ⟨RT, hRT⟩ : ∃ RT, RT = rawT ls kd B r (x % cols ls) (y % cols ls) := ⟨_, rfl⟩
        have hrw := raw_lt (ls := ls) (kd := kd) (a := A) (b := B) (i := r) hM hcx hcy
        rw [← hRF, ← hRT] at hrw
        have HRF := Lib.hid hRF
        have HRT := Lib.hid hRT
        have HNB : Hid (kd ≠ 4 → f1 = (RF : Int) ∧ t1 = (RT : Int)) := fun hk => by
          have g : (kd == 4) = false := by rw [beq_eq_false_iff_ne]; exact hk
          have h1 := HC1.out
          have h2 := HC2.out
          rw [g, Bool.false_or] at h1 h2
          obtain ⟨k1, k2, k3, k4, k5, k6⟩ := HAL.out
          have hTR := HTR.out
          rw [HF1.out, HT1.out, HRF.out, HRT.out, h1, h2]
          unfold rawF rawT
          rw [if_neg hk, if_neg hk]
          constructor
          · by_cases hh : r = A / cols ls
            · have e : (T == al) = true := by rw [beq_iff_eq]; omega
              rw [e, if_pos rfl, if_pos hh]; exact k3
            · have e : (T == al) = false := by rw [beq_eq_false_iff_ne]; omega
              rw [e, if_neg (by decide), if_neg hh]; rfl
          · by_cases hh : r = B / cols ls
            · have e : (T == bl) = true := by rw [beq_iff_eq]; omega
              rw [e, if_pos rfl, if_pos hh, k4]; rfl
            · have e : (T == bl) = false := by rw [beq_eq_false_iff_ne]; omega
              rw [e, if_neg (by decide), if_neg hh, HMM.out]
        have HBK : Hid (kd = 4 → min ac bc = (RF : Int) ∧ max ac bc + 1 = (RT : Int)) := fun hk => by
          obtain ⟨q1, q2⟩ := hblk.out hk.symm
          rw [q1, q2, HRF.out, HRT.out]
          unfold rawF rawT
          rw [if_pos hk, if_pos hk]
          exact ⟨rfl, rfl⟩
        clear hRF hRT
        go_upto_if 99 with fail
        go_cut [] from 98 to 112 (fun wx => SpL w b2 b3 b5 b6 b10 (some ⟨b1, o1, none⟩) n cp first kd (plI ls first x).1 (plI ls first x).2 (plI ls first y).1 (plI ls first y).2 (al, ac) (bl, bc) (.slice au q cu) (spTo ls first kd A B (x % cols ls) (y % cols ls) q) ⟨T, (RF : Int), (RT : Int)⟩ wx)
        case first =>
          rcases Bool.eq_false_or_eq_true (kd == 4) with g | g
          · have hk : kd = 4 := by rw [beq_iff_eq] at g; exact g
            obtain ⟨m1, m2⟩ := HBK.out hk
            have m3 : (if ac ≤ bc then ac else bc) = (RF : Int) := by rw [← m1]; split <;> omega
            have m4 : (if ac < bc then ac else bc) = (RF : Int) := by rw [← m1]; split <;> omega
            have m5 : (if bc < ac then bc else ac) = (RF : Int) := by rw [← m1]; split <;> omega
            obtain ⟨mx, hmx⟩ : ∃ mx, mx = max ac bc := ⟨_, rfl⟩
            have m6 : (if ac ≤ bc then bc else ac) = mx := by rw [hmx]; split <;> omega
            have m7 : (if ac < bc then bc else ac) = mx := by rw [hmx]; split <;> omega
            have m8 : (if bc < ac then ac else bc) = mx := by rw [hmx]; split <;> omega
            have m9 : IntKind.i64.wrap (mx + 1) = (RT : Int) := by rw [hmx, IntWalk.i64_in _ (by omega)]; exact m2
            have m10 : max ac bc = mx := hmx.symm
            clear hmx hk
            go_upto_region 21 with fail
            refine wpH_go (fun b => b = b10) 15 (by kernel_rfl) (by kernel_rfl) (by rfl) (fun hB w9 hs9 => ?_)
            have HL9 := Lib.hid (HL3.out.sees hs9)
            have hn5 : ¬ (b5 = b10) := by have := HBX.out; omega
            have hn6 : ¬ (b6 = b10) := by have := HBX.out; omega
            clear hs9
            have hS0 : Keeps (fun b => b = b10) w9 w9 := Keeps.refl _ w9
            refine wpH_take (i := 0) (v := .pointer (some ⟨b5, 1, none⟩)) hB (by rfl) (by kernel_rfl) (fun _ _ _ _ _ h => h) (by rfl) hS0 (fun W hI => by clear hI; go_simp) ?_; (try simp only [Act.put, List.setIfInBounds_toArray, List.set_cons_zero, List.set_cons_succ])
            refine wpH_take (i := 1) (v := .int .i64 ac) hB (by rfl) (by kernel_rfl) (fun _ _ _ _ _ h => h) (by rfl) hS0 (fun W hI => by obtain ⟨q0, q1⟩ := (HL9.out.i.pf.keeps hI hn5).cells; go_simp) ?_; (try simp only [Act.put, List.setIfInBounds_toArray, List.set_cons_zero, List.set_cons_succ])
            refine wpH_take (i := 2) (v := .pointer (some ⟨b6, 1, none⟩)) hB (by rfl) (by kernel_rfl) (fun _ _ _ _ _ h => h) (by rfl) hS0 (fun W hI => by clear hI; go_simp) ?_; (try simp only [Act.put, List.setIfInBounds_toArray, List.set_cons_zero, List.set_cons_succ])
            refine wpH_take (i := 3) (v := .int .i64 bc) hB (by rfl) (by kernel_rfl) (fun _ _ _ _ _ h => h) (by rfl) hS0 (fun W hI => by obtain ⟨q0, q1⟩ := (HL9.out.i.pt.keeps hI hn6).cells; go_simp) ?_; (try simp only [Act.put, List.setIfInBounds_toArray, List.set_cons_zero, List.set_cons_succ])
            refine wpH_take (i := 4) (v := .int .i64 (RF : Int)) hB (by rfl) (by kernel_rfl) (fun _ _ _ _ _ h => h) (by rfl) hS0 (fun W hI => by clear hI; go_simp) ?_; (try simp only [Act.put, List.setIfInBounds_toArray, List.set_cons_zero, List.set_cons_succ])
            refine wpH_take (i := 5) (v := .pointer (some ⟨b5, 1, none⟩)) hB (by rfl) (by kernel_rfl) (fun _ _ _ _ _ h => h) (by rfl) hS0 (fun W hI => by clear hI; go_simp) ?_; (try simp only [Act.put, List.setIfInBounds_toArray, List.set_cons_zero, List.set_cons_succ])
            refine wpH_take (i := 6) (v := .int .i64 ac) hB (by rfl) (by kernel_rfl) (fun _ _ _ _ _ h => h) (by rfl) hS0 (fun W hI => by obtain ⟨q0, q1⟩ := (HL9.out.i.pf.keeps hI hn5).cells; go_simp) ?_; (try simp only [Act.put, List.setIfInBounds_toArray, List.set_cons_zero, List.set_cons_succ])
            refine wpH_take (i := 7) (v := .pointer (some ⟨b6, 1, none⟩)) hB (by rfl) (by kernel_rfl) (fun _ _ _ _ _ h => h) (by rfl) hS0 (fun W hI => by clear hI; go_simp) ?_; (try simp only [Act.put, List.setIfInBounds_toArray, List.set_cons_zero, List.set_cons_succ])
            refine wpH_take (i := 8) (v := .int .i64 bc) hB (by rfl) (by kernel_rfl) (fun _ _ _ _ _ h => h) (by rfl) hS0 (fun W hI => by obtain ⟨q0, q1⟩ := (HL9.out.i.pt.keeps hI hn6).cells; go_simp) ?_; (try simp only [Act.put, List.setIfInBounds_toArray, List.set_cons_zero, List.set_cons_succ])
            refine wpH_take (i := 9) (v := .int .i64 mx) hB (by rfl) (by kernel_rfl) (fun _ _ _ _ _ h => h) (by rfl) hS0 (fun W hI => by clear hI; go_simp) ?_; (try simp only [Act.put, List.setIfInBounds_toArray, List.set_cons_zero, List.set_cons_succ])
            refine wpH_take (i := 10) (v := .int .i64 (RT : Int)) hB (by rfl) (by kernel_rfl) (fun _ _ _ _ _ h => h) (by rfl) hS0 (fun W hI => by clear hI; go_simp) ?_; (try simp only [Act.put, List.setIfInBounds_toArray, List.set_cons_zero, List.set_cons_succ])
            refine wpH_take (i := 11) (v := .pointer (some ⟨b10, 1, none⟩)) hB (by rfl) (by kernel_rfl) (fun _ _ _ _ _ h => h) (by rfl) hS0 (fun W hI => by clear hI; go_simp) ?_; (try simp only [Act.put, List.setIfInBounds_toArray, List.set_cons_zero, List.set_cons_succ])
            have hfr9 := HL9.out.x.fr
            obtain ⟨x0, x1, x2⟩ := HL9.out.x.c
            refine wpH_one (i := 12) (by kernel_rfl) (wpOp_skip (w' := w9.setCell ⟨b10, 1, none⟩ (.int .i64 (RF : Int))) (by rfl) (wanted_none (by rfl) _) (by go_simp) ⟨hS0.trans (cell_keeps1 _ _ _ _), ?_⟩)
            (try simp only [Act.put, List.setIfInBounds_toArray, List.set_cons_zero, List.set_cons_succ])
            have HL10 := Lib.hid (HL9.out.set1 HBX.out (RF : Int))
            have hS1 := hS0.trans (cell_keeps1 w9 b10 1 (.int .i64 (RF : Int)))
            obtain ⟨w10, hw10⟩ : ∃ w10, w10 = w9.setCell ⟨b10, 1, none⟩ (.int .i64 (RF : Int)) := ⟨_, rfl⟩
            rw [← hw10] at HL10 hS1 ⊢
            clear hw10 hS0 x0 x1 x2 hfr9
            have hS0 := hS1
            clear hS1
            refine wpH_take (i := 13) (v := .pointer (some ⟨b10, 2, none⟩)) hB (by rfl) (by kernel_rfl) (fun _ _ _ _ _ h => h) (by rfl) hS0 (fun W hI => by clear hI; go_simp) ?_; (try simp only [Act.put, List.setIfInBounds_toArray, List.set_cons_zero, List.set_cons_succ])
            have hfr9 := HL10.out.x.fr
            obtain ⟨x0, x1, x2⟩ := HL10.out.x.c
            refine wpH_one (i := 14) (by kernel_rfl) (wpOp_skip (w' := w10.setCell ⟨b10, 2, none⟩ (.int .i64 (RT : Int))) (by rfl) (wanted_none (by rfl) _) (by go_simp) ⟨hS0.trans (cell_keeps1 _ _ _ _), ?_⟩)
            (try simp only [Act.put, List.setIfInBounds_toArray, List.set_cons_zero, List.set_cons_succ])
            have HL11 := Lib.hid (HL10.out.set2 HBX.out (RT : Int))
            refine wpH_end (by kernel_rfl) ?_
            clear hS0 hB x0 x1 x2 hfr9
            go_wp2
            go_meet
            exact HL11.out
          · have hk : kd ≠ 4 := by rw [beq_eq_false_iff_ne] at g; exact g
            obtain ⟨k1, k2⟩ := HNB.out hk
            go_wp2
            go_meet
            have q := HL3.out
            rw [k1, k2] at q
            exact q
        have HL4 := Lib.hid hcut
        clear hcut HL3 d0 HF1 HT1 HNB HBK
        go_upto_region 22 with fail
        obtain ⟨W7, hW7⟩ : ∃ W7, W7 = wc := ⟨_, rfl⟩
        rw [← hW7] at HL4 ⊢
        clear hW7
        obtain ⟨b1', o1', xr, ar, mr, he, _, hxr, _, yr0, yr1, ycr⟩ := H.out.rd.line hrn
        cases he
        obtain ⟨hxl, hxo, _⟩ := HALL.out xr (List.mem_iff_getElem?.2 ⟨_, hxr⟩)
        rw [hxl] at yr0 ycr
        rw [← HMM.out] at yr0 ycr
        have KR := Lib.hid (fun W (hs : Sees w W) => sh_row b1 o1 n cp r ar M mr xr.soft first T W hrn (by omega) hf0 hf1 HTR.out (hs.cell yr0) (hs.cell yr1))
        have hMb : M ≤ 1000 := by rw [HMM.out]; exact hM2
        have hRFM : RF < M := by rw [HMM.out]; exact hrw.1
        have hRTM : RT - 1 < M := by have := hrw.2.1; have := hrw.2.2; have := HMM.out; omega
        obtain ⟨b5', o5', d1, har, _, hd1, hat1⟩ := ycr.cell hRFM
        obtain ⟨b5'', o5'', d2, har2, _, hd2, hat2⟩ := ycr.cell hRTM
        subst har
        cases har2
        have hwI : ∀ j, widI ls r j = widAt xr.cells j := fun j => by unfold widI; rw [hxr]
        have hw1 : widI ls r RF = d1.width := by rw [hwI]; unfold widAt; rw [hd1]
        have hw2 : widI ls r (RT - 1) = d2.width := by rw [hwI]; unfold widAt; rw [hd2]
        have hwk := (wid_ok HALL.out (i := r) (j := RF) (by have := HN.out; omega) hrw.1).1
        rw [hw1] at hwk
        have HW1 := Lib.hid hw1
        have HW2 := Lib.hid hw2
        have HAT1 := Lib.hid hat1
        have HAT2 := Lib.hid hat2
        have hwk1 := Lib.hid (fun e => (hwk e).1)
        generalize xr.soft = so at *
        have hRTp := hrw.2.1
        have hRTc := hrw.2.2
        clear hxr hxl hxo yr0 yr1 ycr hd1 hd2 hat1 hat2 hwI hw1 hw2 hwk hrw
        obtain ⟨c0, c1⟩ := HL4.out.i.sh.c
        go_wp2_with fail
        refine (KR.out W7 HL4.out.i.s).mono ?_
        rintro ee W8 ⟨rfl, s8⟩
        have HL8 := Lib.hid (HL4.out.sees s8)
        have hfd := fun W => run_cells (.slice (some ⟨b5', o5', none⟩) M mr) (.bool so) W
        clear s8 c0 c1 HL4 KR
        go_upto_region 23 with fail
        obtain ⟨x0, x1, x2⟩ := HL8.out.x.c
        have g0 := (HAT1.out.sees HL8.out.i.s).all.2.2.2.2.1
        go_upto_if 123 with fail
        go_cut [] from 122 to 127 (fun wx => SpL w b2 b3 b5 b6 b10 (some ⟨b1, o1, none⟩) n cp first kd (plI ls first x).1 (plI ls first x).2 (plI ls first y).1 (plI ls first y).2 (al, ac) (bl, bc) (.slice au q cu) (spTo ls first kd A B (x % cols ls) (y % cols ls) q) ⟨T, (if d1.width = 0 then RF - 1 else RF : Nat), (RT : Int)⟩ wx)
        case first =>
          by_cases hw : d1.width = 0
          · have hwb : (d1.width == 0) = true := by rw [hw]; rfl
            have hwp := hwk1.out hw
            have hsub : IntKind.i64.wrap ((RF : Int) - 1) = ((RF - 1 : Nat) : Int) := by rw [IntWalk.i64_in _ (by omega)]; omega
            have e4 : ∀ i, W8.frozen? ⟨b10, i, none⟩ = false := HL8.out.x.fr
            go_wp2
            go_meet
            rw [if_pos hw]
            exact HL8.out.set1 HBX.out ((RF - 1 : Nat) : Int)
          · have hwb : (d1.width == 0) = false := by rw [beq_eq_false_iff_ne]; exact hw
            go_wp2
            go_meet
            rw [if_neg hw]
            exact HL8.out
        have HL5 := Lib.hid hcut
        clear hcut HL8 x0 x1 x2 g0
        obtain ⟨SF, hSF⟩ : ∃ SF : Nat, SF = if d1.width = 0 then RF - 1 else RF := ⟨_, rfl⟩
        rw [← hSF] at HL5
        have HSF : Hid (SF = spF ls kd A r (x % cols ls) (y % cols ls)) := by unfold RowKit.Hid spF fixF; rw [← HRF.out, HW1.out]; exact hSF
        have hSFb : SF ≤ 1000 := by rw [hSF]; split <;> omega
        clear hSF
        go_upto_region 25 with fail
        obtain ⟨W9, hW9⟩ : ∃ W9, W9 = wc := ⟨_, rfl⟩
        rw [← hW9] at HL5 ⊢
        clear hW9
        obtain ⟨x0, x1, x2⟩ := HL5.out.x.c
        have g0 := (HAT2.out.sees HL5.out.i.s).all.2.2.2.2.1
        obtain ⟨R1, hR1⟩ : ∃ R1, R1 = RT - 1 := ⟨_, rfl⟩
        rw [← hR1] at g0 hRTM
        have hsub : IntKind.i64.wrap ((RT : Int) - 1) = (R1 : Int) := by rw [IntWalk.i64_in _ (by omega)]; omega
        have HR1 := Lib.hid hR1
        clear hR1
        go_upto_if 135 with fail
        go_cut [] from 134 to 139 (fun wx => SpL w b2 b3 b5 b6 b10 (some ⟨b1, o1, none⟩) n cp first kd (plI ls first x).1 (plI ls first x).2 (plI ls first y).1 (plI ls first y).2 (al, ac) (bl, bc) (.slice au q cu) (spTo ls first kd A B (x % cols ls) (y % cols ls) q) ⟨T, (SF : Int), (if d2.width = 2 then RT + 1 else RT : Nat)⟩ wx)
        case first =>
          by_cases hw : d2.width = 2
          · have hwb : (d2.width == 2) = true := by rw [hw]; rfl
            have hadd : IntKind.i64.wrap ((RT : Int) + 1) = ((RT + 1 : Nat) : Int) := by rw [IntWalk.i64_in _ (by omega)]; omega
            have e4 : ∀ i, W9.frozen? ⟨b10, i, none⟩ = false := HL5.out.x.fr
            go_wp2
            go_meet
            rw [if_pos hw]
            exact HL5.out.set2 HBX.out ((RT + 1 : Nat) : Int)
          · have hwb : (d2.width == 2) = false := by rw [beq_eq_false_iff_ne]; exact hw
            go_wp2
            go_meet
            rw [if_neg hw]
            exact HL5.out
        have HL6 := Lib.hid hcut
        clear hcut HL5 x0 x1 x2 g0
        obtain ⟨ST, hST⟩ : ∃ ST : Nat, ST = if d2.width = 2 then RT + 1 else RT := ⟨_, rfl⟩
        rw [← hST] at HL6
        have HST : Hid (ST = spT ls kd B r (x % cols ls) (y % cols ls)) := by unfold RowKit.Hid spT fixU; rw [← HRT.out, HW2.out]; exact hST
        clear hST
        have HXS : Hid (spTo ls first kd A B (x % cols ls) (y % cols ls) (q + 1) = spTo ls first kd A B (x % cols ls) (y % cols ls) q ++ [⟨T, (SF : Int), (ST : Int)⟩]) := by
          unfold RowKit.Hid
          rw [spTo_step, HTR.out, HSF.out, HST.out]
          have e : A / cols ls + q = r := by rw [HR.out, HAL.out.2.2.2.2.1]
          rw [e]
        have HXL : Hid ((spTo ls first kd A B (x % cols ls) (y % cols ls) q).length + [(⟨T, (SF : Int), (ST : Int)⟩ : Sn)].length ≤ 100000000) := by
          unfold RowKit.Hid
          rw [spTo_len, List.length_singleton]
          have := HN.out
          omega
        go_upto_region 27 with fail
        obtain ⟨Wa, hWa⟩ : ∃ Wa, Wa = wc := ⟨_, rfl⟩
        rw [← hWa] at HL6 ⊢
        clear hWa
        obtain ⟨x0, x1, x2⟩ := HL6.out.x.c
        have sA : Sees Wa (Wa.alloc (.cells #[.int .i64 T, .int .i64 (SF : Int), .int .i64 (ST : Int)] 42)) := (Sees.refl Wa).alloc _
        have hrow := heap_alloc_new Wa (.cells #[.int .i64 T, .int .i64 (SF : Int), .int .i64 (ST : Int)] 42)
        have HLA := Lib.hid (HL6.out.sees sA)
        have HRW := Lib.hid hrow
        have HFX := Lib.hid (show ∀ b, (b6 < b ∧ b < b10) → b < (Wa.alloc (.cells #[.int .i64 T, .int .i64 (SF : Int), .int .i64 (ST : Int)] 42)).heap.size from fun b hb => by have := HLA.out.x.lt; omega)
        clear sA hrow
        go_wp2_with (at_builtin; refine El.wpList_append_own (v := .slice au q cu) typedSn rfl (.tmp 140) (.tmp 142) rfl (by go_simp) HLA.out.o ⟨Wa.heap.size, 0, none⟩ 1 1 (by go_simp) [.int .i64 T, .int .i64 (SF : Int), .int .i64 (ST : Int)] [⟨T, (SF : Int), (ST : Int)⟩] (fun _ => False) (El.ownIn_one (E := snEl) rfl) rfl (fun j u hu => El.row_cells HRW.out j u hu) HFX.out (fun b hb => hb.elim) HXL.out ?_; intro v7 w7 ho7 hk7; have HO7 := Lib.hid ho7; have HK7 := Lib.hid hk7; clear ho7 hk7)
        have hTw : IntKind.i64.wrap (T + 1) = T + 1 := IntWalk.i64_in _ (by omega)
        have hI7 : SpI w b2 b3 b5 b6 (some ⟨b1, o1, none⟩) n cp first kd (plI ls first x).1 (plI ls first x).2 (plI ls first y).1 (plI ls first y).2 (al, ac) (bl, bc) w7 := HLA.out.i.keeps HK7.out HBX.out.1 (fun b hb => ((HLA.out.o.base hb).1).1)
        have hO7 : snEl.Own (fun b => b6 < b) w7 v7 (spTo ls first kd A B (x % cols ls) (y % cols ls) (q + 1)) := by
          rw [HXS.out]
          refine HO7.out.mono fun b _ hb => ?_
          rcases hb with hb | hb | hb
          · exact hb.1
          · exact hb.elim
          · have := HLA.out.x.lt; have := HBX.out.2; omega
        have HI7 := Lib.hid hI7
        have HO8 := Lib.hid hO7
        clear hI7 hO7 x0 x1 x2
        go_wp2
        have hfin : ∃ (q' : Nat) (T' : Int), q' ≤ bot + 1 - top ∧ Value.int .i64 (T + 1) = .int .i64 T' ∧ Hid (T' = first + ((top + q' : Nat) : Int)) ∧ snEl.Own (fun b => b6 < b) w7 v7 (spTo ls first kd A B (x % cols ls) (y % cols ls) q') ∧ SpI w b2 b3 b5 b6 (some ⟨b1, o1, none⟩) n cp first kd (plI ls first x).1 (plI ls first x).2 (plI ls first y).1 (plI ls first y).2 (al, ac) (bl, bc) w7 := ⟨q + 1, T + 1, by omega, rfl, by have := hTT.out; unfold RowKit.Hid; omega, HO8.out, HI7.out⟩
        go_roundw
        case rel => first | exact hfin | ((repeat apply Exists.intro); exact ⟨hfin, rfl⟩)
        case measure => simp [intOf]; omega
      · have hqe : q = bot + 1 - top := by omega
        have hTb : bl < T := by have := hTT.out; have := HAL.out.2.1; omega
        obtain ⟨au, cu, hu, _⟩ := HO.out.slice
        rw [spTo_len] at hu
        subst hu
        go_wp2
        go_ret
        refine ⟨_, rfl, ?_, HI.out.s⟩
        rw [HF.out, ← hqe]
        exact HO.out.mono fun b _ hb => by have := HBB.out; omega
end Go.Proofs.YtooiiefipdjbjaaDoor

namespace Go.Proofs.YtooiiefipdjbjaaDoor
set_option linter.unusedVariables false
set_option linter.unusedSimpArgs false
open Go.RowKit Go.Shelf
attribute [local go_sem] Oper.semAt_some

/-- What a choice in rows answers: nothing, 2, or 3. -/
def chE (ls : List Ln) (first kd l0 c0 l1 c1 : Int) : Int := if ofE ls first = 2 then 2 else if kd < 1 ∨ 4 < kd then 2 else if inP ls first l0 c0 && inP ls first l1 c1 then 0 else 3
theorem ofE_ways (ls : List Ln) (first : Int) : ofE ls first = 0 ∨ ofE ls first = 2 := by unfold ofE; split <;> simp
theorem pl_ix {ls : List Ln} {first l c : Int} (h : inP ls first l c = true) : ixI ls first l c < ls.length * cols ls ∧ plI ls first (ixI ls first l c) = (l, c) := by
  unfold inP at h
  simp only [Bool.and_eq_true, decide_eq_true_eq] at h
  obtain ⟨⟨h1, h2⟩, h3, h4⟩ := h
  obtain ⟨r, hr⟩ : ∃ r : Nat, l = first + r := ⟨(l - first).toNat, by omega⟩
  obtain ⟨d, hd⟩ : ∃ d : Nat, c = d := ⟨c.toNat, by omega⟩
  subst hr hd
  have e : ixI ls first (first + (r : Int)) (d : Int) = r * cols ls + d := by
    unfold ixI
    rw [show first + (r : Int) - first = (r : Int) by omega]
    have h5 : (r : Int) * (cols ls : Int) + (d : Int) = ((r * cols ls + d : Nat) : Int) := by push_cast; rfl
    rw [h5]; omega
  obtain ⟨g1, g2⟩ := dm (r := r) (show d < cols ls by omega)
  rw [e]
  refine ⟨?_, ?_⟩
  · have := Nat.mul_le_mul_right (cols ls) (show r + 1 ≤ ls.length by omega)
    rw [Nat.succ_mul] at this
    omega
  · unfold plI
    rw [g1, g2]
theorem in_pl {ls : List Ln} {first : Int} {i : Nat} (h : i < ls.length * cols ls) : inP ls first (plI ls first i).1 (plI ls first i).2 = true := by
  have hM : 0 < cols ls := by
    rcases Nat.eq_zero_or_pos (cols ls) with h2 | h2
    · rw [h2] at h; omega
    · exact h2
  have h1 := dm_row hM h
  have h2 := Nat.mod_lt i hM
  unfold inP plI
  simp only [Bool.and_eq_true, decide_eq_true_eq]
  generalize i / cols ls = q at *
  generalize i % cols ls = d at *
  omega
theorem chE_ok {ls : List Ln} {first kd l0 c0 l1 c1 : Int} (h : chE ls first kd l0 c0 l1 c1 = 0) : ofE ls first = 0 ∧ 1 ≤ kd ∧ kd ≤ 4 ∧ inP ls first l0 c0 = true ∧ inP ls first l1 c1 = true := by
  unfold chE at h
  split at h
  · cases h
  · rename_i h1
    split at h
    · cases h
    · rename_i h2
      split at h
      · rename_i h3
        rw [Bool.and_eq_true] at h3
        have := ofE_ways ls first
        exact ⟨by omega, by omega, by omega, h3.1, h3.2⟩
      · cases h
theorem chE_pl {ls : List Ln} {first kd : Int} {x y : Nat} (ho : ofE ls first = 0) (h1 : 1 ≤ kd) (h4 : kd ≤ 4) (hx : x < ls.length * cols ls) (hy : y < ls.length * cols ls) : chE ls first kd (plI ls first x).1 (plI ls first x).2 (plI ls first y).1 (plI ls first y).2 = 0 := by
  unfold chE
  rw [if_neg (by omega), if_neg (by omega), in_pl hx, in_pl hy]
  rfl
theorem shF_of {F : Nat → Prop} {w : World} {v : Value} {ls : List Ln} {first : Int} (ha : lnEl.Rd F w v ls) (hF : ∀ b, F b → b < w.heap.size) (h : ofE ls first = 0) : ShF F w v ls first := ⟨ha, hF, (ofE_zero h).1, (ofE_zero h).2⟩
theorem chosen_any (F : Nat → Prop) (a : Option Addr) (n cp : Nat) (ls : List Ln) (w : World) (ht : Tabs w) (ha : lnEl.Rd F w (.slice a n cp) ls) (hn : ls.length ≤ 1000000) (hnc : ∀ l ∈ ls, l.cells.length ≤ 1000000) (first kd l0 c0 l1 c1 : Int) (hl : (-9223372036854775808 ≤ l0 ∧ l0 ≤ 9223372036854775807) ∧ (-9223372036854775808 ≤ l1 ∧ l1 ≤ 9223372036854775807)) :
    Calls Tryd.prog 38 #[.slice a n cp, .int .i64 first, chV kd l0 c0 l1 c1] w fun e w' => ∃ (a' : Option Addr) (n' cp' : Nat) (f' : Int), e = .returned (.tuple #[.agg #[.slice a' n' cp', .int .i64 f'], .int .i64 (chE ls first kd l0 c0 l1 c1)]) ∧ (chE ls first kd l0 c0 l1 c1 = 0 ∨ ofE ls first = 0 → a' = a ∧ n' = n ∧ cp' = cp ∧ f' = first) ∧ Sees w w' := by
  rcases ofE_ways ls first with h | h
  · obtain ⟨hall, h0, h1⟩ := rowsOk_ok (ofE_zero h).1
    refine (chosen_ok w a n cp first kd l0 c0 l1 c1 (inP ls first l0 c0) (inP ls first l1 c1) (fun W hs => (of_any F _ ls W (ht.sees hs) (ha.sees hs) hn hnc first).mono ?_) (fun W hs => sh_in F _ ls W (ha.sees hs) (fun x hx => (hall x hx).1) hn first l0 c0 h0 h1 hl.1.1 hl.1.2) (fun W hs => sh_in F _ ls W (ha.sees hs) (fun x hx => (hall x hx).1) hn first l1 c1 h0 h1 hl.2.1 hl.2.2)).mono ?_
    · rintro e w' ⟨h2 | h2, hs2⟩
      · exact ⟨h2.2, hs2⟩
      · omega
    · rintro e w' ⟨rfl, hs⟩
      refine ⟨a, n, cp, first, ?_, fun _ => ⟨rfl, rfl, rfl, rfl⟩, hs⟩
      have h9 : ¬ (ofE ls first = 2) := by omega
      unfold chE
      rw [if_neg h9]
  · refine (chosen_err w a n cp first kd l0 c0 l1 c1 (fun W hs => (of_any F _ ls W (ht.sees hs) (ha.sees hs) hn hnc first).mono ?_)).mono ?_
    · rintro e w' ⟨h2 | h2, hs2⟩
      · omega
      · exact ⟨h2.2, hs2⟩
    · rintro e w' ⟨rfl, hs⟩
      have e2 : chE ls first kd l0 c0 l1 c1 = 2 := by unfold chE; rw [if_pos h]
      exact ⟨none, 0, 0, 0, by rw [e2], fun h3 => by omega, hs⟩
theorem plI_in {ls : List Ln} {first : Int} (h0 : 0 ≤ first) (h1 : first ≤ 1099511627776) (hn : ls.length ≤ 1000) {i : Nat} (hi : i < ls.length * cols ls) : -9223372036854775808 ≤ (plI ls first i).1 ∧ (plI ls first i).1 ≤ 9223372036854775807 := by
  have hM : 0 < cols ls := by
    rcases Nat.eq_zero_or_pos (cols ls) with h2 | h2
    · rw [h2] at hi; omega
    · exact h2
  have h2 := dm_row hM hi
  unfold plI
  simp only []
  generalize i / cols ls = q at *
  omega
set_option maxHeartbeats 2000000 in
theorem cSpans_ok (F : Nat → Prop) (a : Option Addr) (n cp : Nat) (ls : List Ln) (w : World) (ht : Tabs w) (first : Int) (h : ShF F w (.slice a n cp) ls first) (kd : Int) (hk1 : 1 ≤ kd) (hk4 : kd ≤ 4) (x y : Nat) (hx : x < ls.length * cols ls) (hy : y < ls.length * cols ls) :
    Calls Tryd.prog 26 #[.slice a n cp, .int .i64 first, chV kd (plI ls first x).1 (plI ls first x).2 (plI ls first y).1 (plI ls first y).2] w fun e w' => ∃ v, e = .returned (.tuple #[v, .int .i64 0]) ∧ snEl.Own (fun b => w.heap.size ≤ b) w' v (spansL ls first kd x y) ∧ Sees w w' := by
  obtain ⟨hall, h0, h1⟩ := rowsOk_ok h.ok
  have hof := ofE_ok h.ok h.len
  have hcl : ∀ l ∈ ls, l.cells.length ≤ 1000000 := fun l hl => by
    have := (hall l hl).2.1
    unfold lnOk at this
    rw [Bool.and_eq_true, decide_eq_true_eq] at this
    omega
  have hE := chE_pl hof hk1 hk4 hx hy
  have KC := Lib.hid (fun W (hs : Sees w W) => by
    have q := chosen_any F a n cp ls W (ht.sees hs) (h.rd.sees hs) (by have := h.len; omega) hcl first kd (plI ls first x).1 (plI ls first x).2 (plI ls first y).1 (plI ls first y).2 ⟨plI_in h0 h1 h.len hx, plI_in h0 h1 h.len hy⟩
    rw [hE] at q
    exact q)
  have KS := Lib.hid (fun W (hs : Sees w W) => spans_any F a n cp ls W first (h.sees hs) kd hk1 hk4 x y hx hy)
  obtain ⟨Z, hZ⟩ : ∃ Z, Z = spansL ls first kd x y := ⟨_, rfl⟩
  rw [← hZ] at KS ⊢
  clear hZ hE hcl hof hall h0 h1 h ht hx hy hk1 hk4
  generalize (plI ls first x).1 = l0 at *
  generalize (plI ls first x).2 = c0 at *
  generalize (plI ls first y).1 = l1 at *
  generalize (plI ls first y).2 = c1 at *
  go_enter Tryd.func26, Tryd.ntmps26
  go_upto_region 1 with fail
  refine wp_world fun W1 hW1 => ?_
  have p1 : ChAt W1 w.heap.size kd l0 c0 l1 c1 := by subst hW1; exact heap_alloc_new w _
  have s1 : Sees w W1 := by subst hW1; exact (Sees.refl w).alloc _
  have P1 := Lib.hid p1
  have S1 := Lib.hid s1
  clear hW1 p1 s1
  obtain ⟨d0, d1, d2, d3, d4⟩ := P1.out.c
  go_wp2_with fail
  refine (KC.out W1 S1.out).mono ?_
  rintro ee W2 ⟨a', n', cp', f', rfl, hh, s2⟩
  obtain ⟨rfl, rfl, rfl, rfl⟩ := hh (by first | exact .inl rfl | exact .inl trivial | trivial | simp)
  have S2 := Lib.hid (S1.out.trans s2)
  have P2 := Lib.hid (P1.out.sees s2)
  clear s2 hh d0 d1 d2 d3 d4 KC
  go_upto_region 4 with fail
  refine wp_world fun W3 hW3 => ?_
  have p3 : ShAt W3 W2.heap.size a' n' cp' f' := by subst hW3; exact heap_alloc_new W2 _
  have s3 : Sees W2 W3 := by subst hW3; exact (Sees.refl W2).alloc _
  obtain ⟨c0, c1⟩ := p3.c
  obtain ⟨d0, d1, d2, d3, d4⟩ := (P2.out.sees s3).c
  have S3 := Lib.hid (S2.out.trans s3)
  clear hW3 p3 s3
  go_wp2_with fail
  refine (KS.out W3 S3.out).mono ?_
  rintro ee W4 ⟨v, rfl, ho, s4⟩
  have HO := Lib.hid ho
  have S4 := Lib.hid (S3.out.trans s4)
  clear ho s4 c0 c1 d0 d1 d2 d3 d4
  go_wp2
  go_ret2
  exact ⟨v, rfl, HO.out.mono fun b _ hb => by have := S3.out.size; omega, S4.out⟩
set_option maxHeartbeats 2000000 in
theorem cSpans_err (F : Nat → Prop) (a : Option Addr) (n cp : Nat) (ls : List Ln) (w : World) (ht : Tabs w) (ha : lnEl.Rd F w (.slice a n cp) ls) (hn : ls.length ≤ 1000000) (hnc : ∀ l ∈ ls, l.cells.length ≤ 1000000) (first kd l0 c0 l1 c1 : Int) (hl : (-9223372036854775808 ≤ l0 ∧ l0 ≤ 9223372036854775807) ∧ (-9223372036854775808 ≤ l1 ∧ l1 ≤ 9223372036854775807)) (E : Int) (hE : chE ls first kd l0 c0 l1 c1 = E) (hE0 : E ≠ 0) :
    Calls Tryd.prog 26 #[.slice a n cp, .int .i64 first, chV kd l0 c0 l1 c1] w fun e w' => e = .returned (.tuple #[.slice none 0 0, .int .i64 E]) ∧ Sees w w' := by
  have KC := Lib.hid (fun W (hs : Sees w W) => by
    have q := chosen_any F a n cp ls W (ht.sees hs) (ha.sees hs) hn hnc first kd l0 c0 l1 c1 hl
    rw [hE] at q
    exact q)
  have hEb : (E == 0) = false := by rw [beq_eq_false_iff_ne]; exact hE0
  have hEn := bne_of hEb
  clear hE hl ht ha hn hnc
  go_enter Tryd.func26, Tryd.ntmps26
  go_upto_region 1 with fail
  refine wp_world fun W1 hW1 => ?_
  have p1 : ChAt W1 w.heap.size kd l0 c0 l1 c1 := by subst hW1; exact heap_alloc_new w _
  have s1 : Sees w W1 := by subst hW1; exact (Sees.refl w).alloc _
  have S1 := Lib.hid s1
  obtain ⟨d0, d1, d2, d3, d4⟩ := p1.c
  clear hW1 p1 s1
  go_wp2_with fail
  refine (KC.out W1 S1.out).mono ?_
  rintro ee W2 ⟨a', n', cp', f', rfl, hh, s2⟩
  have S2 := Lib.hid (S1.out.trans s2)
  clear s2 hh d0 d1 d2 d3 d4 KC
  go_wp2
  go_ret2
  exact ⟨rfl, S2.out.alloc _⟩
theorem snHas_first {S : List Sn} {l c : Int} {k : Nat} {s : Sn} (hd : ∀ (i j : Nat) x y, S[i]? = some x → S[j]? = some y → x.row = y.row → i = j) (h : S[k]? = some s) (hr : s.row = l) : snHas S l c = (decide (c ≥ s.f) && decide (c < s.t)) := by
  rw [Bool.eq_iff_iff]
  unfold snHas
  rw [List.any_eq_true]
  simp only [Bool.and_eq_true, decide_eq_true_eq, beq_iff_eq]
  constructor
  · rintro ⟨x, hx, h1, h2⟩
    obtain ⟨i, hi⟩ := List.mem_iff_getElem?.1 hx
    have e := hd i k x s hi h (h1.trans hr.symm)
    subst e
    rw [hi] at h
    obtain rfl := Option.some.inj h
    exact h2
  · intro h2
    exact ⟨s, List.mem_iff_getElem?.2 ⟨_, h⟩, hr, h2⟩
theorem snHas_none {S : List Sn} {l c : Int} (h : ∀ (i : Nat) x, S[i]? = some x → x.row ≠ l) : snHas S l c = false := by
  rw [Bool.eq_false_iff]
  intro h2
  unfold snHas at h2
  rw [List.any_eq_true] at h2
  obtain ⟨x, hx, h3⟩ := h2
  simp only [Bool.and_eq_true, beq_iff_eq] at h3
  obtain ⟨i, hi⟩ := List.mem_iff_getElem?.1 hx
  exact h i x hi h3.1
theorem spansL_rows (ls : List Ln) (first kd : Int) (x y : Nat) : ∀ (i j : Nat) s t, (spansL ls first kd x y)[i]? = some s → (spansL ls first kd x y)[j]? = some t → s.row = t.row → i = j := by
  intro i j s t hs ht he
  have hi := (List.getElem?_eq_some_iff.1 hs).1
  have hj := (List.getElem?_eq_some_iff.1 ht).1
  unfold spansL at hs ht
  rw [spansL_len] at hi hj
  rw [spTo_at hi] at hs
  rw [spTo_at hj] at ht
  obtain rfl := Option.some.inj hs
  obtain rfl := Option.some.inj ht
  simp only [] at he
  omega
set_option maxHeartbeats 4000000 in
set_option maxRecDepth 100000 in
theorem cHas_ok (F : Nat → Prop) (a : Option Addr) (n cp : Nat) (ls : List Ln) (w : World) (ht : Tabs w) (first : Int) (h : ShF F w (.slice a n cp) ls first) (kd : Int) (hk1 : 1 ≤ kd) (hk4 : kd ≤ 4) (x y : Nat) (hx : x < ls.length * cols ls) (hy : y < ls.length * cols ls) (l c : Int) (hl0 : -9223372036854775808 ≤ l) (hl1 : l ≤ 9223372036854775807) :
    Calls Tryd.prog 15 #[.slice a n cp, .int .i64 first, chV kd (plI ls first x).1 (plI ls first x).2 (plI ls first y).1 (plI ls first y).2, plV (l, c)] w fun e w' => e = .returned (.bool (inP ls first l c && snHas (spansL ls first kd x y) l c)) ∧ Sees w w' := by
  obtain ⟨hall, h0, h1⟩ := rowsOk_ok h.ok
  have hof := ofE_ok h.ok h.len
  have hcl : ∀ l ∈ ls, l.cells.length ≤ 1000000 := fun l hl => by
    have := (hall l hl).2.1
    unfold lnOk at this
    rw [Bool.and_eq_true, decide_eq_true_eq] at this
    omega
  have hE := chE_pl hof hk1 hk4 hx hy
  have KC := Lib.hid (fun W (hs : Sees w W) => by
    have q := chosen_any F a n cp ls W (ht.sees hs) (h.rd.sees hs) (by have := h.len; omega) hcl first kd (plI ls first x).1 (plI ls first x).2 (plI ls first y).1 (plI ls first y).2 ⟨plI_in h0 h1 h.len hx, plI_in h0 h1 h.len hy⟩
    rw [hE] at q
    exact q)
  have KS := Lib.hid (fun W (hs : Sees w W) => spans_any F a n cp ls W first (h.sees hs) kd hk1 hk4 x y hx hy)
  have KI := Lib.hid (fun W (hs : Sees w W) => sh_in F _ ls W (h.rd.sees hs) (fun x hx => (hall x hx).1) (by have := h.len; omega) first l c h0 h1 hl0 hl1)
  have HD := Lib.hid (spansL_rows ls first kd x y)
  have hZL : (spansL ls first kd x y).length ≤ 1000 := by
    have q := (ch_rows (kd := kd) hx hy).2.2.2.2.2
    have q2 := h.len
    rw [spansL_len]
    generalize chA ls kd (min x y) / cols ls = q3
    omega
  obtain ⟨Z, hZ⟩ : ∃ Z, Z = spansL ls first kd x y := ⟨_, rfl⟩
  rw [← hZ] at KS HD hZL ⊢
  obtain ⟨I, hI⟩ : ∃ I, I = inP ls first l c := ⟨_, rfl⟩
  rw [← hI] at KI ⊢
  clear hZ hE hcl hof hall h0 h1 h ht hx hy hk1 hk4 hI
  generalize (plI ls first x).1 = l0 at *
  generalize (plI ls first x).2 = c0 at *
  generalize (plI ls first y).1 = l1 at *
  generalize (plI ls first y).2 = c1 at *
  obtain ⟨R, hR⟩ : ∃ R, R = snHas Z l c := ⟨_, rfl⟩
  rw [← hR]
  have HR := Lib.hid hR
  clear hR
  go_enter Tryd.func15, Tryd.ntmps15
  go_upto_region 1 with fail
  refine wp_world fun W1 hW1 => ?_
  have p1 : ChAt W1 w.heap.size kd l0 c0 l1 c1 := by
    subst hW1
    have q : ChAt (w.alloc (.cells #[.int .i64 kd, .int .i64 l0, .int .i64 c0, .int .i64 l1, .int .i64 c1] 27)) w.heap.size kd l0 c0 l1 c1 := heap_alloc_new w _
    exact q.sees ((Sees.refl _).alloc _)
  have p2 : PlAt W1 (w.heap.size + 1) l c := by
    subst hW1
    have q := heap_alloc_new (w.alloc (.cells #[.int .i64 kd, .int .i64 l0, .int .i64 c0, .int .i64 l1, .int .i64 c1] 27)) (.cells #[.int .i64 l, .int .i64 c] 25)
    rw [World.size_alloc] at q
    exact q
  have s1 : Sees w W1 := by subst hW1; exact ((Sees.refl w).alloc _).alloc _
  obtain ⟨b7, hb7⟩ : ∃ b7, b7 = w.heap.size + 1 := ⟨_, rfl⟩
  rw [← hb7] at p2 ⊢
  have P1 := Lib.hid p1
  have P2 := Lib.hid p2
  have S1 := Lib.hid s1
  clear hW1 p1 s1 p2 hb7
  obtain ⟨d0, d1, d2, d3, d4⟩ := P1.out.c
  go_wp2_with fail
  refine (KC.out W1 S1.out).mono ?_
  rintro ee W2 ⟨a', n', cp', f', rfl, hh, s2⟩
  obtain ⟨rfl, rfl, rfl, rfl⟩ := hh (by first | exact .inl rfl | exact .inl trivial | trivial | simp)
  have S2 := Lib.hid (S1.out.trans s2)
  have P12 := Lib.hid (P1.out.sees s2)
  have P22 := Lib.hid (P2.out.sees s2)
  clear s2 hh d0 d1 d2 d3 d4 KC
  go_upto_region 2 with fail
  refine wp_world fun W3 hW3 => ?_
  have p3 : ShAt W3 W2.heap.size a' n' cp' f' := by subst hW3; exact heap_alloc_new W2 _
  have s3 : Sees W2 W3 := by subst hW3; exact (Sees.refl W2).alloc _
  obtain ⟨b9, hb9⟩ : ∃ b9, b9 = W2.heap.size := ⟨_, rfl⟩
  rw [← hb9] at p3 ⊢
  obtain ⟨g0, g1⟩ := p3.c
  have P13 := Lib.hid (P12.out.sees s3)
  have P23 := Lib.hid (P22.out.sees s3)
  have P33 := Lib.hid p3
  obtain ⟨e0, e1⟩ := P23.out.cells
  have S3 := Lib.hid (S2.out.trans s3)
  clear hW3 p3 s3 hb9
  go_wp2_with fail
  refine (KI.out W3 S3.out).mono ?_
  rintro ee W4 ⟨rfl, s4⟩
  have S4 := Lib.hid (S3.out.trans s4)
  have P14 := Lib.hid (P13.out.sees s4)
  have P24 := Lib.hid (P23.out.sees s4)
  have P34 := Lib.hid (P33.out.sees s4)
  clear s4 g0 g1 e0 e1 KI
  cases I
  case false =>
    go_wp2
    go_ret
    exact ⟨rfl, S4.out⟩
  obtain ⟨g0, g1⟩ := P34.out.c
  obtain ⟨d0, d1, d2, d3, d4⟩ := P14.out.c
  go_wp2_with fail
  refine (KS.out W4 S4.out).mono ?_
  rintro ee W5 ⟨v, rfl, ho, s5⟩
  have HO := Lib.hid ho.rd
  have S5 := Lib.hid (S4.out.trans s5)
  have P25 := Lib.hid (P24.out.sees s5)
  obtain ⟨av, cv, rfl, _⟩ := ho.rd.slice'
  obtain ⟨N, hN⟩ : ∃ N, N = Z.length := ⟨_, rfl⟩
  rw [← hN] at HO ⊢
  have hNl : N ≤ 1000 := by omega
  have HN := Lib.hid hN
  clear hZL ho s5 g0 g1 d0 d1 d2 d3 d4 hN KS
  go_wp2
  go_loopw [32] (fun u W => ∃ k : Nat, k ≤ N ∧ u = .int .i64 (k : Int) ∧ Hid (∀ (i : Nat) s, i < k → Z[i]? = some s → s.row ≠ l) ∧ Sees W5 W) (fun u _ => N - (intOf u).toNat)
  case atStart => exact ⟨0, Nat.zero_le _, rfl, (fun i s h => by omega), Sees.refl _⟩
  case round =>
    obtain ⟨k, hk, rfl, hP, hS⟩ := hrel
    have HS := Lib.hid hS
    clear hS
    by_cases hlt : k < N
    · obtain ⟨b1, o1, s, rfl, hs, y0, y1, y2⟩ := sn_cell (HO.out.sees HS.out) hlt
      have HZK := Lib.hid hs
      clear hs
      go_upto_region 7 with fail
      refine wp_world fun W6 hW6 => ?_
      have q6 : SnAt W6 wr.heap.size s := by subst hW6; exact heap_alloc_new wr _
      have s6 : Sees wr W6 := by subst hW6; exact (Sees.refl wr).alloc _
      obtain ⟨x0, x1, x2⟩ := q6.c
      obtain ⟨e0, e1⟩ := (P25.out.sees (HS.out.trans s6)).cells
      have S6 := Lib.hid (S5.out.trans (HS.out.trans s6))
      have S65 := Lib.hid (HS.out.trans s6)
      clear hW6 q6 s6 y0 y1 y2
      rcases Bool.eq_false_or_eq_true (s.row == l) with g | g
      · have hr : R = (decide (c ≥ s.f) && decide (c < s.t)) := by
          rw [HR.out]
          exact snHas_first HD.out HZK.out (by rw [beq_iff_eq] at g; exact g)
        have HRR := Lib.hid hr
        clear hr
        rcases Bool.eq_false_or_eq_true (decide (c ≥ s.f)) with g2 | g2
        · rcases Bool.eq_false_or_eq_true (decide (c < s.t)) with g3 | g3
          · go_wp2
            go_ret
            exact ⟨by rw [HRR.out, g2, g3]; rfl, S6.out⟩
          · go_wp2
            go_ret
            exact ⟨by rw [HRR.out, g2, g3]; rfl, S6.out⟩
        · go_wp2
          go_ret
          exact ⟨by rw [HRR.out, g2]; rfl, S6.out⟩
      · have hP2 : Hid (∀ (i : Nat) s, i < k + 1 → Z[i]? = some s → s.row ≠ l) := fun i t hi ht => by
          rcases Nat.lt_or_eq_of_le (Nat.le_of_lt_succ hi) with h | rfl
          · exact hP.out i t h ht
          · rw [HZK.out] at ht
            obtain rfl := Option.some.inj ht
            rw [beq_eq_false_iff_ne] at g
            exact g
        clear hP
        go_wp2
        exact ⟨⟨k + 1, by omega, by go_num, hP2, S65.out⟩, by simp [intOf] <;> omega⟩
    · obtain rfl : k = N := by omega
      have hr : R = false := by
        rw [HR.out]
        exact snHas_none fun i s hs => hP.out i s (by have := HN.out; have := (List.getElem?_eq_some_iff.1 hs).1; omega) hs
      clear hP
      go_wp2
      go_ret
      exact ⟨by rw [hr]; rfl, S5.out.trans HS.out⟩
set_option maxHeartbeats 2000000 in
theorem cHas_err (F : Nat → Prop) (a : Option Addr) (n cp : Nat) (ls : List Ln) (w : World) (ht : Tabs w) (ha : lnEl.Rd F w (.slice a n cp) ls) (hn : ls.length ≤ 1000000) (hnc : ∀ l ∈ ls, l.cells.length ≤ 1000000) (first kd l0 c0 l1 c1 : Int) (hl : (-9223372036854775808 ≤ l0 ∧ l0 ≤ 9223372036854775807) ∧ (-9223372036854775808 ≤ l1 ∧ l1 ≤ 9223372036854775807)) (E : Int) (hE : chE ls first kd l0 c0 l1 c1 = E) (hE0 : E ≠ 0) (l c : Int) :
    Calls Tryd.prog 15 #[.slice a n cp, .int .i64 first, chV kd l0 c0 l1 c1, plV (l, c)] w fun e w' => e = .returned (.bool false) ∧ Sees w w' := by
  have KC := Lib.hid (fun W (hs : Sees w W) => by
    have q := chosen_any F a n cp ls W (ht.sees hs) (ha.sees hs) hn hnc first kd l0 c0 l1 c1 hl
    rw [hE] at q
    exact q)
  have hEb : (E == 0) = false := by rw [beq_eq_false_iff_ne]; exact hE0
  have hEn := bne_of hEb
  clear hE hl ht ha hn hnc
  go_enter Tryd.func15, Tryd.ntmps15
  go_upto_region 1 with fail
  refine wp_world fun W1 hW1 => ?_
  have p1 : ChAt W1 w.heap.size kd l0 c0 l1 c1 := by
    subst hW1
    have q : ChAt (w.alloc (.cells #[.int .i64 kd, .int .i64 l0, .int .i64 c0, .int .i64 l1, .int .i64 c1] 27)) w.heap.size kd l0 c0 l1 c1 := heap_alloc_new w _
    exact q.sees ((Sees.refl _).alloc _)
  have s1 : Sees w W1 := by subst hW1; exact ((Sees.refl w).alloc _).alloc _
  have S1 := Lib.hid s1
  obtain ⟨d0, d1, d2, d3, d4⟩ := p1.c
  clear hW1 p1 s1
  go_wp2_with fail
  refine (KC.out W1 S1.out).mono ?_
  rintro ee W2 ⟨a', n', cp', f', rfl, hh, s2⟩
  have S2 := Lib.hid (S1.out.trans s2)
  clear s2 hh d0 d1 d2 d3 d4 KC
  go_wp2
  go_ret
  exact ⟨rfl, S2.out.alloc _⟩
set_option maxHeartbeats 4000000 in
theorem spans41_true (v u : Value) (first k : Int) (xs : List Sn) (F : Nat → Prop) (w : World) (kd l0 c0 l1 c1 : Int) (hu : snEl.Rd F w u xs) (hn : xs.length ≤ 1000000)
    (K : ∀ W, Sees w W → Calls Tryd.prog 26 #[v, .int .i64 first, chV kd l0 c0 l1 c1] W fun e w' => ∃ v', e = .returned (.tuple #[v', .int .i64 k]) ∧ snEl.Rd (fun _ => True) w' v' xs ∧ Sees W w') :
    Calls Tryd.prog 13 #[v, .int .i64 first, chV kd l0 c0 l1 c1, u, .int .i64 k] w fun e w' => e = .returned (.bool true) ∧ Sees w w' := by
  have H := Lib.hid K
  obtain ⟨ao, c, rfl, _⟩ := hu.slice'
  obtain ⟨n, hnn⟩ : ∃ n, n = xs.length := ⟨_, rfl⟩
  rw [← hnn] at hu hn ⊢
  have HU := Lib.hid hu
  have HN := Lib.hid hnn
  clear K hu hnn
  go_enter Tryd.func13, Tryd.ntmps13
  go_upto_region 1 with fail
  refine wp_world fun W1 hW1 => ?_
  have p1 : ChAt W1 w.heap.size kd l0 c0 l1 c1 := by subst hW1; exact heap_alloc_new w _
  have s1 : Sees w W1 := by subst hW1; exact (Sees.refl w).alloc _
  have S1 := Lib.hid s1
  obtain ⟨d0, d1, d2, d3, d4⟩ := p1.c
  clear hW1 p1 s1
  go_wp2_with fail
  refine (H.out W1 S1.out).mono ?_
  rintro e W2 ⟨v2, rfl, hr, s⟩
  obtain ⟨a2, c2, rfl, _⟩ := hr.slice'
  rw [← HN.out] at hr ⊢
  have HR := Lib.hid hr
  have HS := Lib.hid (S1.out.trans s)
  have hkk : (k != k) = false := by simp
  clear s H hr d0 d1 d2 d3 d4
  go_wp2_with fail
  go_loopw [13] (fun i W => ∃ j : Nat, j ≤ n ∧ i = .int .i64 j ∧ Sees W2 W) (fun i _ => n - (intOf i).toNat)
  case atStart => exact ⟨0, Nat.zero_le _, rfl, Sees.refl _⟩
  case round =>
    obtain ⟨j, hj, rfl, hS⟩ := hrel
    have HS3 := Lib.hid hS
    clear hS
    by_cases hlt : j < n
    · obtain ⟨b1, o1, x, rfl, hx1, y0, y1, y2⟩ := sn_cell (HR.out.sees HS3.out) hlt
      obtain ⟨b2, o2, x2, rfl, hx2, z0, z1, z2⟩ := sn_cell (HU.out.sees (HS.out.trans HS3.out)) hlt
      obtain rfl : x = x2 := Option.some.inj (hx1.symm.trans hx2)
      clear hx1 hx2
      go_upto_region 7 with fail
      have g0 := fun d os => (sees_grow wr d os).cell y0
      have g1 := fun d os => (sees_grow wr d os).cell y1
      have g2 := fun d os => (sees_grow wr d os).cell y2
      have p0 := fun d os => (sees_grow wr d os).cell z0
      have p1 := fun d os => (sees_grow wr d os).cell z1
      have p2 := fun d os => (sees_grow wr d os).cell z2
      clear y0 y1 y2 z0 z1 z2
      refine wp_region_quiet_below (by kernel_rfl) (by kernel_rfl) ?_
      repeat (first | go_big_quiet_skip | (go_big_quiet_want; go_big_quiet_op; go_big_quiet_on))
      refine wpQuiet_nil ?_; intro w2 hw2'; have hw2 := regrown_sees hw2'; clear hw2'
      have HS4 := Lib.hid (HS3.out.trans hw2)
      clear hw2 g0 g1 g2 p0 p1 p2
      go_wp2
      exact ⟨⟨j + 1, by omega, by go_num, HS4.out⟩, by simp [intOf]; omega⟩
    · obtain rfl : j = n := by omega
      go_wp2
      go_ret
      exact ⟨rfl, HS.out.trans HS3.out⟩
set_option maxHeartbeats 1000000 in
theorem texts41_true (v : Value) (s : ByteArray) (first k : Int) (w : World) (kd l0 c0 l1 c1 : Int)
    (K : ∀ W, Sees w W → Calls Tryd.prog 27 #[v, .int .i64 first, chV kd l0 c0 l1 c1] W fun e w' => e = .returned (.tuple #[.string s, .int .i64 k]) ∧ Sees W w') :
    Calls Tryd.prog 14 #[v, .int .i64 first, chV kd l0 c0 l1 c1, .string s, .int .i64 k] w fun e w' => e = .returned (.bool true) ∧ Sees w w' := by
  have H := Lib.hid K
  clear K
  go_enter Tryd.func14, Tryd.ntmps14
  go_upto_region 1 with fail
  refine wp_world fun W1 hW1 => ?_
  have p1 : ChAt W1 w.heap.size kd l0 c0 l1 c1 := by subst hW1; exact heap_alloc_new w _
  have s1 : Sees w W1 := by subst hW1; exact (Sees.refl w).alloc _
  have S1 := Lib.hid s1
  obtain ⟨d0, d1, d2, d3, d4⟩ := p1.c
  clear hW1 p1 s1
  go_wp2_with fail
  refine (H.out W1 S1.out).mono ?_
  rintro e W2 ⟨rfl, s2⟩
  have S2 := Lib.hid (S1.out.trans s2)
  clear s2 H d0 d1 d2 d3 d4
  go_wp2
  go_ret
  exact ⟨by first | rfl | simp, S2.out⟩
set_option maxHeartbeats 2000000 in
theorem logicals_true (v : Value) (first l c t b k : Int) (w : World)
    (K : ∀ W, Sees w W → Calls Tryd.prog 29 #[v, .int .i64 first, plV (l, c)] W fun e w' => e = .returned (.tuple #[.int .i64 t, .int .i64 b, .int .i64 k]) ∧ Sees W w') :
    Calls Tryd.prog 20 #[v, .int .i64 first, plV (l, c), .int .i64 t, .int .i64 b, .int .i64 k] w fun e w' => e = .returned (.bool true) ∧ Sees w w' := by
  have H := Lib.hid K
  clear K
  go_enter Tryd.func20, Tryd.ntmps20
  go_upto_region 1 with fail
  refine wp_world fun W1 hW1 => ?_
  have p1 : PlAt W1 w.heap.size l c := by subst hW1; exact heap_alloc_new w _
  have s1 : Sees w W1 := by subst hW1; exact (Sees.refl w).alloc _
  have S1 := Lib.hid s1
  obtain ⟨d0, d1⟩ := p1.cells
  clear hW1 p1 s1
  go_wp2_with fail
  refine (H.out W1 S1.out).mono ?_
  rintro e W2 ⟨rfl, s2⟩
  have S2 := Lib.hid (S1.out.trans s2)
  clear s2 H d0 d1
  go_wp2
  go_ret
  exact ⟨by first | rfl | simp, S2.out⟩
set_option maxHeartbeats 2000000 in
theorem words_true (v : Value) (first l c la ca lb cb k : Int) (w : World)
    (K : ∀ W, Sees w W → Calls Tryd.prog 43 #[v, .int .i64 first, plV (l, c)] W fun e w' => e = .returned (.tuple #[plV (la, ca), plV (lb, cb), .int .i64 k]) ∧ Sees W w') :
    Calls Tryd.prog 19 #[v, .int .i64 first, plV (l, c), plV (la, ca), plV (lb, cb), .int .i64 k] w fun e w' => e = .returned (.bool true) ∧ Sees w w' := by
  have H := Lib.hid K
  clear K
  go_enter Tryd.func19, Tryd.ntmps19
  go_upto_region 1 with fail
  refine wp_world fun W1 hW1 => ?_
  have p1 : PlAt W1 w.heap.size l c := by
    subst hW1
    exact PlAt.sees (PlAt.new w l c) (((Sees.refl _).alloc _).alloc _)
  have p2 : PlAt W1 (w.heap.size + 1) la ca := by
    subst hW1
    have q := PlAt.new (w.alloc (.cells #[.int .i64 l, .int .i64 c] 25)) la ca
    rw [World.size_alloc] at q
    exact q.sees ((Sees.refl _).alloc _)
  have p3 : PlAt W1 (w.heap.size + 1 + 1) lb cb := by
    subst hW1
    have q := PlAt.new ((w.alloc (.cells #[.int .i64 l, .int .i64 c] 25)).alloc (.cells #[.int .i64 la, .int .i64 ca] 25)) lb cb
    rw [World.size_alloc, World.size_alloc] at q
    exact q
  have s1 : Sees w W1 := by subst hW1; exact (((Sees.refl w).alloc _).alloc _).alloc _
  have S1 := Lib.hid s1
  obtain ⟨b9, hb9⟩ : ∃ b9, b9 = w.heap.size + 1 + 1 := ⟨_, rfl⟩
  obtain ⟨b8, hb8⟩ : ∃ b8, b8 = w.heap.size + 1 := ⟨_, rfl⟩
  rw [← hb9] at p3 ⊢
  rw [← hb8] at p2 ⊢
  obtain ⟨d0, d1⟩ := p1.cells
  have P2 := Lib.hid p2
  have P3 := Lib.hid p3
  clear hW1 p1 s1 p2 p3 hb8 hb9
  go_wp2_with fail
  refine (H.out W1 S1.out).mono ?_
  rintro e W2 ⟨rfl, s2⟩
  have S2 := Lib.hid (S1.out.trans s2)
  have P22 := Lib.hid (P2.out.sees s2)
  have P32 := Lib.hid (P3.out.sees s2)
  clear s2 H d0 d1
  go_upto_region 2 with fail
  refine wp_world fun W3 hW3 => ?_
  have q1 : PlAt W3 W2.heap.size la ca := by subst hW3; exact PlAt.sees (PlAt.new W2 la ca) ((Sees.refl _).alloc _)
  have q2 : PlAt W3 (W2.heap.size + 1) lb cb := by
    subst hW3
    have q := PlAt.new (W2.alloc (.cells #[.int .i64 la, .int .i64 ca] 25)) lb cb
    rw [World.size_alloc] at q
    exact q
  have s3 : Sees W2 W3 := by subst hW3; exact ((Sees.refl _).alloc _).alloc _
  obtain ⟨d0, d1⟩ := q1.cells
  obtain ⟨d2, d3⟩ := q2.cells
  obtain ⟨d4, d5⟩ := (P22.out.sees s3).cells
  obtain ⟨d6, d7⟩ := (P32.out.sees s3).cells
  have S3 := Lib.hid (S2.out.trans s3)
  clear hW3 q1 q2 s3
  go_wp2
  go_ret
  exact ⟨by first | rfl | simp, S3.out⟩
end Go.Proofs.YtooiiefipdjbjaaDoor
