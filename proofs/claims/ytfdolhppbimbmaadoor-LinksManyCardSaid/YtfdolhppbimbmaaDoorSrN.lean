/- search.Next (42). The tables hold what the program's text lays. search.Prev (42). The tables hold what the program's text lays. No condition. -/
import Derived.Test.YtfdolhppbimbmaaDoorSrL
namespace Go.Proofs.YtfdolhppbimbmaaDoor
set_option linter.unusedVariables false
set_option linter.unusedSimpArgs false
open Go.RowKit Go.Shelf
attribute [local go_sem] Oper.semAt_some

/-- What Next and Prev answer. -/
def zeroMt : Mt := ⟨0, 0, 0, 0⟩
def nextR (ms : List Mt) (l c : Int) : Mt := match ms with | [] => zeroMt | d :: r => nextD d l c (d :: r)
def prevR (ms : List Mt) (l c : Int) : Mt := match ms.getLast? with | none => zeroMt | some d => prevD l c d ms
def noneE (ms : List Mt) : Int := if ms = [] then 9 else 0
/-- A variable that holds a place. -/
def PlAt (W : World) (b : Nat) (l c : Int) : Prop := W.heap[b]? = some (.cells #[.int .i64 l, .int .i64 c] 31 (0, 0))
namespace PlAt
variable {W W' : World} {b : Nat} {l c : Int}
theorem lt (h : PlAt W b l c) : b < W.heap.size := (Array.getElem?_eq_some_iff.1 h).1
theorem keeps {F : Nat → Prop} (h : PlAt W b l c) (hk : Keeps F W W') (hF : ¬ F b) : PlAt W' b l c := by
  unfold PlAt; rw [hk.block _ h.lt hF]; exact h
theorem sees (h : PlAt W b l c) (hs : Sees W W') : PlAt W' b l c := h.keeps (Keeps.of_sees (F := fun _ => False) hs) (fun h => h)
theorem cells (h : PlAt W b l c) : W.cell? ⟨b, 0, none⟩ = some (.int .i64 l) ∧ W.cell? ⟨b, 1, none⟩ = some (.int .i64 c) := by
  rw [cell_of_row _ _ _ _ _ _ h, cell_of_row _ _ _ _ _ _ h]; exact ⟨rfl, rfl⟩
end PlAt
/-- A match is stored. -/
def put4 (W : World) (b : Nat) (x : Mt) : World := (((W.setCell ⟨b, 0, none⟩ (.int .i64 x.l0)).setCell ⟨b, 1, none⟩ (.int .i64 x.c0)).setCell ⟨b, 2, none⟩ (.int .i64 x.l1)).setCell ⟨b, 3, none⟩ (.int .i64 x.c1)
theorem put4_keeps {F : Nat → Prop} {W0 W : World} {b : Nat} (hk : Keeps F W0 W) (hb : W0.heap.size ≤ b ∨ F b) (x : Mt) : Keeps F W0 (put4 W b x) := by
  have hF : ∀ {U : World} {i : Nat} {v : Value}, Keeps F W0 U → Keeps F W0 (U.setCell ⟨b, i, none⟩ v) := by
    intro U i v hU
    rcases hb with h | h
    · exact hU.trans' (Keeps.setCell (F := fun y => y = b) (Keeps.refl _ U) (p := ⟨b, i, none⟩) (fun _ => rfl) v) (fun c hc e => by omega)
    · exact hU.setCell (p := ⟨b, i, none⟩) (fun _ => h) v
  exact hF (hF (hF (hF hk)))
theorem put4_at {W : World} {b : Nat} {m : Mt} (h : MtAt W b m) (x : Mt) : MtAt (put4 W b x) b x := by
  have h1 := heap_setCell_same W b 0 _ _ (.int .i64 x.l0) h
  have h2 := heap_setCell_same _ b 1 _ _ (.int .i64 x.c0) h1
  have h3 := heap_setCell_same _ b 2 _ _ (.int .i64 x.l1) h2
  exact heap_setCell_same _ b 3 _ _ (.int .i64 x.c1) h3
theorem sees_put4 {w W : World} {b : Nat} (h : Sees w W) (hb : w.heap.size ≤ b) (x : Mt) : Sees w (put4 W b x) := (put4_keeps (F := fun _ => False) (Keeps.of_sees h) (.inl hb) x).sees_end (fun _ _ h => h)
theorem mt_isAgg : ∀ W, (isAgg 33).run Tryd.prog W = .ok true W := fun _ => by kernel_rfl
theorem mt_sizeOf : ∀ W, (sizeOf 33).run Tryd.prog W = .ok 4 W := fun _ => by kernel_rfl
theorem run_loadMt {W : World} {b : Nat} {m : Mt} (h : MtAt W b m) : (Instr.loadAt 33 (.pointer (some ⟨b, 0, none⟩))).run Tryd.prog W = .ok m.val W :=
  run_load_agg 33 b 0 [.int .i64 m.l0, .int .i64 m.c0, .int .i64 m.l1, .int .i64 m.c1] mt_isAgg mt_sizeOf fun j x hx => by
    rw [Nat.zero_add, Go.cell_of_row W b _ _ _ _ h]
    simpa using hx
/-- What is handed back, if it lies in memory. -/
theorem results_mm {fn : Func} {tmps : Array Value} {W : World} {i j b q : Nat} {m : Mt} {k : Int} (hr : fn.results = #[.cell i 33, .cell j 26]) (hi : tmps[i]?.getD undef = .pointer (some ⟨b, 0, none⟩)) (hj : tmps[j]?.getD undef = .pointer (some ⟨q, 0, none⟩)) (h : MtAt W b m) (he : Bx W q 26 (.int .i64 k)) :
    (results fn tmps).run Tryd.prog W = .ok (.tuple #[m.val, .int .i64 k]) W := by
  have h1 : (loadVar 33 ⟨b, 0, none⟩).run Tryd.prog W = .ok m.val W := run_loadMt h
  have h2 : (loadVar 26 ⟨q, 0, none⟩).run Tryd.prog W = .ok (.int .i64 k) W := by
    have hc := he.c
    go_simp
  unfold results
  rw [hr]
  simp [hi, hj, asAddr, h1, h2]
theorem results_mt {fn : Func} {tmps : Array Value} {W : World} {i j b : Nat} {m : Mt} {v : Value} (hr : fn.results = #[.cell i 33, .tmp j]) (hi : tmps[i]?.getD undef = .pointer (some ⟨b, 0, none⟩)) (hj : tmps[j]?.getD undef = v) (h : MtAt W b m) :
    (results fn tmps).run Tryd.prog W = .ok (.tuple #[m.val, v]) W := by
  have h1 : (loadVar 33 ⟨b, 0, none⟩).run Tryd.prog W = .ok m.val W := run_loadMt h
  unfold results
  rw [hr]
  simp [hi, hj, asAddr, h1]
/-- What stands between two rounds of Next. -/
structure NxI (w : World) (b0 o B : Nat) (l c : Int) (m : Mt) (e : Int) (sv : Value) (first : Int) (p : ByteArray) (fold : Bool) (W : World) : Prop where
  at' : PlAt W b0 l c
  r : MtAt W (b0 + 1) zeroMt
  q : Bx W (b0 + 2) 26 (.int .i64 0)
  out : MtAt W o m
  e' : Bx W (o + 1) 26 (.int .i64 e)
  m' : MaI w B sv first p fold W
theorem NxI.keeps {w W W' : World} {b0 o B : Nat} {l c : Int} {m : Mt} {e : Int} {sv : Value} {first : Int} {p : ByteArray} {fold : Bool} {X : Nat → Prop} (h : NxI w b0 o B l c m e sv first p fold W) (hk : Keeps X W W') (hX : ∀ b, X b → b0 + 2 < b ∧ b ≠ o ∧ b ≠ o + 1 ∧ w.heap.size ≤ b ∧ (b < B ∨ B + 4 ≤ b)) : NxI w b0 o B l c m e sv first p fold W' :=
  ⟨h.at'.keeps hk (fun h => by have := hX _ h; omega), h.r.keeps hk (fun h => by have := hX _ h; omega), h.q.keeps hk (fun h => by have := hX _ h; omega), h.out.keeps hk (fun h => by have := hX _ h; omega), h.e'.keeps hk (fun h => by have := hX _ h; omega), h.m'.keeps hk (fun b hb => (hX b hb).2.2.2)⟩
theorem NxI.sees {w W W' : World} {b0 o B : Nat} {l c : Int} {m : Mt} {e : Int} {sv : Value} {first : Int} {p : ByteArray} {fold : Bool} (h : NxI w b0 o B l c m e sv first p fold W) (hs : Sees W W') : NxI w b0 o B l c m e sv first p fold W' :=
  ⟨h.at'.sees hs, h.r.sees hs, h.q.sees hs, h.out.sees hs, h.e'.sees hs, h.m'.sees hs⟩
section
variable {w : World} {a : Option Addr} {n cp : Nat} {ls : List Ln} {first : Int} {p : ByteArray}
set_option maxHeartbeats 4000000 in
set_option maxRecDepth 100000 in
theorem next_err (ht : Tabs w) (ha : lnEl.Rd (fun b => b < w.heap.size) w (.slice a n cp) ls) (hn : ls.length ≤ 1000000) (hc : ∀ x ∈ ls, x.cells.length ≤ 1000000) (hp : p.size ≤ 1000000000) (fold : Bool) (l c k : Int) (h : foR ls first p l c = k) (hk : k ≠ 0) :
    Calls Tryd.prog 77 #[.slice a n cp, .int .i64 first, .string p, .bool fold, .agg #[.int .i64 l, .int .i64 c]] w fun e w' => e = .returned (.tuple #[zeroMt.val, .int .i64 k]) ∧ Sees w w' := by
  have K := Lib.hid (fun W (hs : Sees w W) => by have q := found_any _ _ ls W (ht.sees hs) (ha.sees hs) hn hc first p hp l c; rw [h] at q; exact q)
  have hk2 : (k == 0) = false := by simpa using hk
  have hk3 : (k != 0) = true := by simpa using hk
  clear h ht ha
  go_enter Tryd.func77, Tryd.ntmps77
  go_wp2_with fail
  refine calls_world fun W1 hW1 => ?_
  have s1 : Sees w W1 := by subst hW1; exact (((Sees.refl w).alloc _).alloc _).alloc _
  have r1 : MtAt W1 (w.heap.size + 1) zeroMt ∧ Bx W1 (w.heap.size + 2) 26 (.int .i64 0) := by
    subst hW1
    refine ⟨?_, Bx.new (by simp)⟩
    have q := heap_alloc_new (w.alloc (.cells #[.int .i64 l, .int .i64 c] 31)) (.cells #[.int .i64 0, .int .i64 0, .int .i64 0, .int .i64 0] 33)
    rw [World.size_alloc] at q
    exact MtAt.sees q ((Sees.refl _).alloc _)
  clear hW1
  refine (K.out W1 s1).mono ?_
  rintro e W2 ⟨rfl, s2⟩
  have HM := Lib.hid (r1.1.sees s2)
  have HE := Lib.hid (r1.2.sees s2)
  have HS := Lib.hid (s1.trans s2)
  have m1 := HM.out.c
  have m2 := HM.out.fr
  have e1 := HE.out.c
  have e2 := HE.out.fr
  obtain ⟨m11, m12, m13, m14⟩ := m1
  clear r1 s1 s2
  go_wp2
  have hq : MtAt ((put4 W2 (w.heap.size + 1) zeroMt).setCell ⟨w.heap.size + 2, 0, none⟩ (.int .i64 k)) (w.heap.size + 1) zeroMt := (put4_at HM.out zeroMt).keeps (Keeps.setCell (F := fun y => y = w.heap.size + 2) (Keeps.refl _ _) (p := ⟨w.heap.size + 2, 0, none⟩) (fun _ => rfl) _) (by omega)
  have hb : Bx ((put4 W2 (w.heap.size + 1) zeroMt).setCell ⟨w.heap.size + 2, 0, none⟩ (.int .i64 k)) (w.heap.size + 2) 26 (.int .i64 k) := (HE.out.keeps (put4_keeps (F := fun y => y = w.heap.size + 1) (Keeps.refl _ W2) (.inr rfl) zeroMt) (by omega)).set _
  exact bodyPost_ret (results_mm rfl rfl rfl hq hb) rfl ⟨rfl, (sees_put4 HS.out (by omega) zeroMt).setCell (p := ⟨w.heap.size + 2, 0, none⟩) (by show w.heap.size ≤ w.heap.size + 2; omega) _⟩
/-- Which match is kept, if none has been behind the place. -/
def keptM (ms : List Mt) (j : Nat) : Mt := if j = 0 then zeroMt else ms.headD zeroMt
def keptE (j : Nat) : Int := if j = 0 then 9 else 0
theorem foR_zero {ls : List Ln} {first : Int} {p : ByteArray} {l c : Int} (h : foR ls first p l c = 0) : ckR ls first p = 0 := by
  unfold foR at h
  split at h
  · assumption
  · cases h
theorem nextR_of {ms : List Mt} {j : Nat} {x : Mt} {l c : Int} (hx : ms[j]? = some x) (hb : x.beh l c = true) (hn : ∀ i y, i < j → ms[i]? = some y → y.beh l c = false) : nextR ms l c = x ∧ noneE ms = 0 := by
  cases ms with
  | nil => cases hx
  | cons d r => exact ⟨nextD_at hx hb hn, rfl⟩
theorem nextR_none {ms : List Mt} {l c : Int} (hn : ∀ i y, i < ms.length → ms[i]? = some y → y.beh l c = false) : nextR ms l c = keptM ms ms.length ∧ noneE ms = keptE ms.length := by
  cases ms with
  | nil => exact ⟨rfl, rfl⟩
  | cons d r =>
    refine ⟨?_, rfl⟩
    show nextD d l c (d :: r) = d
    refine nextD_none fun m hm => ?_
    obtain ⟨i, hi, e⟩ := List.mem_iff_getElem.1 hm
    exact hn i m hi (by rw [List.getElem?_eq_getElem hi, e])
set_option maxHeartbeats 8000000 in
set_option maxRecDepth 100000 in
theorem next_ok (hst : Std w) (ht : Tabs w) (ha : lnEl.Rd (fun b => b < w.heap.size) w (.slice a n cp) ls) (fold : Bool) (l c : Int) (h : foR ls first p l c = 0) :
    Calls Tryd.prog 77 #[.slice a n cp, .int .i64 first, .string p, .bool fold, .agg #[.int .i64 l, .int .i64 c]] w fun e w' => e = .returned (.tuple #[(nextR (allM ls first p.data.toList fold) l c).val, .int .i64 (noneE (allM ls first p.data.toList fold))]) ∧ Sees w w' := by
  have hck := foR_zero h
  obtain ⟨f1, f2, f3, f4, _⟩ := ck_facts hck
  have hnn : n = ls.length := ha.len
  have K := Lib.hid (fun W (hs : Sees w W) => by have q := found_any _ _ ls W (ht.sees hs) (ha.sees hs) (by omega) (fun x hx => by have := f2 x hx; omega) first p (by omega) l c; rw [h] at q; exact q)
  have KM := Lib.hid (fun W => matches_any a n cp first p fold (by omega) W)
  have HSQ := Lib.hid (fun B => seq_of (w := w) (B := B) (a := a) (cp := cp) (first := first) fold (fun b => b < w.heap.size) hnn hck)
  have HST := Lib.hid hst
  have HA := Lib.hid ha
  generalize allM ls first p.data.toList fold = ms at *
  clear h hst ha ht f1 f2 f3 f4 hnn hck
  refine callsIn_wide (n := 0) |>.1 ?_
  refine callsIn_of_wp_marks Tryd.func77 rfl trivial ?_ rfl
  refine wpIn_wide.2 ?_
  simp only [Tryd.ntmps77, List.size_toArray, List.length_cons, List.length_nil, Nat.reduceAdd, Nat.reduceSub, Array.replicate_succ, Array.replicate_zero, List.push_toArray, List.append_toArray, List.nil_append, List.cons_append]
  go_wp2_with fail
  refine calls_world fun W1 hW1 => ?_
  have s1 : Sees w W1 := by subst hW1; exact (((Sees.refl w).alloc _).alloc _).alloc _
  have r1 : PlAt W1 w.heap.size l c ∧ MtAt W1 (w.heap.size + 1) zeroMt ∧ Bx W1 (w.heap.size + 2) 26 (.int .i64 0) := by
    subst hW1
    refine ⟨?_, ?_, Bx.new (by simp)⟩
    · have q : PlAt _ _ l c := heap_alloc_new w (.cells #[.int .i64 l, .int .i64 c] 31)
      exact (q.sees ((Sees.refl _).alloc _)).sees ((Sees.refl _).alloc _)
    have q := heap_alloc_new (w.alloc (.cells #[.int .i64 l, .int .i64 c] 31)) (.cells #[.int .i64 0, .int .i64 0, .int .i64 0, .int .i64 0] 33)
    rw [World.size_alloc] at q
    exact MtAt.sees q ((Sees.refl _).alloc _)
  clear hW1
  refine (K.out W1 s1).mono ?_
  rintro e W2 ⟨rfl, s2⟩
  have R2 := Lib.hid (⟨r1.1.sees s2, r1.2.1.sees s2, r1.2.2.sees s2⟩ : PlAt W2 w.heap.size l c ∧ MtAt W2 (w.heap.size + 1) zeroMt ∧ Bx W2 (w.heap.size + 2) 26 (.int .i64 0))
  have S2 := Lib.hid (s1.trans s2)
  have hz2 : w.heap.size + 2 < W2.heap.size := R2.out.2.2.lt
  clear s1 r1 s2
  go_wp2_with fail
  refine calls_world fun W3 hW3 => ?_
  have hk3 : Sees W2 W3 := by subst hW3; exact (((Sees.refl W2).alloc _).alloc _)
  have r3 : MtAt W3 W2.heap.size zeroMt ∧ Bx W3 (W2.heap.size + 1) 26 (.int .i64 9) := by
    subst hW3
    have q : MtAt _ _ zeroMt := heap_alloc_new W2 (.cells #[.int .i64 0, .int .i64 0, .int .i64 0, .int .i64 0] 33)
    exact ⟨q.sees ((Sees.refl _).alloc _), Bx.new (by simp)⟩
  have hz3 : W3.heap.size = W2.heap.size + 2 := by subst hW3; simp
  refine (KM.out _).mono ?_
  rintro e W4 ⟨rfl, hm, s4⟩
  have hz4 : W3.heap.size + 4 ≤ W4.heap.size := hm.d.lt
  have s34 := hk3.trans s4
  have I4 := Lib.hid (⟨R2.out.1.sees s34, R2.out.2.1.sees s34, R2.out.2.2.sees s34, r3.1.sees s4, r3.2.sees s4, hm, S2.out.trans s34⟩ : NxI w w.heap.size W2.heap.size W3.heap.size l c zeroMt 9 (.slice a n cp) first (lowP fold p) fold W4)
  have hzB : W3.heap.size = W2.heap.size + 2 := hz3
  clear hk3 r3 hm s4 s34 hW3 hz3 R2 S2 K KM
  have hz3 : W2.heap.size + 2 ≤ W3.heap.size := by omega
  clear hzB
  generalize W3.heap.size = B at *
  generalize W2.heap.size = o at *
  obtain ⟨b0, hb0⟩ : ∃ b0, b0 = w.heap.size := ⟨_, rfl⟩
  rw [← hb0] at I4 hz2 ⊢
  have HB0 := Lib.hid hb0
  have hw1 : w.heap.size ≤ b0 := by omega
  clear hb0
  go_wp2_with fail
  refine wp_range 116 #[.pointer (some ⟨B, 0, none⟩), .pointer (some ⟨B + 1, 0, none⟩), .pointer (some ⟨B + 3, 0, none⟩), .pointer (some ⟨B + 2, 0, none⟩)] Mt.val _ _ (HSQ.out B) (enters_of Tryd.func116 (by kernel_rfl) rfl) rfl rfl
    (fun j O W => O = (fun b => b = b0 + 1 ∨ b = b0 + 2 ∨ b = o ∨ b = o + 1) ∧ (∀ i y, i < j → ms[i]? = some y → y.beh l c = false) ∧ NxI w b0 o B l c (keptM ms j) (keptE j) (.slice a n cp) first (lowP fold p) fold W)
    (fun e W => e = .ret ∧ ∃ m, m = nextR ms l c ∧ noneE ms = 0 ∧ MtAt W (b0 + 1) m ∧ Bx W (b0 + 2) 26 (.int .i64 0) ∧ Sees w W) (fun b => b = b0 + 1 ∨ b = b0 + 2 ∨ b = o ∨ b = o + 1)
    ?keep ?keepx ?mem ?own ⟨rfl, fun i y hi => absurd hi (Nat.not_lt_zero i), I4.out⟩ ?round ?done ?leave ?ret
  case keep =>
    rintro j O W W' ⟨h0, h1, h2⟩ hk
    exact ⟨h0, h1, h2.keeps hk (fun b hb => by omega)⟩
  case keepx =>
    rintro e W W' ⟨h0, m, h1, h2, h3, h4, h5⟩ hk
    refine ⟨h0, m, h1, h2, h3.keeps hk (by omega), h4.keeps hk (by omega), ((Keeps.of_sees (F := fun _ => False) h5).trans' hk (fun b hb e => by omega)).sees_end (fun _ _ h => h)⟩
  case mem =>
    rintro j O W ⟨_, _, h2⟩
    exact h2.m'.mem HA.out HST.out
  case own =>
    rintro j O W ⟨rfl, _, h2⟩ b (rfl | rfl | rfl | rfl)
    · exact ⟨h2.r.lt, by omega, by omega⟩
    · exact ⟨h2.q.lt, by omega, by omega⟩
    · exact ⟨h2.out.lt, by omega, by omega⟩
    · exact ⟨h2.e'.lt, by omega, by omega⟩
  case leave => rintro id W ⟨h, _⟩; cases h
  case ret =>
    rintro W ⟨_, m, rfl, hn, h3, h4, h5⟩ hD
    have hDk := Keeps.putObj_one W W4.heap.size (.deferred none)
    refine marks_ret rfl hD (results_mm rfl rfl rfl (h3.keeps hDk (by omega)) (h4.keeps hDk (by omega))) ⟨by rw [hn], sees_put h5 (by omega)⟩
  case round =>
    rintro L j O x W hx ⟨rfl, h1, h2⟩ hz
    have hxv : Mt.val x = .agg #[.int .i64 x.l0, .int .i64 x.c0, .int .i64 x.l1, .int .i64 x.c1] := rfl
    rw [hxv]
    have HX := Lib.hid hx
    have H1 := Lib.hid h1
    clear hx hxv h1
    gi_wp2
    have sA : Sees W (W.alloc (.cells #[.int .i64 x.l0, .int .i64 x.c0, .int .i64 x.l1, .int .i64 x.c1] 33)) := (Sees.refl W).alloc _
    refine ⟨fun A => NxI w b0 o B l c (keptM ms j) (keptE j) (.slice a n cp) first (lowP fold p) fold A ∧ MtAt A W.heap.size x, ⟨h2.sees sA, heap_alloc_new W _⟩, fun A A' hA hk => ⟨hA.1.keeps hk (fun b hb => by omega), hA.2.keeps hk (by omega)⟩, sA, fun W' hW' hz' => ?_⟩
    obtain ⟨h4, h5⟩ := hW'
    have hzz := h2.at'.lt
    clear sA h2
    have H4 := Lib.hid h4
    have H5 := Lib.hid h5
    obtain ⟨m0, m1, m2, m3⟩ := h5.c
    obtain ⟨p0, p1⟩ := h4.at'.cells
    have hzb : W.heap.size < W'.heap.size := h5.lt
    clear h4 h5
    have KB := Lib.hid (before_any l c x.l0 x.c0 W')
    rw [befB_beh] at KB
    rcases Bool.eq_false_or_eq_true (x.beh l c) with hb | hb
    · rw [hb] at KB
      gi_wp2_with fail
      refine ⟨trivial, rfl, (CallsIn.inRound L (callsIn_wide.2 KB.out)).mono ?_⟩
      rintro e W5 ⟨rfl, s5⟩
      clear m0 m1 m2 m3 p0 p1
      have H6 := Lib.hid (H4.out.sees s5)
      obtain ⟨m0, m1, m2, m3⟩ := (H5.out.sees s5).c
      have q0 := H6.out.q.c
      have q1 := H6.out.q.fr
      obtain ⟨r0, r1, r2, r3⟩ := H6.out.r.c
      have r4 := H6.out.r.fr
      have HS5 := Lib.hid s5
      clear s5
      gi_wp2
      have hX := nextR_of HX.out hb H1.out
      have hk1 : Keeps (fun b => b = b0 + 1 ∨ b = b0 + 2 ∨ b = o ∨ b = o + 1) W' (put4 W5 (b0 + 1) x) := put4_keeps (Keeps.of_sees HS5.out) (.inr (.inl rfl)) x
      have hk2 : Keeps (fun b => b = b0 + 1 ∨ b = b0 + 2 ∨ b = o ∨ b = o + 1) W' ((put4 W5 (b0 + 1) x).setCell ⟨b0 + 2, 0, none⟩ (.int .i64 0)) := hk1.setCell (p := ⟨b0 + 2, 0, none⟩) (fun _ => .inr (.inl rfl)) _
      have hB : Bx (put4 W5 (b0 + 1) x) (b0 + 2) 26 (.int .i64 0) := H6.out.q.keeps (put4_keeps (F := fun y => y = b0 + 1) (Keeps.refl _ W5) (.inr rfl) x) (by omega)
      have hM : MtAt ((put4 W5 (b0 + 1) x).setCell ⟨b0 + 2, 0, none⟩ (.int .i64 0)) (b0 + 1) x := (put4_at H6.out.r x).keeps (Keeps.setCell (F := fun y => y = b0 + 2) (Keeps.refl _ _) (p := ⟨b0 + 2, 0, none⟩) (fun _ => rfl) _) (by omega)
      exact ⟨⟨rfl, x, hX.1.symm, hX.2, hM, hB.set _, (sees_put4 H6.out.m'.s (by omega) x).setCell (p := ⟨b0 + 2, 0, none⟩) (by show w.heap.size ≤ b0 + 2; omega) _⟩, hk2⟩
    · rw [hb] at KB
      have H1' : Hid (∀ i y, i < j + 1 → ms[i]? = some y → y.beh l c = false) := fun i y hi hy => by
        rcases Nat.lt_or_eq_of_le (Nat.le_of_lt_succ hi) with h | rfl
        · exact H1.out i y h hy
        · rw [HX.out] at hy; cases hy; exact hb
      rcases Nat.eq_zero_or_pos j with rfl | hj
      · gi_wp2_with fail
        refine ⟨trivial, rfl, (CallsIn.inRound L (callsIn_wide.2 KB.out)).mono ?_⟩
        rintro e W5 ⟨rfl, s5⟩
        clear m0 m1 m2 m3 p0 p1
        have H6 := Lib.hid (H4.out.sees s5)
        obtain ⟨m0, m1, m2, m3⟩ := (H5.out.sees s5).c
        have q0 : W5.cell? ⟨o + 1, 0, none⟩ = some (.int .i64 9) := H6.out.e'.c
        have q1 := H6.out.e'.fr
        obtain ⟨r0, r1, r2, r3⟩ := H6.out.out.c
        have r4 := H6.out.out.fr
        have HS5 := Lib.hid s5
        clear s5
        gi_wp2
        have hk1 : Keeps (fun b => b = o ∨ b = o + 1) W' (put4 W5 o x) := put4_keeps (Keeps.of_sees HS5.out) (.inr (.inl rfl)) x
        have hk2 : Keeps (fun b => b = o ∨ b = o + 1) W' ((put4 W5 o x).setCell ⟨o + 1, 0, none⟩ (.int .i64 0)) := hk1.setCell (p := ⟨o + 1, 0, none⟩) (fun _ => .inr rfl) _
        have hB : Bx (put4 W5 o x) (o + 1) 26 (.int .i64 9) := H6.out.e'.keeps (put4_keeps (F := fun y => y = o) (Keeps.refl _ W5) (.inr rfl) x) (by omega)
        have hM : MtAt ((put4 W5 o x).setCell ⟨o + 1, 0, none⟩ (.int .i64 0)) o x := (put4_at H6.out.out x).keeps (Keeps.setCell (F := fun y => y = o + 1) (Keeps.refl _ _) (p := ⟨o + 1, 0, none⟩) (fun _ => rfl) _) (by omega)
        have hx1 : keptM ms (0 + 1) = x := by
          unfold keptM; rw [if_neg (by omega)]
          cases ms with
          | nil => exact absurd HX.out (by simp)
          | cons d r => have := HX.out; simpa using this
        refine ⟨_, ⟨rfl, H1'.out, ?_⟩, hk2.mono (fun b _ h => .inr (.inr h)), fun b hb => .inl hb⟩
        rw [hx1]
        exact ⟨H4.out.at'.keeps hk2 (by omega), H4.out.r.keeps hk2 (by omega), H4.out.q.keeps hk2 (by omega), hM, hB.set _, H4.out.m'.keeps hk2 (fun b hb => by omega)⟩
      · have hke : keptE j = 0 := if_neg (by omega)
        have hkm : keptM ms (j + 1) = keptM ms j := by unfold keptM; rw [if_neg (by omega), if_neg (by omega)]
        have hke' : keptE (j + 1) = keptE j := by rw [hke]; rfl
        gi_wp2_with fail
        refine ⟨trivial, rfl, (CallsIn.inRound L (callsIn_wide.2 KB.out)).mono ?_⟩
        rintro e W5 ⟨rfl, s5⟩
        have H6 := Lib.hid (H4.out.sees s5)
        have q0 := H6.out.e'.c
        rw [hke] at q0
        have HS5 := Lib.hid s5
        have HKM := Lib.hid hkm
        have HKE := Lib.hid hke'
        clear s5 hke hkm hke'
        gi_wp2
        refine ⟨_, ⟨rfl, H1'.out, ?_⟩, Keeps.of_sees HS5.out, fun b hb => .inl hb⟩
        rw [HKM.out, HKE.out]
        exact H6.out
  case done =>
    rintro O W ⟨_, h1, h2⟩ hD
    obtain ⟨x1, x2⟩ := nextR_none h1
    rw [← x1, ← x2] at h2
    obtain ⟨x, hx⟩ : ∃ x, x = nextR ms l c := ⟨_, rfl⟩
    obtain ⟨k, hk⟩ : ∃ k, k = noneE ms := ⟨_, rfl⟩
    rw [← hx, ← hk] at h2
    have H2 := Lib.hid h2
    have hDD := Lib.hid hD
    have HX := Lib.hid hx
    have HK := Lib.hid hk
    obtain ⟨m0, m1, m2, m3⟩ := h2.out.c
    have e0 := h2.e'.c
    have q0 := h2.q.c
    have q1 := h2.q.fr
    obtain ⟨r0, r1, r2, r3⟩ := h2.r.c
    have r4 := h2.r.fr
    clear h1 h2 x1 x2 hx hk hD
    go_wp2_with fail
    go_region
    go_wp2
    have hM : MtAt ((put4 W (b0 + 1) x).setCell ⟨b0 + 2, 0, none⟩ (.int .i64 k)).drew (b0 + 1) x := ((put4_at H2.out.r x).keeps (Keeps.setCell (F := fun y => y = b0 + 2) (Keeps.refl _ _) (p := ⟨b0 + 2, 0, none⟩) (fun _ => rfl) _) (by omega)).sees (Sees.refl _).drew
    have hB : Bx ((put4 W (b0 + 1) x).setCell ⟨b0 + 2, 0, none⟩ (.int .i64 k)).drew (b0 + 2) 26 (.int .i64 k) := ((H2.out.q.keeps (put4_keeps (F := fun y => y = b0 + 1) (Keeps.refl _ W) (.inr rfl) x) (by omega)).set _).sees (Sees.refl _).drew
    have hDk := Keeps.putObj_one ((put4 W (b0 + 1) x).setCell ⟨b0 + 2, 0, none⟩ (.int .i64 k)).drew W4.heap.size (.deferred none)
    have hS : Sees w ((put4 W (b0 + 1) x).setCell ⟨b0 + 2, 0, none⟩ (.int .i64 k)).drew := ((sees_put4 H2.out.m'.s (by omega) x).setCell (p := ⟨b0 + 2, 0, none⟩) (by show w.heap.size ≤ b0 + 2; omega) _).drew
    have hkW : Keeps (fun b => b = b0 + 1 ∨ b = b0 + 2) W ((put4 W (b0 + 1) x).setCell ⟨b0 + 2, 0, none⟩ (.int .i64 k)).drew := (((put4_keeps (F := fun b => b = b0 + 1 ∨ b = b0 + 2) (Keeps.refl _ W) (.inr (.inl rfl)) x).setCell (p := ⟨b0 + 2, 0, none⟩) (fun _ => .inr rfl) _)).trans (Keeps.of_sees (Sees.refl _).drew)
    refine marks_ret rfl ((hkW.block _ (Array.getElem?_eq_some_iff.1 hDD.out).1 (by omega)).trans hDD.out) (results_mm rfl rfl rfl (hM.keeps hDk (by omega)) (hB.keeps hDk (by omega))) ⟨by rw [HX.out, HK.out], sees_put hS (by omega)⟩
end
end Go.Proofs.YtfdolhppbimbmaaDoor

namespace Go.Proofs.YtfdolhppbimbmaaDoor
set_option linter.unusedVariables false
set_option linter.unusedSimpArgs false
open Go.RowKit Go.Shelf
attribute [local go_sem] Oper.semAt_some

/-- The last match before a place; the last match. -/
def pvO (l c : Int) (ms : List Mt) : Option Mt := (ms.filter (·.ahe l c)).getLast?
theorem pvO_yes {l c : Int} {ms : List Mt} {x : Mt} (h : x.ahe l c = true) : pvO l c (ms ++ [x]) = some x := by
  unfold pvO; rw [List.filter_append, show [x].filter (fun y => y.ahe l c) = [x] by simp [h]]; simp
theorem pvO_no {l c : Int} {ms : List Mt} {x : Mt} (h : x.ahe l c = false) : pvO l c (ms ++ [x]) = pvO l c ms := by
  unfold pvO; rw [List.filter_append, show [x].filter (fun y => y.ahe l c) = [] by simp [h]]; simp
theorem prevD_pvO (l c : Int) : ∀ (d : Mt) (ms : List Mt), prevD l c d ms = (pvO l c ms).getD d
  | d, [] => rfl
  | d, m :: ms => by
    rw [prevD, prevD_pvO]
    unfold pvO
    cases h : m.ahe l c
    · rw [show (m :: ms).filter (fun x => x.ahe l c) = ms.filter (fun x => x.ahe l c) by simp [h]]; rfl
    · rw [show (m :: ms).filter (fun x => x.ahe l c) = m :: ms.filter (fun x => x.ahe l c) by simp [h], if_pos rfl]
      generalize List.filter (fun x => x.ahe l c) ms = ys
      cases ys with
      | nil => rfl
      | cons y ys => rw [List.getLast?_cons_cons, List.getLast?_cons]; rfl
theorem prevR_eq (l c : Int) (ms : List Mt) : prevR ms l c = (pvO l c ms).getD (ms.getLast?.getD zeroMt) := by
  unfold prevR
  cases h : ms.getLast? with
  | none => have : ms = [] := List.getLast?_eq_none_iff.1 h; subst this; rfl
  | some d => exact prevD_pvO l c d ms
/-- What stands between two rounds of Prev. -/
structure PvI (w : World) (b0 o B : Nat) (l c : Int) (m : Option Mt) (y : Mt) (e : Int) (sv : Value) (first : Int) (p : ByteArray) (fold : Bool) (W : World) : Prop where
  at' : PlAt W b0 l c
  r : MtAt W (b0 + 1) zeroMt
  out : MtAt W o (m.getD zeroMt)
  las : MtAt W (o + 1) y
  e' : Bx W (o + 2) 26 (.int .i64 e)
  is : Bx W (o + 3) 4 (.bool m.isSome)
  m' : MaI w B sv first p fold W
theorem PvI.keeps {w W W' : World} {b0 o B : Nat} {l c : Int} {m : Option Mt} {y : Mt} {e : Int} {sv : Value} {first : Int} {p : ByteArray} {fold : Bool} {X : Nat → Prop} (h : PvI w b0 o B l c m y e sv first p fold W) (hk : Keeps X W W') (hX : ∀ b, X b → b0 + 1 < b ∧ (b < o ∨ o + 3 < b) ∧ w.heap.size ≤ b ∧ (b < B ∨ B + 4 ≤ b)) : PvI w b0 o B l c m y e sv first p fold W' :=
  ⟨h.at'.keeps hk (fun h => by have := hX _ h; omega), h.r.keeps hk (fun h => by have := hX _ h; omega), h.out.keeps hk (fun h => by have := hX _ h; omega), h.las.keeps hk (fun h => by have := hX _ h; omega), h.e'.keeps hk (fun h => by have := hX _ h; omega), h.is.keeps hk (fun h => by have := hX _ h; omega), h.m'.keeps hk (fun b hb => (hX b hb).2.2)⟩
theorem PvI.sees {w W W' : World} {b0 o B : Nat} {l c : Int} {m : Option Mt} {y : Mt} {e : Int} {sv : Value} {first : Int} {p : ByteArray} {fold : Bool} (h : PvI w b0 o B l c m y e sv first p fold W) (hs : Sees W W') : PvI w b0 o B l c m y e sv first p fold W' :=
  ⟨h.at'.sees hs, h.r.sees hs, h.out.sees hs, h.las.sees hs, h.e'.sees hs, h.is.sees hs, h.m'.sees hs⟩
def putA (W : World) (o : Nat) (x : Mt) : World := (put4 W o x).setCell ⟨o + 3, 0, none⟩ (.bool true)
def putB (W : World) (o : Nat) (x : Mt) : World := (put4 W (o + 1) x).setCell ⟨o + 2, 0, none⟩ (.int .i64 0)
theorem putA_keeps (W : World) (o : Nat) (x : Mt) : Keeps (fun b => b = o ∨ b = o + 3) W (putA W o x) := (put4_keeps (Keeps.refl _ W) (.inr (.inl rfl)) x).setCell (p := ⟨o + 3, 0, none⟩) (fun _ => .inr rfl) _
theorem putB_keeps (W : World) (o : Nat) (x : Mt) : Keeps (fun b => b = o + 1 ∨ b = o + 2) W (putB W o x) := (put4_keeps (Keeps.refl _ W) (.inr (.inl rfl)) x).setCell (p := ⟨o + 2, 0, none⟩) (fun _ => .inr rfl) _
section
variable {w W : World} {b0 o B : Nat} {l c : Int} {m : Option Mt} {y : Mt} {e : Int} {sv : Value} {first : Int} {p : ByteArray} {fold : Bool}
theorem PvI.setA (h : PvI w b0 o B l c m y e sv first p fold W) (h1 : w.heap.size ≤ b0) (h2 : b0 + 1 < o) (h3 : o + 4 ≤ B) (x : Mt) : PvI w b0 o B l c (some x) y e sv first p fold (putA W o x) := by
  have hk := putA_keeps W o x
  refine ⟨h.at'.keeps hk (by omega), h.r.keeps hk (by omega), ?_, h.las.keeps hk (by omega), h.e'.keeps hk (by omega), ?_, h.m'.keeps hk (fun b hb => by omega)⟩
  · exact (put4_at h.out x).keeps (Keeps.setCell (F := fun y => y = o + 3) (Keeps.refl _ _) (p := ⟨o + 3, 0, none⟩) (fun _ => rfl) _) (by omega)
  · exact (h.is.keeps (put4_keeps (F := fun y => y = o) (Keeps.refl _ W) (.inr rfl) x) (by omega)).set _
theorem PvI.setB (h : PvI w b0 o B l c m y e sv first p fold W) (h1 : w.heap.size ≤ b0) (h2 : b0 + 1 < o) (h3 : o + 4 ≤ B) (x : Mt) : PvI w b0 o B l c m x 0 sv first p fold (putB W o x) := by
  have hk := putB_keeps W o x
  refine ⟨h.at'.keeps hk (by omega), h.r.keeps hk (by omega), h.out.keeps hk (by omega), ?_, ?_, h.is.keeps hk (by omega), h.m'.keeps hk (fun b hb => by omega)⟩
  · exact (put4_at h.las x).keeps (Keeps.setCell (F := fun y => y = o + 2) (Keeps.refl _ _) (p := ⟨o + 2, 0, none⟩) (fun _ => rfl) _) (by omega)
  · exact (h.e'.keeps (put4_keeps (F := fun y => y = o + 1) (Keeps.refl _ W) (.inr rfl) x) (by omega)).set _
end
section
variable {w : World} {a : Option Addr} {n cp : Nat} {ls : List Ln} {first : Int} {p : ByteArray}
set_option maxHeartbeats 4000000 in
set_option maxRecDepth 100000 in
theorem prev_err (ht : Tabs w) (ha : lnEl.Rd (fun b => b < w.heap.size) w (.slice a n cp) ls) (hn : ls.length ≤ 1000000) (hc : ∀ x ∈ ls, x.cells.length ≤ 1000000) (hp : p.size ≤ 1000000000) (fold : Bool) (l c k : Int) (h : foR ls first p l c = k) (hk : k ≠ 0) :
    Calls Tryd.prog 112 #[.slice a n cp, .int .i64 first, .string p, .bool fold, .agg #[.int .i64 l, .int .i64 c]] w fun e w' => e = .returned (.tuple #[zeroMt.val, .int .i64 k]) ∧ Sees w w' := by
  have K := Lib.hid (fun W (hs : Sees w W) => by have q := found_any _ _ ls W (ht.sees hs) (ha.sees hs) hn hc first p hp l c; rw [h] at q; exact q)
  have hk2 : (k == 0) = false := by simpa using hk
  have hk3 : (k != 0) = true := by simpa using hk
  clear h ht ha
  go_enter Tryd.func112, Tryd.ntmps112
  go_wp2_with fail
  refine calls_world fun W1 hW1 => ?_
  have s1 : Sees w W1 := by subst hW1; exact ((Sees.refl w).alloc _).alloc _
  have r1 : MtAt W1 (w.heap.size + 1) zeroMt := by
    subst hW1
    have q := heap_alloc_new (w.alloc (.cells #[.int .i64 l, .int .i64 c] 31)) (.cells #[.int .i64 0, .int .i64 0, .int .i64 0, .int .i64 0] 33)
    rw [World.size_alloc] at q
    exact q
  clear hW1
  refine (K.out W1 s1).mono ?_
  rintro e W2 ⟨rfl, s2⟩
  have HM := Lib.hid (r1.sees s2)
  have HS := Lib.hid (s1.trans s2)
  have m1 := HM.out.c
  have m2 := HM.out.fr
  obtain ⟨m11, m12, m13, m14⟩ := m1
  clear r1 s1 s2
  go_wp2
  exact bodyPost_ret (results_mt rfl rfl rfl (put4_at HM.out zeroMt)) rfl ⟨rfl, sees_put4 HS.out (by omega) zeroMt⟩
set_option maxHeartbeats 8000000 in
set_option maxRecDepth 100000 in
theorem prev_ok (hst : Std w) (ht : Tabs w) (ha : lnEl.Rd (fun b => b < w.heap.size) w (.slice a n cp) ls) (fold : Bool) (l c : Int) (h : foR ls first p l c = 0) :
    Calls Tryd.prog 112 #[.slice a n cp, .int .i64 first, .string p, .bool fold, .agg #[.int .i64 l, .int .i64 c]] w fun e w' => e = .returned (.tuple #[(prevR (allM ls first p.data.toList fold) l c).val, .int .i64 (noneE (allM ls first p.data.toList fold))]) ∧ Sees w w' := by
  have hck := foR_zero h
  obtain ⟨f1, f2, f3, f4, _⟩ := ck_facts hck
  have hnn : n = ls.length := ha.len
  have K := Lib.hid (fun W (hs : Sees w W) => by have q := found_any _ _ ls W (ht.sees hs) (ha.sees hs) (by omega) (fun x hx => by have := f2 x hx; omega) first p (by omega) l c; rw [h] at q; exact q)
  have KM := Lib.hid (fun W => matches_any a n cp first p fold (by omega) W)
  have HSQ := Lib.hid (fun B => seq_of (w := w) (B := B) (a := a) (cp := cp) (first := first) fold (fun b => b < w.heap.size) hnn hck)
  have HST := Lib.hid hst
  have HA := Lib.hid ha
  generalize allM ls first p.data.toList fold = ms at *
  clear h hst ha ht f1 f2 f3 f4 hnn hck
  refine callsIn_wide (n := 0) |>.1 ?_
  refine callsIn_of_wp_marks Tryd.func112 rfl trivial ?_ rfl
  refine wpIn_wide.2 ?_
  simp only [Tryd.ntmps112, List.size_toArray, List.length_cons, List.length_nil, Nat.reduceAdd, Nat.reduceSub, Array.replicate_succ, Array.replicate_zero, List.push_toArray, List.append_toArray, List.nil_append, List.cons_append]
  go_wp2_with fail
  refine calls_world fun W1 hW1 => ?_
  have s1 : Sees w W1 := by subst hW1; exact ((Sees.refl w).alloc _).alloc _
  have r1 : PlAt W1 w.heap.size l c ∧ MtAt W1 (w.heap.size + 1) zeroMt := by
    subst hW1
    refine ⟨?_, ?_⟩
    · have q : PlAt _ _ l c := heap_alloc_new w (.cells #[.int .i64 l, .int .i64 c] 31)
      exact q.sees ((Sees.refl _).alloc _)
    have q := heap_alloc_new (w.alloc (.cells #[.int .i64 l, .int .i64 c] 31)) (.cells #[.int .i64 0, .int .i64 0, .int .i64 0, .int .i64 0] 33)
    rw [World.size_alloc] at q
    exact q
  clear hW1
  refine (K.out W1 s1).mono ?_
  rintro e W2 ⟨rfl, s2⟩
  have R2 := Lib.hid (⟨r1.1.sees s2, r1.2.sees s2⟩ : PlAt W2 w.heap.size l c ∧ MtAt W2 (w.heap.size + 1) zeroMt)
  have S2 := Lib.hid (s1.trans s2)
  have hz2 : w.heap.size + 1 < W2.heap.size := R2.out.2.lt
  clear s1 r1 s2
  go_wp2_with fail
  refine calls_world fun W3 hW3 => ?_
  have hk3 : Sees W2 W3 := by subst hW3; exact (((((Sees.refl W2).alloc _).alloc _).alloc _).alloc _)
  have r3 : MtAt W3 W2.heap.size zeroMt ∧ MtAt W3 (W2.heap.size + 1) zeroMt ∧ Bx W3 (W2.heap.size + 2) 26 (.int .i64 9) ∧ Bx W3 (W2.heap.size + 3) 4 (.bool false) := by
    subst hW3
    refine ⟨?_, ?_, ?_, ?_⟩
    · have q : MtAt _ _ zeroMt := heap_alloc_new W2 (.cells #[.int .i64 0, .int .i64 0, .int .i64 0, .int .i64 0] 33)
      exact q.sees ((((Sees.refl _).alloc _).alloc _).alloc _)
    · have q := heap_alloc_new (W2.alloc (.cells #[.int .i64 0, .int .i64 0, .int .i64 0, .int .i64 0] 33)) (.cells #[.int .i64 0, .int .i64 0, .int .i64 0, .int .i64 0] 33)
      rw [World.size_alloc] at q
      have q : MtAt _ _ zeroMt := q
      exact q.sees (((Sees.refl _).alloc _).alloc _)
    · exact (Bx.new (by simp)).sees ((Sees.refl _).alloc _)
    · exact Bx.new (by simp)
  have hz3 : W3.heap.size = W2.heap.size + 4 := by subst hW3; simp
  refine (KM.out _).mono ?_
  rintro e W4 ⟨rfl, hm, s4⟩
  have hz4 : W3.heap.size + 4 ≤ W4.heap.size := hm.d.lt
  have s34 := hk3.trans s4
  have I4 := Lib.hid (⟨R2.out.1.sees s34, R2.out.2.sees s34, r3.1.sees s4, r3.2.1.sees s4, r3.2.2.1.sees s4, r3.2.2.2.sees s4, hm, S2.out.trans s34⟩ : PvI w w.heap.size W2.heap.size W3.heap.size l c none zeroMt 9 (.slice a n cp) first (lowP fold p) fold W4)
  have hzB : W3.heap.size = W2.heap.size + 4 := hz3
  clear hk3 r3 hm s4 s34 hW3 hz3 R2 S2 K KM
  have hz3 : W2.heap.size + 4 ≤ W3.heap.size := by omega
  clear hzB
  generalize W3.heap.size = B at *
  generalize W2.heap.size = o at *
  obtain ⟨b0, hb0⟩ : ∃ b0, b0 = w.heap.size := ⟨_, rfl⟩
  rw [← hb0] at I4 hz2 ⊢
  have HB0 := Lib.hid hb0
  have hw1 : w.heap.size ≤ b0 := by omega
  clear hb0
  go_wp2_with fail
  refine wp_range 116 #[.pointer (some ⟨B, 0, none⟩), .pointer (some ⟨B + 1, 0, none⟩), .pointer (some ⟨B + 3, 0, none⟩), .pointer (some ⟨B + 2, 0, none⟩)] Mt.val _ _ (HSQ.out B) (enters_of Tryd.func116 (by kernel_rfl) rfl) rfl rfl
    (fun j O W => O = (fun b => o ≤ b ∧ b ≤ o + 3) ∧ PvI w b0 o B l c (pvO l c (ms.take j)) ((ms.take j).getLast?.getD zeroMt) (keptE j) (.slice a n cp) first (lowP fold p) fold W)
    (fun _ _ => False) (fun b => o ≤ b ∧ b ≤ o + 3)
    ?keep (fun _ _ _ h => h.elim) ?mem ?own ⟨rfl, I4.out⟩ ?round ?done (fun _ _ h => h.elim) (fun _ h => h.elim)
  case keep =>
    rintro j O W W' ⟨h0, h2⟩ hk
    exact ⟨h0, h2.keeps hk (fun b hb => by omega)⟩
  case mem =>
    rintro j O W ⟨_, h2⟩
    exact h2.m'.mem HA.out HST.out
  case own =>
    rintro j O W ⟨rfl, h2⟩ b ⟨hb1, hb2⟩
    have := h2.is.lt
    exact ⟨by omega, by omega, by omega⟩
  case round =>
    rintro L j O x W hx ⟨rfl, h2⟩ hz
    have hxv : Mt.val x = .agg #[.int .i64 x.l0, .int .i64 x.c0, .int .i64 x.l1, .int .i64 x.c1] := rfl
    rw [hxv]
    have htk : ms.take (j + 1) = ms.take j ++ [x] := by rw [List.take_add_one, hx]; rfl
    have HT := Lib.hid htk
    clear hx hxv htk
    gi_wp2
    have sA : Sees W (W.alloc (.cells #[.int .i64 x.l0, .int .i64 x.c0, .int .i64 x.l1, .int .i64 x.c1] 33)) := (Sees.refl W).alloc _
    refine ⟨fun A => PvI w b0 o B l c (pvO l c (ms.take j)) ((ms.take j).getLast?.getD zeroMt) (keptE j) (.slice a n cp) first (lowP fold p) fold A ∧ MtAt A W.heap.size x, ⟨h2.sees sA, heap_alloc_new W _⟩, fun A A' hA hk => ⟨hA.1.keeps hk (fun b hb => by omega), hA.2.keeps hk (by omega)⟩, sA, fun W' hW' hz' => ?_⟩
    obtain ⟨h4, h5⟩ := hW'
    have hzz := h2.is.lt
    clear sA h2
    obtain ⟨mo, hmo⟩ : ∃ mo, mo = pvO l c (ms.take j) := ⟨_, rfl⟩
    obtain ⟨yo, hyo⟩ : ∃ yo, yo = (ms.take j).getLast?.getD zeroMt := ⟨_, rfl⟩
    rw [← hmo, ← hyo] at h4
    have HMO := Lib.hid hmo
    clear hmo hyo
    have H4 := Lib.hid h4
    have H5 := Lib.hid h5
    obtain ⟨m0, m1, m2, m3⟩ := h5.c
    obtain ⟨p0, p1⟩ := h4.at'.cells
    have hzb : W.heap.size < W'.heap.size := h5.lt
    clear h4 h5
    have KB := Lib.hid (before_any x.l0 x.c0 l c W')
    rw [befB_ahe] at KB
    rcases Bool.eq_false_or_eq_true (x.ahe l c) with hb | hb
    all_goals
      rw [hb] at KB
      gi_wp2_with fail
      refine ⟨trivial, rfl, (CallsIn.inRound L (callsIn_wide.2 KB.out)).mono ?_⟩
      rintro e W5 ⟨rfl, s5⟩
      clear m0 m1 m2 m3 p0 p1
      have H6 := Lib.hid (H4.out.sees s5)
      obtain ⟨m0, m1, m2, m3⟩ := (H5.out.sees s5).c
      have q0 := H6.out.e'.c
      have q1 := H6.out.e'.fr
      have i0 := H6.out.is.c
      have i1 := H6.out.is.fr
      obtain ⟨r0, r1, r2, r3⟩ := H6.out.out.c
      have r4 := H6.out.out.fr
      obtain ⟨n0, n1, n2, n3⟩ := H6.out.las.c
      have n4 := H6.out.las.fr
      have HS5 := Lib.hid s5
      clear s5
      gi_wp2
    · have hI := (H6.out.setA hw1 hz2 hz3 x).setB hw1 hz2 hz3 x
      have hk : Keeps (fun b => o ≤ b ∧ b ≤ o + 3) W' (putB (putA W5 o x) o x) := ((Keeps.of_sees HS5.out).trans ((putA_keeps W5 o x).mono (fun b _ h => by omega))).trans ((putB_keeps _ o x).mono (fun b _ h => by omega))
      refine ⟨_, ⟨rfl, ?_⟩, hk, fun b hb => .inl hb⟩
      rw [HT.out, pvO_yes hb, List.getLast?_concat]
      exact hI
    · have hI := H6.out.setB hw1 hz2 hz3 x
      have hk : Keeps (fun b => o ≤ b ∧ b ≤ o + 3) W' (putB W5 o x) := (Keeps.of_sees HS5.out).trans ((putB_keeps _ o x).mono (fun b _ h => by omega))
      refine ⟨_, ⟨rfl, ?_⟩, hk, fun b hb => .inl hb⟩
      rw [HT.out, pvO_no hb, List.getLast?_concat, ← HMO.out]
      exact hI
  case done =>
    rintro O W ⟨_, h2⟩ hD
    rw [List.take_of_length_le (Nat.le_refl _)] at h2
    have hP := prevR_eq l c ms
    have hN : noneE ms = keptE ms.length := by
      cases ms with
      | nil => rfl
      | cons d r => rfl
    rw [← hN] at h2
    obtain ⟨mo, hmo⟩ : ∃ mo, mo = pvO l c ms := ⟨_, rfl⟩
    obtain ⟨yo, hyo⟩ : ∃ yo, yo = ms.getLast?.getD zeroMt := ⟨_, rfl⟩
    obtain ⟨k, hk⟩ : ∃ k, k = noneE ms := ⟨_, rfl⟩
    rw [← hmo, ← hyo, ← hk] at h2
    rw [← hmo, ← hyo] at hP
    have H2 := Lib.hid h2
    have hDD := Lib.hid hD
    have HP := Lib.hid hP
    have HK := Lib.hid hk
    obtain ⟨m0, m1, m2, m3⟩ := h2.out.c
    obtain ⟨n0, n1, n2, n3⟩ := h2.las.c
    have e0 := h2.e'.c
    have i0 := h2.is.c
    obtain ⟨r0, r1, r2, r3⟩ := h2.r.c
    have r4 := h2.r.fr
    clear h2 hk hD hmo hyo hP hN
    have hend : ∀ (a : Act) (x : Mt), (a.defers = [{ target := .collected W4.heap.size, args := #[] }]) → a.tmps[10]?.getD undef = .pointer (some ⟨b0 + 1, 0, none⟩) → a.tmps[11]?.getD undef = .int .i64 k → x = prevR ms l c → bodyPostM Fence.wide 0 Tryd.prog Tryd.f112 (fun e w' => e = .returned (.tuple #[(prevR ms l c).val, .int .i64 (noneE ms)]) ∧ Sees w w') .ret a (put4 W (b0 + 1) x).drew := by
      intro a x hd ht1 ht2 hx
      have hM : MtAt (put4 W (b0 + 1) x).drew (b0 + 1) x := (put4_at H2.out.r x).sees (Sees.refl _).drew
      have hDk := Keeps.putObj_one (put4 W (b0 + 1) x).drew W4.heap.size (.deferred none)
      have hS : Sees w (put4 W (b0 + 1) x).drew := (sees_put4 H2.out.m'.s (by omega) x).drew
      have hkW : Keeps (fun b => b = b0 + 1) W (put4 W (b0 + 1) x).drew := (put4_keeps (F := fun b => b = b0 + 1) (Keeps.refl _ W) (.inr rfl) x).trans (Keeps.of_sees (Sees.refl _).drew)
      exact marks_ret hd ((hkW.block _ (Array.getElem?_eq_some_iff.1 hDD.out).1 (by omega)).trans hDD.out) (results_mt rfl ht1 ht2 (hM.keeps hDk (by omega))) ⟨by rw [← hx, HK.out], sees_put hS (by omega)⟩
    have HEND := Lib.hid hend
    clear hend
    cases mo with
    | none =>
      go_wp2_with fail
      go_region
      go_wp2
      exact HEND.out _ yo rfl rfl rfl HP.out.symm
    | some x =>
      go_wp2_with fail
      go_region
      go_wp2
      exact HEND.out _ x rfl rfl rfl HP.out.symm
end
end Go.Proofs.YtfdolhppbimbmaaDoor
