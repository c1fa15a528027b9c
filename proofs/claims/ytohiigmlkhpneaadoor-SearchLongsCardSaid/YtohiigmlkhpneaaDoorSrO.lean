/- search.Prev (42). The tables hold what the program's text lays. -/
import Derived.Test.YtohiigmlkhpneaaDoorSrN
namespace Go.Proofs.YtohiigmlkhpneaaDoor
set_option linter.unusedVariables false
set_option linter.unusedSimpArgs false
open Go.RowKit Go.Shelf
attribute [local go_sem] Oper.semAt_some

/-- The last match before a place; the last match. -/
def pvO (l c : Int) (ms : List Mt) : Option Mt := (ms.filter (·.ahe l c)).getLast?
theorem pvO_yes {l c : Int} {ms : List Mt} {x : Mt} (h : x.ahe l c = true) : pvO l c (ms ++ [x]) = some x := by
  unfold pvO; rw [List.filter_append, show [x].filter (fun y => y.ahe l c) = [x] by simp [h]]; simp
theorem pvO_no {l c : Int} {ms : List Mt} {x : Mt} (h : x.ahe l c = false) : pvO l c (ms ++ [x]) = pvO l c ms := by
  unfold pvO; rw [List.filter_append, show [x].filter (fun y => y.ahe l c) = [] by simp [h]]; simp
theorem prevD_pvO (l c : Int) : ∀ (d : Mt) (ms : List Mt), prevD l c d ms = (pvO l c ms).getD d
  | d, [] => rfl
  | d, m :: ms => by
    rw [prevD, prevD_pvO]
    unfold pvO
    cases h : m.ahe l c
    · rw [show (m :: ms).filter (fun x => x.ahe l c) = ms.filter (fun x => x.ahe l c) by simp [h]]; rfl
    · rw [show (m :: ms).filter (fun x => x.ahe l c) = m :: ms.filter (fun x => x.ahe l c) by simp [h], if_pos rfl]
      generalize List.filter (fun x => x.ahe l c) ms = ys
      cases ys with
      | nil => rfl
      | cons y ys => rw [List.getLast?_cons_cons, List.getLast?_cons]; rfl
theorem prevR_eq (l c : Int) (ms : List Mt) : prevR ms l c = (pvO l c ms).getD (ms.getLast?.getD zeroMt) := by
  unfold prevR
  cases h : ms.getLast? with
  | none => have : ms = [] := List.getLast?_eq_none_iff.1 h; subst this; rfl
  | some d => exact prevD_pvO l c d ms
/-- What stands between two rounds of Prev. -/
structure PvI (w : World) (b0 o B : Nat) (l c : Int) (m : Option Mt) (y : Mt) (e : Int) (sv : Value) (first : Int) (p : ByteArray) (fold : Bool) (W : World) : Prop where
  at' : PlAt W b0 l c
  r : MtAt W (b0 + 1) zeroMt
  out : MtAt W o (m.getD zeroMt)
  las : MtAt W (o + 1) y
  e' : Bx W (o + 2) 44 (.int .i64 e)
  is : Bx W (o + 3) 4 (.bool m.isSome)
  m' : MaI w B sv first p fold W
theorem PvI.keeps {w W W' : World} {b0 o B : Nat} {l c : Int} {m : Option Mt} {y : Mt} {e : Int} {sv : Value} {first : Int} {p : ByteArray} {fold : Bool} {X : Nat → Prop} (h : PvI w b0 o B l c m y e sv first p fold W) (hk : Keeps X W W') (hX : ∀ b, X b → b0 + 1 < b ∧ (b < o ∨ o + 3 < b) ∧ w.heap.size ≤ b ∧ (b < B ∨ B + 4 ≤ b)) : PvI w b0 o B l c m y e sv first p fold W' :=
  ⟨h.at'.keeps hk (fun h => by have := hX _ h; omega), h.r.keeps hk (fun h => by have := hX _ h; omega), h.out.keeps hk (fun h => by have := hX _ h; omega), h.las.keeps hk (fun h => by have := hX _ h; omega), h.e'.keeps hk (fun h => by have := hX _ h; omega), h.is.keeps hk (fun h => by have := hX _ h; omega), h.m'.keeps hk (fun b hb => (hX b hb).2.2)⟩
theorem PvI.sees {w W W' : World} {b0 o B : Nat} {l c : Int} {m : Option Mt} {y : Mt} {e : Int} {sv : Value} {first : Int} {p : ByteArray} {fold : Bool} (h : PvI w b0 o B l c m y e sv first p fold W) (hs : Sees W W') : PvI w b0 o B l c m y e sv first p fold W' :=
  ⟨h.at'.sees hs, h.r.sees hs, h.out.sees hs, h.las.sees hs, h.e'.sees hs, h.is.sees hs, h.m'.sees hs⟩
def putA (W : World) (o : Nat) (x : Mt) : World := (put4 W o x).setCell ⟨o + 3, 0, none⟩ (.bool true)
def putB (W : World) (o : Nat) (x : Mt) : World := (put4 W (o + 1) x).setCell ⟨o + 2, 0, none⟩ (.int .i64 0)
theorem putA_keeps (W : World) (o : Nat) (x : Mt) : Keeps (fun b => b = o ∨ b = o + 3) W (putA W o x) := (put4_keeps (Keeps.refl _ W) (.inr (.inl rfl)) x).setCell (p := ⟨o + 3, 0, none⟩) (fun _ => .inr rfl) _
theorem putB_keeps (W : World) (o : Nat) (x : Mt) : Keeps (fun b => b = o + 1 ∨ b = o + 2) W (putB W o x) := (put4_keeps (Keeps.refl _ W) (.inr (.inl rfl)) x).setCell (p := ⟨o + 2, 0, none⟩) (fun _ => .inr rfl) _
section
variable {w W : World} {b0 o B : Nat} {l c : Int} {m : Option Mt} {y : Mt} {e : Int} {sv : Value} {first : Int} {p : ByteArray} {fold : Bool}
theorem PvI.setA (h : PvI w b0 o B l c m y e sv first p fold W) (h1 : w.heap.size ≤ b0) (h2 : b0 + 1 < o) (h3 : o + 4 ≤ B) (x : Mt) : PvI w b0 o B l c (some x) y e sv first p fold (putA W o x) := by
  have hk := putA_keeps W o x
  refine ⟨h.at'.keeps hk (by omega), h.r.keeps hk (by omega), ?_, h.las.keeps hk (by omega), h.e'.keeps hk (by omega), ?_, h.m'.keeps hk (fun b hb => by omega)⟩
  · exact (put4_at h.out x).keeps (Keeps.setCell (F := fun y => y = o + 3) (Keeps.refl _ _) (p := ⟨o + 3, 0, none⟩) (fun _ => rfl) _) (by omega)
  · exact (h.is.keeps (put4_keeps (F := fun y => y = o) (Keeps.refl _ W) (.inr rfl) x) (by omega)).set _
theorem PvI.setB (h : PvI w b0 o B l c m y e sv first p fold W) (h1 : w.heap.size ≤ b0) (h2 : b0 + 1 < o) (h3 : o + 4 ≤ B) (x : Mt) : PvI w b0 o B l c m x 0 sv first p fold (putB W o x) := by
  have hk := putB_keeps W o x
  refine ⟨h.at'.keeps hk (by omega), h.r.keeps hk (by omega), h.out.keeps hk (by omega), ?_, ?_, h.is.keeps hk (by omega), h.m'.keeps hk (fun b hb => by omega)⟩
  · exact (put4_at h.las x).keeps (Keeps.setCell (F := fun y => y = o + 2) (Keeps.refl _ _) (p := ⟨o + 2, 0, none⟩) (fun _ => rfl) _) (by omega)
  · exact (h.e'.keeps (put4_keeps (F := fun y => y = o + 1) (Keeps.refl _ W) (.inr rfl) x) (by omega)).set _
end
section
variable {w : World} {a : Option Addr} {n cp : Nat} {ls : List Ln} {first : Int} {p : ByteArray}
set_option maxHeartbeats 4000000 in
set_option maxRecDepth 100000 in
theorem prev_err (ht : Tabs w) (ha : lnEl.Rd (fun b => b < w.heap.size) w (.slice a n cp) ls) (hn : ls.length ≤ 1000000) (hc : ∀ x ∈ ls, x.cells.length ≤ 1000000) (hp : p.size ≤ 1000000000) (fold : Bool) (l c k : Int) (h : foR ls first p l c = k) (hk : k ≠ 0) :
    Calls Tryd.prog 28 #[.slice a n cp, .int .i64 first, .string p, .bool fold, .agg #[.int .i64 l, .int .i64 c]] w fun e w' => e = .returned (.tuple #[zeroMt.val, .int .i64 k]) ∧ Sees w w' := by
  have K := Lib.hid (fun W (hs : Sees w W) => by have q := found_any _ _ ls W (ht.sees hs) (ha.sees hs) hn hc first p hp l c; rw [h] at q; exact q)
  have hk2 : (k == 0) = false := by simpa using hk
  have hk3 : (k != 0) = true := by simpa using hk
  clear h ht ha
  go_enter Tryd.func28, Tryd.ntmps28
  go_wp2_with fail
  refine calls_world fun W1 hW1 => ?_
  have s1 : Sees w W1 := by subst hW1; exact ((Sees.refl w).alloc _).alloc _
  have r1 : MtAt W1 (w.heap.size + 1) zeroMt := by
    subst hW1
    have q := heap_alloc_new (w.alloc (.cells #[.int .i64 l, .int .i64 c] 32)) (.cells #[.int .i64 0, .int .i64 0, .int .i64 0, .int .i64 0] 35)
    rw [World.size_alloc] at q
    exact q
  clear hW1
  refine (K.out W1 s1).mono ?_
  rintro e W2 ⟨rfl, s2⟩
  have HM := Lib.hid (r1.sees s2)
  have HS := Lib.hid (s1.trans s2)
  have m1 := HM.out.c
  have m2 := HM.out.fr
  obtain ⟨m11, m12, m13, m14⟩ := m1
  clear r1 s1 s2
  go_wp2
  exact bodyPost_ret (results_mt rfl rfl rfl (put4_at HM.out zeroMt)) rfl ⟨rfl, sees_put4 HS.out (by omega) zeroMt⟩
set_option maxHeartbeats 8000000 in
set_option maxRecDepth 100000 in
theorem prev_ok (hst : Std w) (ht : Tabs w) (ha : lnEl.Rd (fun b => b < w.heap.size) w (.slice a n cp) ls) (fold : Bool) (l c : Int) (h : foR ls first p l c = 0) :
    Calls Tryd.prog 28 #[.slice a n cp, .int .i64 first, .string p, .bool fold, .agg #[.int .i64 l, .int .i64 c]] w fun e w' => e = .returned (.tuple #[(prevR (allM ls first p.data.toList fold) l c).val, .int .i64 (noneE (allM ls first p.data.toList fold))]) ∧ Sees w w' := by
  have hck := foR_zero h
  obtain ⟨f1, f2, f3, f4, _⟩ := ck_facts hck
  have hnn : n = ls.length := ha.len
  have K := Lib.hid (fun W (hs : Sees w W) => by have q := found_any _ _ ls W (ht.sees hs) (ha.sees hs) (by omega) (fun x hx => by have := f2 x hx; omega) first p (by omega) l c; rw [h] at q; exact q)
  have KM := Lib.hid (fun W => matches_any a n cp first p fold (by omega) W)
  have HSQ := Lib.hid (fun B => seq_of (w := w) (B := B) (a := a) (cp := cp) (first := first) fold (fun b => b < w.heap.size) hnn hck)
  have HST := Lib.hid hst
  have HA := Lib.hid ha
  generalize allM ls first p.data.toList fold = ms at *
  clear h hst ha ht f1 f2 f3 f4 hnn hck
  refine callsIn_wide (n := 0) |>.1 ?_
  refine callsIn_of_wp_marks Tryd.func28 rfl trivial ?_ rfl
  refine wpIn_wide.2 ?_
  simp only [Tryd.ntmps28, List.size_toArray, List.length_cons, List.length_nil, Nat.reduceAdd, Nat.reduceSub, Array.replicate_succ, Array.replicate_zero, List.push_toArray, List.append_toArray, List.nil_append, List.cons_append]
  go_wp2_with fail
  refine calls_world fun W1 hW1 => ?_
  have s1 : Sees w W1 := by subst hW1; exact ((Sees.refl w).alloc _).alloc _
  have r1 : PlAt W1 w.heap.size l c ∧ MtAt W1 (w.heap.size + 1) zeroMt := by
    subst hW1
    refine ⟨?_, ?_⟩
    · have q : PlAt _ _ l c := heap_alloc_new w (.cells #[.int .i64 l, .int .i64 c] 32)
      exact q.sees ((Sees.refl _).alloc _)
    have q := heap_alloc_new (w.alloc (.cells #[.int .i64 l, .int .i64 c] 32)) (.cells #[.int .i64 0, .int .i64 0, .int .i64 0, .int .i64 0] 35)
    rw [World.size_alloc] at q
    exact q
  clear hW1
  refine (K.out W1 s1).mono ?_
  rintro e W2 ⟨rfl, s2⟩
  have R2 := Lib.hid (⟨r1.1.sees s2, r1.2.sees s2⟩ : PlAt W2 w.heap.size l c ∧ MtAt W2 (w.heap.size + 1) zeroMt)
  have S2 := Lib.hid (s1.trans s2)
  have hz2 : w.heap.size + 1 < W2.heap.size := R2.out.2.lt
  clear s1 r1 s2
  go_wp2_with fail
  refine calls_world fun W3 hW3 => ?_
  have hk3 : Sees W2 W3 := by subst hW3; exact (((((Sees.refl W2).alloc _).alloc _).alloc _).alloc _)
  have r3 : MtAt W3 W2.heap.size zeroMt ∧ MtAt W3 (W2.heap.size + 1) zeroMt ∧ Bx W3 (W2.heap.size + 2) 44 (.int .i64 9) ∧ Bx W3 (W2.heap.size + 3) 4 (.bool false) := by
    subst hW3
    refine ⟨?_, ?_, ?_, ?_⟩
    · have q : MtAt _ _ zeroMt := heap_alloc_new W2 (.cells #[.int .i64 0, .int .i64 0, .int .i64 0, .int .i64 0] 35)
      exact q.sees ((((Sees.refl _).alloc _).alloc _).alloc _)
    · have q := heap_alloc_new (W2.alloc (.cells #[.int .i64 0, .int .i64 0, .int .i64 0, .int .i64 0] 35)) (.cells #[.int .i64 0, .int .i64 0, .int .i64 0, .int .i64 0] 35)
      rw [World.size_alloc] at q
      have q : MtAt _ _ zeroMt := q
      exact q.sees (((Sees.refl _).alloc _).alloc _)
    · exact (Bx.new (by simp)).sees ((Sees.refl _).alloc _)
    · exact Bx.new (by simp)
  have hz3 : W3.heap.size = W2.heap.size + 4 := by subst hW3; simp
  refine (KM.out _).mono ?_
  rintro e W4 ⟨rfl, hm, s4⟩
  have hz4 : W3.heap.size + 4 ≤ W4.heap.size := hm.d.lt
  have s34 := hk3.trans s4
  have I4 := Lib.hid (⟨R2.out.1.sees s34, R2.out.2.sees s34, r3.1.sees s4, r3.2.1.sees s4, r3.2.2.1.sees s4, r3.2.2.2.sees s4, hm, S2.out.trans s34⟩ : PvI w w.heap.size W2.heap.size W3.heap.size l c none zeroMt 9 (.slice a n cp) first (lowP fold p) fold W4)
  have hzB : W3.heap.size = W2.heap.size + 4 := hz3
  clear hk3 r3 hm s4 s34 hW3 hz3 R2 S2 K KM
  have hz3 : W2.heap.size + 4 ≤ W3.heap.size := by omega
  clear hzB
  generalize W3.heap.size = B at *
  generalize W2.heap.size = o at *
  obtain ⟨b0, hb0⟩ : ∃ b0, b0 = w.heap.size := ⟨_, rfl⟩
  rw [← hb0] at I4 hz2 ⊢
  have HB0 := Lib.hid hb0
  have hw1 : w.heap.size ≤ b0 := by omega
  clear hb0
  go_wp2_with fail
  refine wp_range 38 #[.pointer (some ⟨B, 0, none⟩), .pointer (some ⟨B + 1, 0, none⟩), .pointer (some ⟨B + 3, 0, none⟩), .pointer (some ⟨B + 2, 0, none⟩)] Mt.val _ _ (HSQ.out B) (enters_of Tryd.func38 (by kernel_rfl) rfl) rfl rfl
    (fun j O W => O = (fun b => o ≤ b ∧ b ≤ o + 3) ∧ PvI w b0 o B l c (pvO l c (ms.take j)) ((ms.take j).getLast?.getD zeroMt) (keptE j) (.slice a n cp) first (lowP fold p) fold W)
    (fun _ _ => False) (fun b => o ≤ b ∧ b ≤ o + 3)
    ?keep (fun _ _ _ h => h.elim) ?mem ?own ⟨rfl, I4.out⟩ ?round ?done (fun _ _ h => h.elim) (fun _ h => h.elim)
  case keep =>
    rintro j O W W' ⟨h0, h2⟩ hk
    exact ⟨h0, h2.keeps hk (fun b hb => by omega)⟩
  case mem =>
    rintro j O W ⟨_, h2⟩
    exact h2.m'.mem HA.out HST.out
  case own =>
    rintro j O W ⟨rfl, h2⟩ b ⟨hb1, hb2⟩
    have := h2.is.lt
    exact ⟨by omega, by omega, by omega⟩
  case round =>
    rintro L j O x W hx ⟨rfl, h2⟩ hz
    have hxv : Mt.val x = .agg #[.int .i64 x.l0, .int .i64 x.c0, .int .i64 x.l1, .int .i64 x.c1] := rfl
    rw [hxv]
    have htk : ms.take (j + 1) = ms.take j ++ [x] := by rw [List.take_add_one, hx]; rfl
    have HT := Lib.hid htk
    clear hx hxv htk
    gi_wp2
    have sA : Sees W (W.alloc (.cells #[.int .i64 x.l0, .int .i64 x.c0, .int .i64 x.l1, .int .i64 x.c1] 35)) := (Sees.refl W).alloc _
    refine ⟨fun A => PvI w b0 o B l c (pvO l c (ms.take j)) ((ms.take j).getLast?.getD zeroMt) (keptE j) (.slice a n cp) first (lowP fold p) fold A ∧ MtAt A W.heap.size x, ⟨h2.sees sA, heap_alloc_new W _⟩, fun A A' hA hk => ⟨hA.1.keeps hk (fun b hb => by omega), hA.2.keeps hk (by omega)⟩, sA, fun W' hW' hz' => ?_⟩
    obtain ⟨h4, h5⟩ := hW'
    have hzz := h2.is.lt
    clear sA h2
    obtain ⟨mo, hmo⟩ : ∃ mo, mo = pvO l c (ms.take j) := ⟨_, rfl⟩
    obtain ⟨yo, hyo⟩ : ∃ yo, yo = (ms.take j).getLast?.getD zeroMt := ⟨_, rfl⟩
    rw [← hmo, ← hyo] at h4
    have HMO := Lib.hid hmo
    clear hmo hyo
    have H4 := Lib.hid h4
    have H5 := Lib.hid h5
    obtain ⟨m0, m1, m2, m3⟩ := h5.c
    obtain ⟨p0, p1⟩ := h4.at'.cells
    have hzb : W.heap.size < W'.heap.size := h5.lt
    clear h4 h5
    have KB := Lib.hid (before_any x.l0 x.c0 l c W')
    rw [befB_ahe] at KB
    rcases Bool.eq_false_or_eq_true (x.ahe l c) with hb | hb
    all_goals
      rw [hb] at KB
      gi_wp2_with fail
      refine ⟨trivial, rfl, (CallsIn.inRound L (callsIn_wide.2 KB.out)).mono ?_⟩
      rintro e W5 ⟨rfl, s5⟩
      clear m0 m1 m2 m3 p0 p1
      have H6 := Lib.hid (H4.out.sees s5)
      obtain ⟨m0, m1, m2, m3⟩ := (H5.out.sees s5).c
      have q0 := H6.out.e'.c
      have q1 := H6.out.e'.fr
      have i0 := H6.out.is.c
      have i1 := H6.out.is.fr
      obtain ⟨r0, r1, r2, r3⟩ := H6.out.out.c
      have r4 := H6.out.out.fr
      obtain ⟨n0, n1, n2, n3⟩ := H6.out.las.c
      have n4 := H6.out.las.fr
      have HS5 := Lib.hid s5
      clear s5
      gi_wp2
    · have hI := (H6.out.setA hw1 hz2 hz3 x).setB hw1 hz2 hz3 x
      have hk : Keeps (fun b => o ≤ b ∧ b ≤ o + 3) W' (putB (putA W5 o x) o x) := ((Keeps.of_sees HS5.out).trans ((putA_keeps W5 o x).mono (fun b _ h => by omega))).trans ((putB_keeps _ o x).mono (fun b _ h => by omega))
      refine ⟨_, ⟨rfl, ?_⟩, hk, fun b hb => .inl hb⟩
      rw [HT.out, pvO_yes hb, List.getLast?_concat]
      exact hI
    · have hI := H6.out.setB hw1 hz2 hz3 x
      have hk : Keeps (fun b => o ≤ b ∧ b ≤ o + 3) W' (putB W5 o x) := (Keeps.of_sees HS5.out).trans ((putB_keeps _ o x).mono (fun b _ h => by omega))
      refine ⟨_, ⟨rfl, ?_⟩, hk, fun b hb => .inl hb⟩
      rw [HT.out, pvO_no hb, List.getLast?_concat, ← HMO.out]
      exact hI
  case done =>
    rintro O W ⟨_, h2⟩ hD
    rw [List.take_of_length_le (Nat.le_refl _)] at h2
    have hP := prevR_eq l c ms
    have hN : noneE ms = keptE ms.length := by
      cases ms with
      | nil => rfl
      | cons d r => rfl
    rw [← hN] at h2
    obtain ⟨mo, hmo⟩ : ∃ mo, mo = pvO l c ms := ⟨_, rfl⟩
    obtain ⟨yo, hyo⟩ : ∃ yo, yo = ms.getLast?.getD zeroMt := ⟨_, rfl⟩
    obtain ⟨k, hk⟩ : ∃ k, k = noneE ms := ⟨_, rfl⟩
    rw [← hmo, ← hyo, ← hk] at h2
    rw [← hmo, ← hyo] at hP
    have H2 := Lib.hid h2
    have hDD := Lib.hid hD
    have HP := Lib.hid hP
    have HK := Lib.hid hk
    obtain ⟨m0, m1, m2, m3⟩ := h2.out.c
    obtain ⟨n0, n1, n2, n3⟩ := h2.las.c
    have e0 := h2.e'.c
    have i0 := h2.is.c
    obtain ⟨r0, r1, r2, r3⟩ := h2.r.c
    have r4 := h2.r.fr
    clear h2 hk hD hmo hyo hP hN
    have hend : ∀ (a : Act) (x : Mt), (a.defers = [{ target := .collected W4.heap.size, args := #[] }]) → a.tmps[10]?.getD undef = .pointer (some ⟨b0 + 1, 0, none⟩) → a.tmps[11]?.getD undef = .int .i64 k → x = prevR ms l c → bodyPostM Fence.wide 0 Tryd.prog Tryd.f28 (fun e w' => e = .returned (.tuple #[(prevR ms l c).val, .int .i64 (noneE ms)]) ∧ Sees w w') .ret a (put4 W (b0 + 1) x).drew := by
      intro a x hd ht1 ht2 hx
      have hM : MtAt (put4 W (b0 + 1) x).drew (b0 + 1) x := (put4_at H2.out.r x).sees (Sees.refl _).drew
      have hDk := Keeps.putObj_one (put4 W (b0 + 1) x).drew W4.heap.size (.deferred none)
      have hS : Sees w (put4 W (b0 + 1) x).drew := (sees_put4 H2.out.m'.s (by omega) x).drew
      have hkW : Keeps (fun b => b = b0 + 1) W (put4 W (b0 + 1) x).drew := (put4_keeps (F := fun b => b = b0 + 1) (Keeps.refl _ W) (.inr rfl) x).trans (Keeps.of_sees (Sees.refl _).drew)
      exact marks_ret hd ((hkW.block _ (Array.getElem?_eq_some_iff.1 hDD.out).1 (by omega)).trans hDD.out) (results_mt rfl ht1 ht2 (hM.keeps hDk (by omega))) ⟨by rw [← hx, HK.out], sees_put hS (by omega)⟩
    have HEND := Lib.hid hend
    clear hend
    cases mo with
    | none =>
      go_wp2_with fail
      go_region
      go_wp2
      exact HEND.out _ yo rfl rfl rfl HP.out.symm
    | some x =>
      go_wp2_with fail
      go_region
      go_wp2
      exact HEND.out _ x rfl rfl rfl HP.out.symm
end
end Go.Proofs.YtohiigmlkhpneaaDoor
