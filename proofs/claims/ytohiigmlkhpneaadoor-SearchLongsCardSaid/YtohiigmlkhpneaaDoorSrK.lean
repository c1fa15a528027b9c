/- search.matches and Count (42). The tables hold what the program's text lays. -/
import Derived.Test.YtohiigmlkhpneaaDoorSrJ
namespace Go.Proofs.YtohiigmlkhpneaaDoor
set_option linter.unusedVariables false
set_option linter.unusedSimpArgs false
open Go.RowKit Go.Shelf
attribute [local go_sem] Oper.semAt_some

/-- A pattern as it is looked for. -/
def lowP (fold : Bool) (p : ByteArray) : ByteArray := ⟨(p.data.toList.map (low fold)).toArray⟩
theorem lowP_list (fold : Bool) (p : ByteArray) : (lowP fold p).data.toList = p.data.toList.map (low fold) := rfl
theorem lowP_size (fold : Bool) (p : ByteArray) : (lowP fold p).size = p.size := by
  show (List.toArray _).size = _
  rw [List.size_toArray, List.length_map, ← Lib.size_eq]
theorem lowP_false (p : ByteArray) : lowP false p = p := bytes_ext (by rw [lowP_list, map_low_false])
set_option maxHeartbeats 4000000 in
set_option maxRecDepth 100000 in
theorem matches_any (a : Option Addr) (n cp : Nat) (first : Int) (p : ByteArray) (fold : Bool) (hp : p.size ≤ 100000000) (w : World) :
    Calls Tryd.prog 30 #[.slice a n cp, .int .i64 first, .string p, .bool fold] w fun e w' =>
      e = .returned (.func (.func 38) #[] #[.pointer (some ⟨w.heap.size, 0, none⟩), .pointer (some ⟨w.heap.size + 1, 0, none⟩), .pointer (some ⟨w.heap.size + 3, 0, none⟩), .pointer (some ⟨w.heap.size + 2, 0, none⟩)]) ∧
        MaMem w' w.heap.size (.slice a n cp) first (lowP fold p) fold ∧ Sees w w' := by
  obtain ⟨W1, hW1⟩ : ∃ W1, W1 = (((w.alloc (.cells #[.slice a n cp] 22)).alloc (.cells #[.int .i64 first] 3)).alloc (.cells #[.string p] 9)).alloc (.cells #[.bool fold] 4) := ⟨_, rfl⟩
  have hm : MaMem W1 w.heap.size (.slice a n cp) first p fold := by
    subst hW1
    exact ⟨(((Bx.new rfl).sees ((Sees.refl _).alloc _)).sees ((Sees.refl _).alloc _)).sees ((Sees.refl _).alloc _), ((Bx.new (by simp)).sees ((Sees.refl _).alloc _)).sees ((Sees.refl _).alloc _), (Bx.new (by simp)).sees ((Sees.refl _).alloc _), Bx.new (by simp)⟩
  have hs : Sees w W1 := by subst hW1; exact ((((Sees.refl w).alloc _).alloc _).alloc _).alloc _
  have HM := Lib.hid hm
  have HS := Lib.hid hs
  clear hm hs
  go_enter Tryd.func30, Tryd.ntmps30
  cases fold
  · go_upto_region 3 with fail
    refine wp_world fun W2 hW2 => ?_
    obtain rfl : W2 = W1 := by rw [hW2, hW1]
    clear hW2 hW1
    go_wp2
    go_ret
    exact ⟨rfl, by rw [lowP_false]; exact HM.out, HS.out⟩
  · have KF := Lib.hid (fun W => folded_any p (by omega) W)
    go_wp2_with fail
    refine calls_world fun W2 hW2 => ?_
    obtain rfl : W2 = W1 := by rw [hW2, hW1]
    clear hW2 hW1
    refine (KF.out _).mono ?_
    rintro e W3 ⟨rfl, s3⟩
    have HM3 := Lib.hid (HM.out.sees s3)
    have HS3 := Lib.hid (HS.out.trans s3)
    have c2 := HM3.out.p.c
    have f2 := HM3.out.p.fr
    clear s3
    go_wp2
    go_ret
    refine ⟨rfl, ?_, HS3.out.setCell (p := ⟨w.heap.size + 2, 0, none⟩) (by show w.heap.size ≤ w.heap.size + 2; omega) _⟩
    exact ⟨HM3.out.l.other (by omega) _, HM3.out.f.other (by omega) _, HM3.out.p.set _, HM3.out.d.other (by omega) _⟩
theorem lnOk_len {cs : List Cell} (h : lnOk cs = true) : cs.length ≤ 1000 := by
  unfold lnOk at h
  rw [Bool.and_eq_true, decide_eq_true_eq] at h
  exact h.1
/-- What is known where check has answered that all is well. -/
theorem ck_facts {ls : List Ln} {first : Int} {p : ByteArray} (h : ckR ls first p = 0) : ls.length ≤ 1000 ∧ (∀ x ∈ ls, x.cells.length ≤ 1000) ∧ (0 ≤ first ∧ first ≤ 1099511627776) ∧ (1 ≤ p.size ∧ p.size ≤ 200) ∧ ∀ x ∈ ls, x.cells.length = cols ls := by
  obtain ⟨h1, h2, h3⟩ := ckR_zero (by rw [h]; rfl)
  obtain ⟨k1, k2⟩ := rowsOk_ok h1
  exact ⟨h2, fun x hx => lnOk_len (k1 x hx).2.1, k2, patOk_ok h3, fun x hx => (k1 x hx).1⟩
theorem seq_of {w : World} {B : Nat} {a : Option Addr} {n cp : Nat} {ls : List Ln} {first : Int} {p : ByteArray} (fold : Bool) (F : Nat → Prop) (hnn : n = ls.length) (h : ckR ls first p = 0) :
    SeqK Tryd.prog 38 #[.pointer (some ⟨B, 0, none⟩), .pointer (some ⟨B + 1, 0, none⟩), .pointer (some ⟨B + 3, 0, none⟩), .pointer (some ⟨B + 2, 0, none⟩)] Mt.val (allM ls first p.data.toList fold) (MaM F B (.slice a n cp) ls first (lowP fold p) fold) := by
  obtain ⟨h1, h2, h3, h4, _⟩ := ck_facts h
  exact matches_seq F B a n cp ls first (lowP fold p) fold hnn (by omega) h2 h3 (by rw [lowP_size]; omega)
/-- What stands between two matches: the closure's boxes, and nothing old has turned. -/
structure MaI (w : World) (B : Nat) (v : Value) (first : Int) (p : ByteArray) (fold : Bool) (W : World) : Prop where
  m : MaMem W B v first p fold
  s : Sees w W
theorem MaI.sees {w W W' : World} {B : Nat} {v : Value} {first : Int} {p : ByteArray} {fold : Bool} (h : MaI w B v first p fold W) (hs : Sees W W') : MaI w B v first p fold W' := ⟨h.m.sees hs, h.s.trans hs⟩
theorem MaI.keeps {w W W' : World} {B : Nat} {v : Value} {first : Int} {p : ByteArray} {fold : Bool} {X : Nat → Prop} (h : MaI w B v first p fold W) (hk : Keeps X W W') (hX : ∀ b, X b → w.heap.size ≤ b ∧ (b < B ∨ B + 4 ≤ b)) : MaI w B v first p fold W' :=
  ⟨h.m.keeps hk (fun b h1 h2 hb => by have := (hX b hb).2; omega), ((Keeps.of_sees (F := fun _ => False) h.s).trans' hk (fun b hb e => by have := (hX b e).1; omega)).sees_end (fun _ _ h => h)⟩
theorem MaI.mem {w W : World} {B : Nat} {v : Value} {first : Int} {p : ByteArray} {fold : Bool} {ls : List Ln} (h : MaI w B v first p fold W) (hr : lnEl.Rd (fun b => b < w.heap.size) w v ls) (hs : Std w) : MaM (fun b => b < w.heap.size) B v ls first p fold W := ⟨h.m, hr.sees h.s, hs.sees h.s⟩

theorem sees_put {w W : World} {D : Nat} {o : Obj} (h : Sees w W) (hD : w.heap.size ≤ D) : Sees w (W.putObj D o) :=
  ((Keeps.of_sees (F := fun _ => False) h).trans' (⟨rfl, rfl, rfl, by rw [World.putObj_size]; exact Nat.le_refl _, fun b _ hb => World.putObj_heap_other hb⟩ : Keeps (fun b => b = D) W (W.putObj D o)) (fun b hb e => by omega)).sees_end (fun _ _ h => h)
section
variable {w : World} {a : Option Addr} {n cp : Nat} {ls : List Ln} {first : Int} {p : ByteArray}
set_option maxHeartbeats 4000000 in
set_option maxRecDepth 100000 in
theorem count_err (ht : Tabs w) (ha : lnEl.Rd (fun b => b < w.heap.size) w (.slice a n cp) ls) (hn : ls.length ≤ 1000000) (hc : ∀ x ∈ ls, x.cells.length ≤ 1000000) (hp : p.size ≤ 1000000000) (fold : Bool) (h : ckR ls first p = 2) :
    Calls Tryd.prog 20 #[.slice a n cp, .int .i64 first, .string p, .bool fold] w fun e w' => e = .returned (.tuple #[.int .i64 0, .int .i64 2]) ∧ Sees w w' := by
  have K := Lib.hid (by have q := check_any _ _ ls w ht ha hn hc first p hp; rw [h] at q; exact q)
  clear h
  go_enter Tryd.func20, Tryd.ntmps20
  go_wp2_with fail
  refine K.out.mono ?_
  rintro e W1 ⟨rfl, s1⟩
  go_wp2
  go_ret2
  exact ⟨rfl, s1⟩
set_option maxHeartbeats 8000000 in
set_option maxRecDepth 100000 in
theorem count_ok (hst : Std w) (ht : Tabs w) (ha : lnEl.Rd (fun b => b < w.heap.size) w (.slice a n cp) ls) (fold : Bool) (h : ckR ls first p = 0) (N : Nat) (hN : N = (allM ls first p.data.toList fold).length) (hN2 : N ≤ 1000000000) :
    Calls Tryd.prog 20 #[.slice a n cp, .int .i64 first, .string p, .bool fold] w fun e w' => e = .returned (.tuple #[.int .i64 N, .int .i64 0]) ∧ Sees w w' := by
  obtain ⟨f1, f2, f3, f4, _⟩ := ck_facts h
  have hnn : n = ls.length := ha.len
  have K := Lib.hid (by have q := check_any _ _ ls w ht ha (by omega) (fun x hx => by have := f2 x hx; omega) first p (by omega); rw [h] at q; exact q)
  have KM := Lib.hid (fun W => matches_any a n cp first p fold (by omega) W)
  have HSQ := Lib.hid (fun B => seq_of (w := w) (B := B) (a := a) (cp := cp) (first := first) fold (fun b => b < w.heap.size) hnn h)
  have HST := Lib.hid hst
  have HA := Lib.hid ha
  have HN := Lib.hid hN
  clear h hst ha ht f1 f2 f3 f4 hnn hN
  refine callsIn_wide (n := 0) |>.1 ?_
  refine callsIn_of_wp_marks Tryd.func20 rfl trivial ?_ rfl
  refine wpIn_wide.2 ?_
  simp only [Tryd.ntmps20, List.size_toArray, List.length_cons, List.length_nil, Nat.reduceAdd, Nat.reduceSub, Array.replicate_succ, Array.replicate_zero, List.push_toArray, List.append_toArray, List.nil_append, List.cons_append]
  go_wp2_with fail
  refine K.out.mono ?_
  rintro e W1 ⟨rfl, s1⟩
  go_wp2_with fail
  refine calls_world fun W2 hW2 => ?_
  have B2 : Bx W2 W1.heap.size 3 (.int .i64 0) := by subst hW2; exact Bx.new rfl
  have S2 : Sees w W2 := by subst hW2; exact s1.alloc _
  have hz1 := s1.size
  have hz2 : W1.heap.size < W2.heap.size := by subst hW2; simp
  clear hW2 s1
  generalize W1.heap.size = b0 at *
  refine (KM.out _).mono ?_
  rintro e W3 ⟨rfl, hm, s3⟩
  have I3 := Lib.hid (⟨hm, S2.trans s3⟩ : MaI w W2.heap.size _ first _ fold W3)
  have B3 := Lib.hid (B2.sees s3)
  have hz3 : W2.heap.size + 4 ≤ W3.heap.size := hm.d.lt
  clear B2 S2 hm s3
  generalize W2.heap.size = B at *
  go_wp2_with fail
  refine wp_range 38 #[.pointer (some ⟨B, 0, none⟩), .pointer (some ⟨B + 1, 0, none⟩), .pointer (some ⟨B + 3, 0, none⟩), .pointer (some ⟨B + 2, 0, none⟩)] Mt.val _ _ (HSQ.out B) (enters_of Tryd.func38 (by kernel_rfl) rfl) rfl rfl
    (fun j O W => O = (fun b => b = b0) ∧ Bx W b0 3 (.int .i64 (j : Int)) ∧ MaI w B (.slice a n cp) first (lowP fold p) fold W) (fun _ _ => False) (fun b => b = b0)
    ?keep (fun _ _ _ h => h.elim) ?mem ?own ⟨rfl, B3.out, I3.out⟩ ?round ?done (fun _ _ h => h.elim) (fun _ h => h.elim)
  case keep =>
    rintro j O W W' ⟨h1, h2, h3⟩ hk
    exact ⟨h1, h2.keeps hk (by omega), h3.keeps hk (fun b hb => by omega)⟩
  case mem =>
    rintro j O W ⟨_, _, h3⟩
    exact h3.mem HA.out HST.out
  case own =>
    rintro j O W ⟨rfl, h2, h3⟩ b rfl
    exact ⟨h2.lt, by omega, by omega⟩
  case round =>
    rintro l j O x W hx ⟨rfl, h2, h3⟩ hz
    have hj : j < N := by rw [HN.out]; exact (List.getElem?_eq_some_iff.1 hx).1
    gi_wp2
    refine ⟨fun W => Bx W b0 3 (.int .i64 (j : Int)) ∧ MaI w B (.slice a n cp) first (lowP fold p) fold W, ⟨h2, h3⟩, fun A A' hA hk => ⟨hA.1.keeps hk (by omega), hA.2.keeps hk (fun b hb => by omega)⟩, Sees.refl W, fun W' hW' hz' => ?_⟩
    obtain ⟨h4, h5⟩ := hW'
    have c0 := h4.c
    have g0 := h4.fr
    have H4 := Lib.hid h4
    have H5 := Lib.hid h5
    clear h2 h3 h4 h5
    gi_wp2
    refine ⟨fun b => b = b0, ⟨rfl, ?_, ?_⟩, (Keeps.refl (fun b => b = b0) W').setCell (p := ⟨b0, 0, none⟩) (fun _ => rfl) _, fun b hb => .inl hb⟩
    · have q := H4.out.set (.int .i64 ((j : Int) + 1))
      simpa using q
    · exact H5.out.keeps ((Keeps.refl (fun b => b = b0) W').setCell (p := ⟨b0, 0, none⟩) (fun _ => rfl) _) (fun b hb => by subst hb; omega)
  case done =>
    rintro O W ⟨_, h2, h3⟩ hD
    rw [← HN.out] at h2
    have c0 := h2.c
    have S := Lib.hid h3.s
    have hDD := Lib.hid hD
    clear h2 h3 hD
    go_wp2_with fail
    refine marks_ret rfl hDD.out (v := .tuple #[.int .i64 N, .int .i64 0]) (by simp [results, Tryd.results20, go_sem]) ⟨rfl, ?_⟩
    exact sees_put S.out (by have := I3.out.s.size; exact this)
end
end Go.Proofs.YtohiigmlkhpneaaDoor
