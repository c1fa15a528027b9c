/- search.matches: the iterator goes over all matches (42). search.matches$1 goes over all matches, in order, as long as it is told to go on (42). search.matches and Count (42). The tables hold what the program's text lays. No condition. -/
import Derived.Test.YtfdolhppbimbmaaDoorSrC
import Derived.Test.YtfdolhppbimbmaaDoorItS
import Derived.Test.YtfdolhppbimbmaaDoorSrP
import Derived.Deep.CutBlock
namespace Go.Proofs.YtfdolhppbimbmaaDoor
set_option linter.unusedVariables false
set_option linter.unusedSimpArgs false
open Go.RowKit Go.Shelf

def Mt.val (m : Mt) : Value := .agg #[.int .i64 m.l0, .int .i64 m.c0, .int .i64 m.l1, .int .i64 m.c1]
/-- What the library's variable holds. -/
def Std (W : World) : Prop := ∃ m, W.cell? ⟨2, 0, none⟩ = some (.int .i64 m)
theorem Std.sees {w W : World} (h : Std w) (hs : Sees w W) : Std W := by obtain ⟨m, h⟩ := h; exact ⟨m, hs.cell h⟩
theorem sindex_any (s p : ByteArray) (hs : s.size < 4294967281) (w : World) (hw : Std w) :
    Calls Tryd.prog 118 #[.string s, .string p] w fun e w' => e = .returned (.int .i64 (Lib.index s.data.toList p.data.toList)) ∧ Sees w w' := by
  obtain ⟨m, hm⟩ := hw
  exact (Any.strings_Index { Tryd.lays143 with } s p m w hs hm).mono fun e w' ⟨h1, h2⟩ => ⟨h1, h2 ▸ Sees.refl _⟩
/-- A string's end, cut off at a place. -/
theorem cut_end (s : ByteArray) (k : IntKind) (pos : Nat) (h : pos ≤ s.size) (W : World) : (Instr.sliceAt 9 (.string s) (some (.int k (pos : Int))) none none).run Tryd.prog W = .ok (.string (s.extract pos s.size)) W := by
  go_simp
/-- What the closure holds. -/
structure MaMem (W : World) (B : Nat) (v : Value) (first : Int) (p : ByteArray) (fold : Bool) : Prop where
  l : Bx W B 22 v
  f : Bx W (B + 1) 3 (.int .i64 first)
  p : Bx W (B + 2) 9 (.string p)
  d : Bx W (B + 3) 4 (.bool fold)
theorem MaMem.sees {W W' : World} {B : Nat} {v : Value} {first : Int} {p : ByteArray} {fold : Bool} (h : MaMem W B v first p fold) (hs : Sees W W') : MaMem W' B v first p fold := ⟨h.l.sees hs, h.f.sees hs, h.p.sees hs, h.d.sees hs⟩
theorem MaMem.keeps {F : Nat → Prop} {W W' : World} {B : Nat} {v : Value} {first : Int} {p : ByteArray} {fold : Bool} (h : MaMem W B v first p fold) (hk : Keeps F W W') (hF : ∀ b, B ≤ b → b < B + 4 → ¬ F b) : MaMem W' B v first p fold :=
  ⟨h.l.keeps hk (hF _ (by omega) (by omega)), h.f.keeps hk (hF _ (by omega) (by omega)), h.p.keeps hk (hF _ (by omega) (by omega)), h.d.keeps hk (hF _ (by omega) (by omega))⟩
/-- What the iterator reads. -/
structure MaM (F : Nat → Prop) (B : Nat) (v : Value) (ls : List Ln) (first : Int) (p : ByteArray) (fold : Bool) (W : World) : Prop where
  m : MaMem W B v first p fold
  r : lnEl.Rd F W v ls
  s : Std W
theorem MaM.sees {F : Nat → Prop} {B : Nat} {v : Value} {ls : List Ln} {first : Int} {p : ByteArray} {fold : Bool} {W W' : World} (h : MaM F B v ls first p fold W) (hs : Sees W W') : MaM F B v ls first p fold W' := ⟨h.m.sees hs, h.r.sees hs, h.s.sees hs⟩

/-- What is left to come, from a row on. -/
def restM (ls : List Ln) (first : Int) (p : List UInt8) (fold : Bool) (k : Nat) : List Mt := (segs (first + k) [] (ls.drop k)).flatMap (matchS p fold)
theorem restM_all (ls : List Ln) (first : Int) (p : List UInt8) (fold : Bool) : restM ls first p fold ls.length = [] := by
  unfold restM
  rw [List.drop_length]
  rfl
/-- The text of the logical line of a row. -/
def segAt (ls : List Ln) (first : Int) (k r : Nat) : List Bp := gath (first + k) ((ls.drop k).take r)
theorem restM_step {ls : List Ln} {first : Int} {p : List UInt8} {fold : Bool} {k : Nat} (hk : k < ls.length) : restM ls first p fold k = matchS p fold (segAt ls first k (runL (ls.drop k))) ++ restM ls first p fold (k + runL (ls.drop k)) := by
  unfold restM segAt
  rw [segs_run (first + k) [] (ls.drop k) (by intro e; have := congrArg List.length e; rw [List.length_drop, List.length_nil] at this; omega), List.flatMap_cons, List.nil_append, List.drop_drop]
  congr 3
  push_cast
  omega
theorem segAt_len {ls : List Ln} (hc : ∀ x ∈ ls, x.cells.length ≤ 1000) (hn : ls.length ≤ 1000) (first : Int) (k r : Nat) : (segAt ls first k r).length ≤ 16000000 := by
  have h := gathP_len (n := first + k) (m := 1000) (i := ((ls.drop k).take r).length) (ls := (ls.drop k).take r) (fun x hx => hc x (List.mem_of_mem_drop (List.mem_of_mem_take hx)))
  rw [gathP_all, List.length_take, List.length_drop] at h
  have : min r (ls.length - k) * (1000 * 16) ≤ 1000 * (1000 * 16) := Nat.mul_le_mul_right _ (by omega)
  unfold segAt
  omega
theorem low_low (fold : Bool) (s : List Bp) : (if fold then (s.map Bp.b).map (low true) else s.map Bp.b) = lowB fold s := by
  cases fold
  · exact (lowB_false s).symm
  · rw [if_pos rfl, List.map_map]
    rfl
end Go.Proofs.YtfdolhppbimbmaaDoor

namespace Go.Proofs.YtfdolhppbimbmaaDoor
set_option linter.unusedVariables false
set_option linter.unusedSimpArgs false
open Go.RowKit Go.Shelf

set_option maxHeartbeats 16000000 in
set_option maxRecDepth 1000000 in
theorem matches_seq (F : Nat → Prop) (B : Nat) (a : Option Addr) (n cp : Nat) (ls : List Ln) (first : Int) (p : ByteArray) (fold : Bool) (hnn : n = ls.length) (hn : n ≤ 1000) (hc : ∀ x ∈ ls, x.cells.length ≤ 1000) (hf : 0 ≤ first ∧ first ≤ 1099511627776) (hp : 1 ≤ p.size ∧ p.size ≤ 1000) :
    SeqK Tryd.prog 116 #[.pointer (some ⟨B, 0, none⟩), .pointer (some ⟨B + 1, 0, none⟩), .pointer (some ⟨B + 3, 0, none⟩), .pointer (some ⟨B + 2, 0, none⟩)] Mt.val ((segs first [] ls).flatMap (matchS p.data.toList fold)) (MaM F B (.slice a n cp) ls first p fold) := by
  intro l J JS W O0 hJM hJO hJs hJSs hY h0
  obtain ⟨ms, hms⟩ : ∃ ms, ms = (segs first [] ls).flatMap (matchS p.data.toList fold) := ⟨_, rfl⟩
  rw [← hms] at hY ⊢
  have hpne : p.data.toList ≠ [] := fun e => by
    have h1 := congrArg List.length e
    rw [← Lib.size_eq, List.length_nil] at h1
    omega
  have hpl : p.data.toList.length = p.size := (Lib.size_eq p).symm
  have h00 : ms.drop 0 = restM ls first p.data.toList fold 0 := by
    rw [hms]
    unfold restM
    simp
  have HJM := Lib.hid hJM
  have HJO := Lib.hid hJO
  have HJs := Lib.hid hJs
  have HJSs := Lib.hid hJSs
  have HY := Lib.hid hY
  have HN := Lib.hid hnn
  have HC := Lib.hid hc
  have H00 := Lib.hid h00
  have HPNE := Lib.hid hpne
  have HPL := Lib.hid hpl
  have H0 := Lib.hid h0
  clear hJM hJO hJs hJSs hY hnn hc h00 hpne hpl h0 hms
  refine callsIn_wide.2 ?_
  show Calls Tryd.prog _ #[.func (.yield l) #[] #[], .pointer (some ⟨B, 0, none⟩), .pointer (some ⟨B + 1, 0, none⟩), .pointer (some ⟨B + 3, 0, none⟩), .pointer (some ⟨B + 2, 0, none⟩)] W _
  go_enter Tryd.func116, Tryd.ntmps116
  go_wp2
  go_loopw [6] (fun i wr => ∃ (k c : Nat) (O : Nat → Prop), k ≤ n ∧ c ≤ ms.length ∧ i = .int .i64 k ∧ Hid (ms.drop c = restM ls first p.data.toList fold k) ∧ J c O wr) (fun i _ => n - (intOf i).toNat)
  case atStart => exact ⟨0, 0, O0, Nat.zero_le _, Nat.zero_le _, rfl, H00.out, H0.out⟩
  case round =>
    obtain ⟨k, c, O, hk, hcm, rfl, hrest, hj⟩ := hrel
    have HJ := Lib.hid hj
    have hM := HJM.out c O wr hj
    have b1 := hM.m.l.c
    have HM := Lib.hid hM
    clear hj
    by_cases hlt : k < n
    · obtain ⟨b, o, x0, ax0, mx0, rfl, _, _, _, _, _, _⟩ := hM.r.line hlt
      obtain ⟨r, hr⟩ : ∃ r, r = runL (ls.drop k) := ⟨_, rfl⟩
      have hr1 : 1 ≤ r := by
        rw [hr]
        refine runL_pos (fun e => ?_)
        have := congrArg List.length e
        rw [List.length_drop, List.length_nil] at this
        have := HN.out
        omega
      have hr2 : k + r ≤ n := by
        have := runL_le (ls.drop k)
        rw [List.length_drop, ← hr] at this
        have := HN.out
        omega
      obtain ⟨q, hq⟩ : ∃ q, q + 1 = k + r := ⟨k + r - 1, by omega⟩
      have HR := Lib.hid hr
      clear hr hM
      go_upto_block 2 with fail
      go_cut [7] from 17 to 30 (fun v7 wx => v7 = .int .i64 (q : Int) ∧ wx = wr)
      case first =>
        go_wp2_with fail
        go_loopw [7] (fun i wx => ∃ z : Nat, k ≤ z ∧ z < n ∧ i = .int .i64 z ∧ Hid (∀ j, j < z - k → ∃ x, (ls.drop k)[j]? = some x ∧ x.soft = true) ∧ wx = wr) (fun i _ => n - (intOf i).toNat)
        case atStart => exact ⟨k, Nat.le_refl _, hlt, rfl, fun j hj => by omega, rfl⟩
        case round =>
          obtain ⟨z, hq1, hq2, rfl, hs, hwx⟩ := hrel
          subst hwx
          obtain ⟨b', o', x, ax, mx, e, _, hx, hxm, x1, x2, x3⟩ := HM.out.r.line hq2
          cases e
          have hxd : (ls.drop k)[z - k]? = some x := by rw [List.getElem?_drop, show k + (z - k) = z by omega]; exact hx
          have HXD := Lib.hid hxd
          have hend : Hid ((z - k + 1 = (ls.drop k).length ∨ x.soft = false) → ((z : Nat) : Int) = (q : Int)) := fun h => by
            have e := runL_eq (m := z - k) (ls := ls.drop k) hs.out (by rw [List.length_drop]; have := HN.out; omega) (h.imp id (fun h => ⟨x, HXD.out, h⟩))
            rw [← HR.out] at e
            omega
          clear hx x1 x3 hxd
          have hdl : (ls.drop k).length = n - k := by rw [List.length_drop, ← HN.out]
          have HDL := Lib.hid hdl
          clear hdl
          by_cases hq3 : z + 1 < n
          · rcases Bool.eq_false_or_eq_true x.soft with hso | hso
            · rw [hso] at x2
              have HSO := Lib.hid hso
              clear hso
              go_wp2
              go_roundw
              case rel =>
                refine ⟨z + 1, by omega, by omega, by go_num, fun j hj => ?_, trivial⟩
                rcases Nat.lt_or_ge j (z - k) with h | h
                · exact hs.out j h
                · obtain rfl : j = z - k := by omega
                  exact ⟨x, HXD.out, HSO.out⟩
              case measure => simp [intOf]; omega
            · rw [hso] at x2
              have HE := Lib.hid (hend.out (.inr hso))
              clear hso
              go_wp2_with fail
              go_meet
              exact ⟨by rw [HE.out], rfl⟩
          · have HE := Lib.hid (hend.out (.inl (by have := HDL.out; omega)))
            have hq4 : decide ((z : Int) + 1 < n) = false := decide_eq_false (by omega)
            go_wp2_with fail
            go_meet
            exact ⟨by rw [HE.out], rfl⟩
      case rest =>
        obtain ⟨rfl, hwc⟩ := hcut
        subst hwc
        have hM := HM.out
        obtain ⟨seg, hseg⟩ : ∃ seg, seg = segAt ls first k r := ⟨_, rfl⟩
        have hsl : seg.length ≤ 16000000 := by rw [hseg]; exact segAt_len HC.out (by rw [← HN.out]; exact hn) first k r
        obtain ⟨X, hX⟩ : ∃ X : ByteArray, X = ⟨(seg.map Bp.b).toArray⟩ := ⟨_, rfl⟩
        have hw1 : IntKind.i64.wrap ((q : Int) + 1) = (q : Int) + 1 := IntWalk.i64_in _ (by omega)
        have hw2 : IntKind.i64.wrap (first + (k : Int)) = first + (k : Int) := IntWalk.i64_in _ (by omega)
        have hq5 : (0 : Int) ≤ (q : Int) + 1 := by omega
        have c1 := hM.m.l.c
        have c2 := hM.m.f.c
        have hcn : n ≤ cp := by obtain ⟨_, _, e, h⟩ := hM.r.slice'; cases e; rw [HN.out]; exact h
        have hq6 : (q : Int) + 1 ≤ (cp : Int) := by omega
        have hq7 : ¬ cp = k := by omega
        have KG := Lib.hid (fun W (hW : Sees wc W) => by
          have hr' := ((hM.r.sees hW).drop k (by rw [← HN.out]; omega) (cp - k) (by omega)).take r (by rw [List.length_drop, ← HN.out]; omega) (cp - k) (by omega)
          have q := gathered_any _ _ (first + (k : Int)) F W hr' (by rw [List.length_take]; have := HN.out; omega) (fun x hx => HC.out x (List.mem_of_mem_drop (List.mem_of_mem_take hx))) (by omega)
          rw [show gath (first + (k : Int)) ((ls.drop k).take r) = seg from hseg.symm, ← hX] at q
          exact q)
        have HSEG := Lib.hid hseg
        have HX := Lib.hid hX
        clear hM hseg hX
        go_upto_region 5 with fail
        refine wpFrom_go (by kernel_rfl) (by kernel_rfl) (fun hB w3 hw3 => ?_)
        have hst : segStay (Sees w3) [.is (.slice (some ⟨b, o, none⟩) n cp), .is (.int .i64 (k : Int)), .is (.int .i64 (q : Int)), .is (.int .i64 ((q : Int) + 1)), .is (.slice (some ⟨b, o + k * 2, none⟩) r (cp - k)), .is (.int .i64 first), .is (.int .i64 (k : Int)), .is (.int .i64 (first + (k : Int))),
            .so (fun v W => ∃ u, v = .tuple #[.string X, u] ∧ plEl.Own (fun b => w3.heap.size < b) W u (seg.map Bp.pl)), .so (fun v W => ∃ u, v = .tuple #[.string X, u] ∧ plEl.Own (fun b => w3.heap.size < b) W u (seg.map Bp.pl)), .is (.string X), .so (fun u W => plEl.Own (fun b => w3.heap.size < b) W u (seg.map Bp.pl)), .is (.string X), .so (fun u W => plEl.Own (fun b => w3.heap.size < b) W u (seg.map Bp.pl))] :=
          ⟨fun u W W' _ ⟨x, h1, h2⟩ hs => ⟨x, h1, h2.sees hs⟩, fun u W W' _ ⟨x, h1, h2⟩ hs => ⟨x, h1, h2.sees hs⟩, fun u W W' _ h hs => h.sees hs, fun u W W' _ h hs => h.sees hs, trivial⟩
        have hval : ∀ x v, (Spec.is x).val v = x := fun _ _ => rfl
        have hval2 : ∀ V v, (Spec.so V).val v = v := fun _ _ => rfl
        refine wpFrom_any 14 _ hB (by kernel_rfl) rfl hst (by simp only [List.cons_append, List.nil_append, List.drop_succ_cons, List.drop_zero, List.take_succ_cons, List.take_zero, Nat.reduceSub]; rfl) ?_
        refine ⟨fun vs W hI hV => .inl ⟨by clear hI hV hst; go_simp, .inl (by have q1 := (hw3.trans hI).cell c1; clear hI hV hst; (try simp only [Act.put, hval, hval2, List.setIfInBounds_toArray, List.set_cons_zero, List.set_cons_succ]); go_simp)⟩, ?_⟩
        refine ⟨fun vs W hI hV => .inl ⟨by clear hI hV hst; go_simp, .inl (by clear hI hV hst; (try simp only [Act.put, hval, hval2, List.setIfInBounds_toArray, List.set_cons_zero, List.set_cons_succ]); go_simp)⟩, ?_⟩
        refine ⟨fun vs W hI hV => .inl ⟨by clear hI hV hst; go_simp, .inl (by clear hI hV hst; (try simp only [Act.put, hval, hval2, List.setIfInBounds_toArray, List.set_cons_zero, List.set_cons_succ]); go_simp)⟩, ?_⟩
        refine ⟨fun vs W hI hV => .inl ⟨by clear hI hV hst; go_simp, .inl (by clear hI hV hst; (try simp only [Act.put, hval, hval2, List.setIfInBounds_toArray, List.set_cons_zero, List.set_cons_succ]); go_simp)⟩, ?_⟩
        refine ⟨fun vs W hI hV => .inl ⟨by clear hI hV hst; go_simp, .inl (by clear hI hV hst; (try simp only [Act.put, hval, hval2, List.setIfInBounds_toArray, List.set_cons_zero, List.set_cons_succ]); go_simp)⟩, ?_⟩
        refine ⟨fun vs W hI hV => .inl ⟨by clear hI hV hst; go_simp, .inl (by have q1 := (hw3.trans hI).cell c2; clear hI hV hst; (try simp only [Act.put, hval, hval2, List.setIfInBounds_toArray, List.set_cons_zero, List.set_cons_succ]); go_simp)⟩, ?_⟩
        refine ⟨fun vs W hI hV => .inl ⟨by clear hI hV hst; go_simp, .inl (by clear hI hV hst; (try simp only [Act.put, hval, hval2, List.setIfInBounds_toArray, List.set_cons_zero, List.set_cons_succ]); go_simp)⟩, ?_⟩
        refine ⟨fun vs W hI hV => .inl ⟨by clear hI hV hst; go_simp, .inl (by clear hI hV hst; (try simp only [Act.put, hval, hval2, List.setIfInBounds_toArray, List.set_cons_zero, List.set_cons_succ]); go_simp)⟩, ?_⟩
        refine ⟨fun vs W hI hV => .inl ⟨by clear hI hV hst; go_simp, .inr (.inr ⟨117, #[.slice (some ⟨b, o + k * 2, none⟩) r (cp - k), .int .i64 (first + (k : Int))], by clear hI hV hst; (try simp only [Act.put, hval, hval2, List.setIfInBounds_toArray, List.set_cons_zero, List.set_cons_succ]); go_simp, ?_⟩)⟩, ?_⟩
        · refine (KG.out W (hw3.trans hI)).mono ?_
          rintro e w' ⟨u, rfl, hown, hs⟩
          exact ⟨_, rfl, rgGood_mk hst hI ⟨u, rfl, hown.mono (fun b _ hb => by have := hI.size; omega)⟩ hs⟩
        refine ⟨fun vs W hI hV => ?_, ?_⟩
        · obtain ⟨u, e, h2⟩ := hV 8 _ (by kernel_rfl) rfl
          exact .inl ⟨by clear hI hV hst h2; go_simp, .inl ⟨.tuple #[.string X, u], W, by clear hI hV hst h2; (try simp only [Act.put, hval, hval2, List.setIfInBounds_toArray, List.set_cons_zero, List.set_cons_succ]); go_simp, rgGood_mk hst hI ⟨u, rfl, h2⟩ (Sees.refl W)⟩⟩
        refine ⟨fun vs W hI hV => ?_, ?_⟩
        · obtain ⟨u, e, h2⟩ := hV 9 _ (by kernel_rfl) rfl
          exact .inl ⟨by clear hI hV hst h2; go_simp, .inl (by clear hI hV hst h2; (try simp only [Act.put, hval, hval2, List.setIfInBounds_toArray, List.set_cons_zero, List.set_cons_succ]); go_simp)⟩
        refine ⟨fun vs W hI hV => ?_, ?_⟩
        · obtain ⟨u, e, h2⟩ := hV 9 _ (by kernel_rfl) rfl
          exact .inl ⟨by clear hI hV hst h2; go_simp, .inl ⟨u, W, by clear hI hV hst h2; (try simp only [Act.put, hval, hval2, List.setIfInBounds_toArray, List.set_cons_zero, List.set_cons_succ]); go_simp, rgGood_mk hst hI h2 (Sees.refl W)⟩⟩
        refine ⟨fun vs W hI hV => .inl ⟨by clear hI hV hst; go_simp, .inl (by clear hI hV hst; (try simp only [Act.put, hval, hval2, List.setIfInBounds_toArray, List.set_cons_zero, List.set_cons_succ]); go_simp)⟩, ?_⟩
        refine ⟨fun vs W hI hV => ?_, ?_⟩
        · have h2 : plEl.Own (fun b => w3.heap.size < b) W (vs 11) (seg.map Bp.pl) := hV 11 _ (by kernel_rfl) rfl
          exact .inl ⟨by clear hI hV hst h2; go_simp, .inl ⟨vs 11, W, by clear hI hV hst h2; (try simp only [Act.put, hval, hval2, List.setIfInBounds_toArray, List.set_cons_zero, List.set_cons_succ]); go_simp, rgGood_mk hst hI h2 (Sees.refl W)⟩⟩
        intro vs w4 hI hV
        have h4 : plEl.Own (fun b => w3.heap.size < b) w4 (vs 13) (seg.map Bp.pl) := hV 13 _ rfl
        obtain ⟨au, cu, e13, _⟩ := h4.slice
        rw [e13, List.length_map] at h4
        rw [List.length_map] at e13
        have hs4 := hw3.trans hI
        have HU := Lib.hid (h4.rd.mono (G := fun b => ¬ O b) (fun b _ hb h => by have := HJO.out _ _ _ HJ.out b h; have := hw3.size; omega))
        have HJ4 := Lib.hid (HJs.out _ _ _ _ HJ.out hs4)
        clear hI hV hst hw3 HJ HM c1 c2 hw1 hw2 hq5 hq6 hq7 h4 hs4 KG b1
        (try simp only [Act.put, hval, hval2, List.setIfInBounds_toArray, List.set_cons_zero, List.set_cons_succ])
        go_simp
        refine wpFrom_end rfl ?_
        have c3 := (HJM.out _ _ _ HJ4.out).m.d.c
        go_upto_if 43 with fail
        clear c3
        obtain ⟨S, hS⟩ : ∃ S : ByteArray, S = ⟨(lowB fold seg).toArray⟩ := ⟨_, rfl⟩
        have KF : Hid (fold = true → ∀ W, Calls Tryd.prog 115 #[.string X] W fun e w' => e = .returned (.string S) ∧ Sees W w') := fun h W => by
          have q := folded_any X (by rw [HX.out]; show (List.toArray _).size ≤ _; simp; omega) W
          rw [HX.out] at q
          rw [hS, ← low_low fold seg, h, if_pos rfl, HX.out]
          exact q
        have KE : Hid (fold = false → X = S) := fun h => by rw [hS, HX.out, ← low_low fold seg, h]; rfl
        have HS := Lib.hid hS
        have hSz : S.size = seg.length := by rw [hS]; show (List.toArray _).size = _; simp [lowB]
        have HSZ := Lib.hid hSz
        clear hS hSz e13
        go_cut [8] from 43 to 46 (fun v8 wx => v8 = .string S ∧ Sees w4 wx)
        case first =>
          rcases Bool.eq_false_or_eq_true fold with hfo | hfo
          · rw [hfo]
            have KF' := Lib.hid (KF.out hfo)
            clear hfo
            go_wp2_with fail
            refine (KF'.out _).mono ?_
            rintro e W5 ⟨rfl, s5⟩
            go_wp2_with fail
            go_meet
            exact ⟨rfl, s5⟩
          · rw [hfo]
            have KE' := Lib.hid (KE.out hfo)
            clear hfo
            go_wp2_with fail
            go_meet
            exact ⟨by rw [KE'.out], Sees.refl _⟩
        case rest =>
          obtain ⟨rfl, s5⟩ := hcut
          have HJ5 := Lib.hid (HJs.out _ _ _ _ HJ4.out s5)
          have HU5 := Lib.hid (HU.out.sees s5)
          clear s5 HJ4 KF KE HU
          have hst0 : ms.drop c = (hits p.data.toList 0 0 ((lowB fold seg).drop 0)).map (mtOf seg p.size) ++ restM ls first p.data.toList fold (q + 1) := by
            rw [hrest.out, restM_step (by rw [← HN.out]; exact hlt), ← HR.out, ← HSEG.out, hq, List.drop_zero]
            unfold matchS
            rw [HPL.out]
          have HST0 := Lib.hid hst0
          clear hst0 hrest
          go_wp2
          go_loopw [10] (fun i wr => ∃ (fr d : Nat) (O' : Nat → Prop), fr ≤ S.size ∧ d ≤ ms.length ∧ i = .int .i64 fr ∧ Hid (ms.drop d = (hits p.data.toList fr 0 ((lowB fold seg).drop fr)).map (mtOf seg p.size) ++ restM ls first p.data.toList fold (q + 1)) ∧ J d O' wr ∧ plEl.Rd (fun b => ¬ O' b) wr (.slice au seg.length cu) (seg.map Bp.pl)) (fun i _ => S.size - (intOf i).toNat)
          case atStart => exact ⟨0, c, O, Nat.zero_le _, hcm, rfl, HST0.out, HJ5.out, HU5.out⟩
          case round =>
            obtain ⟨fr, d, O', hfr, hdm, rfl, hd, hj, hs⟩ := hrel
            have HJ6 := Lib.hid hj
            have HU6 := Lib.hid hs
            have hM := HJM.out d O' wr hj
            have c5 := hM.m.p.c
            have hcut := cut_end S .i64 fr hfr
            have hSl : S.size ≤ 16000000 := by rw [HSZ.out]; exact hsl
            obtain ⟨ix, hix⟩ : ∃ ix, ix = Lib.index ((lowB fold seg).drop fr) p.data.toList := ⟨_, rfl⟩
            have KI := Lib.hid (fun W (hW : Sees wr W) => by
              have q := sindex_any (S.extract fr S.size) p (by rw [ByteArray.size_extract]; omega) W (hM.s.sees hW)
              rw [Lib.extract_to_end, show S.data.toList = lowB fold seg by rw [HS.out], ← hix] at q
              exact q)
            have hge := Lib.index_ge ((lowB fold seg).drop fr) p.data.toList
            rw [← hix] at hge
            have HIX := Lib.hid hix
            clear hj hs hM hix
            rcases (show ix = -1 ∨ ∃ z : Nat, ix = z by rcases Int.lt_or_le ix 0 with h | h; exact .inl (by omega); exact .inr ⟨ix.toNat, by omega⟩) with rfl | ⟨z, rfl⟩
            · have hno := hits_none (i := fr) HPNE.out HIX.out.symm
              have HNO := Lib.hid hno
              clear hno
              go_wp2
              refine wp_region_sees (by kernel_rfl) (by kernel_rfl) ?_
              repeat (first | (refine wpQuiet_val (fun K hK => ⟨?_, ?_⟩); (focus (go_simp; done)); apply Exists.intro; refine ⟨fun W hW => ?_, ?_⟩; (focus (have q := hW.cell c5; go_simp; first | done | rfl)); go_simp; refine hK _ ?_; clear hK K) | (refine wpQuiet_off (fun K hK => ⟨?_, ?_⟩); (focus (go_simp; done)); go_simp; refine hK _ ?_; clear hK K))
              refine wpQuiet_enter 118 #[.string (S.extract fr S.size), .string p] (fun K hK => ⟨?_, fun W hW => ?_, ?_⟩); (focus (go_simp; done)); (focus (have q := hW.cell c5; go_simp; done)); apply Exists.intro; refine ⟨fun W hW => (KI.out W hW).mono fun e w'' ⟨he, hb⟩ => ⟨he, hW.trans hb⟩, ?_⟩; go_simp; refine hK _ ?_; clear hK K
              repeat (first | (refine wpQuiet_val (fun K hK => ⟨?_, ?_⟩); (focus (go_simp; done)); apply Exists.intro; refine ⟨fun W hW => ?_, ?_⟩; (focus (have q := hW.cell c5; go_simp; first | done | rfl)); go_simp; refine hK _ ?_; clear hK K) | (refine wpQuiet_off (fun K hK => ⟨?_, ?_⟩); (focus (go_simp; done)); go_simp; refine hK _ ?_; clear hK K))
              refine wpQuiet_nil ?_; intro w2 hw2
              have HJ7 := Lib.hid (HJs.out _ _ _ _ HJ6.out hw2)
              have HD := Lib.hid (show ms.drop d = restM ls first p.data.toList fold (q + 1) by have e := hd.out; rw [HNO.out] at e; exact e)
              clear hcut c5
              have hwq : IntKind.i64.wrap ((q : Int) + 1) = (q : Int) + 1 := IntWalk.i64_in _ (by omega)
              go_wp2
              go_roundw
              case rel => exact ⟨q + 1, d, O', by omega, hdm, by go_num, HD.out, HJ7.out⟩
              case measure => simp [intOf]; omega
            · obtain ⟨h1, h2⟩ := hits_at (i := fr) HPNE.out HIX.out.symm
              have hlen : ((lowB fold seg).drop fr).length = S.size - fr := by rw [List.length_drop, lowB_len, HSZ.out]
              rw [hlen, HPL.out] at h1
              obtain ⟨pos, hpos⟩ : ∃ pos, pos = z + fr := ⟨_, rfl⟩
              obtain ⟨fr2, hfr2⟩ : ∃ fr2, fr2 = pos + p.size := ⟨_, rfl⟩
              obtain ⟨e1, he1⟩ : ∃ e1, e1 + 1 = fr2 := ⟨pos + p.size - 1, by omega⟩
              have hd2 : ms.drop d = mtOf seg p.size pos :: ((hits p.data.toList fr2 0 ((lowB fold seg).drop fr2)).map (mtOf seg p.size) ++ restM ls first p.data.toList fold (q + 1)) := by
                rw [hd.out, h2, List.map_cons, List.cons_append, List.drop_drop, HPL.out, show fr + z = pos by omega, show pos + p.size = fr2 by omega, show fr + (z + p.size) = fr2 by omega]
              have hget : ms[d]? = some (mtOf seg p.size pos) := by
                have q := congrArg (fun l => l[0]?) hd2
                simpa using q
              have hnext : ms.drop (d + 1) = (hits p.data.toList fr2 0 ((lowB fold seg).drop fr2)).map (mtOf seg p.size) ++ restM ls first p.data.toList fold (q + 1) := by
                have q := congrArg (List.drop 1) hd2
                rw [List.drop_drop] at q
                simpa using q
              obtain ⟨g, og, y0, vs0, eau, _, hy0, hrel0, hc0⟩ := HU6.out.at_ (k := pos) (by rw [← HSZ.out]; omega)
              obtain ⟨g', og', y1, vs1, eau', _, hy1, hrel1, hc1⟩ := HU6.out.at_ (k := e1) (by rw [← HSZ.out]; omega)
              subst eau
              cases eau'
              obtain rfl : vs0 = [.int .i64 y0.1, .int .i64 y0.2] := hrel0
              obtain rfl : vs1 = [.int .i64 y1.1, .int .i64 y1.2] := hrel1
              have a0 : wr.cell? ⟨g, og + pos * 2, none⟩ = some (.int .i64 y0.1) := hc0 0 _ rfl
              have a1 : wr.cell? ⟨g, og + pos * 2 + 1, none⟩ = some (.int .i64 y0.2) := hc0 1 _ rfl
              have a2 : wr.cell? ⟨g, og + e1 * 2, none⟩ = some (.int .i64 y1.1) := hc1 0 _ rfl
              have a3 : wr.cell? ⟨g, og + e1 * 2 + 1, none⟩ = some (.int .i64 y1.2) := hc1 1 _ rfl
              have hmt : mtOf seg p.size pos = ⟨y0.1, y0.2, y1.1, y1.2⟩ := by
                have q0 : seg.getD pos default = seg[pos]'(by rw [← HSZ.out]; omega) := by rw [List.getD_eq_getElem?_getD, List.getElem?_eq_getElem]; rfl
                have q1 : seg.getD (pos + p.size - 1) default = seg[e1]'(by rw [← HSZ.out]; omega) := by rw [show pos + p.size - 1 = e1 by omega, List.getD_eq_getElem?_getD, List.getElem?_eq_getElem]; rfl
                rw [List.getElem?_map, List.getElem?_eq_getElem (by rw [← HSZ.out]; omega)] at hy0 hy1
                simp only [Option.map_some, Option.some.injEq] at hy0 hy1
                unfold mtOf
                rw [q0, q1, ← hy0, ← hy1]
                rfl
              rw [hmt] at hget
              have hdm2 : d + 1 ≤ ms.length := (List.getElem?_eq_some_iff.1 hget).1
              have HGET := Lib.hid hget
              have HNX := Lib.hid hnext
              have HPOS := Lib.hid hpos
              have HFR2 := Lib.hid hfr2
              have HE1 := Lib.hid he1
              have hwE : IntKind.i64.wrap (e1 : Int) = (e1 : Int) := IntWalk.i64_in _ (by omega)
              have hwA : IntKind.i64.wrap ((z : Int) + (fr : Int)) = (pos : Int) := by rw [IntWalk.i64_in _ (by omega)]; omega
              have hwB : IntKind.i64.wrap ((pos : Int) + (p.size : Int)) = (fr2 : Int) := by rw [IntWalk.i64_in _ (by omega)]; omega
              have hwC : IntKind.i64.wrap ((fr2 : Int) - 1) = (e1 : Int) := by rw [IntWalk.i64_in _ (by omega)]; omega
              have hfr3 : fr < fr2 ∧ fr2 ≤ S.size := by omega
              have hp1 : pos < seg.length := by rw [← HSZ.out]; omega
              have hp2 : e1 < seg.length := by rw [← HSZ.out]; omega
              have A0 := Lib.hid a0
              have A1 := Lib.hid a1
              have A2 := Lib.hid a2
              have A3 := Lib.hid a3
              clear hmt hget hnext hd2 hd hc0 hc1 hy0 hy1 a0 a1 a2 a3 h1 h2 hlen hge hpos hfr2 he1
              go_wp2
              refine wp_region_sees (by kernel_rfl) (by kernel_rfl) ?_
              repeat (first | (refine wpQuiet_val (fun K hK => ⟨?_, ?_⟩); (focus (go_simp; done)); apply Exists.intro; refine ⟨fun W hW => ?_, ?_⟩; (focus (have q := hW.cell c5; go_simp; first | done | rfl)); go_simp; refine hK _ ?_; clear hK K) | (refine wpQuiet_off (fun K hK => ⟨?_, ?_⟩); (focus (go_simp; done)); go_simp; refine hK _ ?_; clear hK K))
              refine wpQuiet_enter 118 #[.string (S.extract fr S.size), .string p] (fun K hK => ⟨?_, fun W hW => ?_, ?_⟩); (focus (go_simp; done)); (focus (have q := hW.cell c5; go_simp; done)); apply Exists.intro; refine ⟨fun W hW => (KI.out W hW).mono fun e w'' ⟨he, hb⟩ => ⟨he, hW.trans hb⟩, ?_⟩; go_simp; refine hK _ ?_; clear hK K
              repeat (first | (refine wpQuiet_val (fun K hK => ⟨?_, ?_⟩); (focus (go_simp; done)); apply Exists.intro; refine ⟨fun W hW => ?_, ?_⟩; (focus (have q := hW.cell c5; go_simp; first | done | rfl)); go_simp; refine hK _ ?_; clear hK K) | (refine wpQuiet_off (fun K hK => ⟨?_, ?_⟩); (focus (go_simp; done)); go_simp; refine hK _ ?_; clear hK K))
              refine wpQuiet_nil ?_; intro w2 hw2
              have HJ7 := Lib.hid (HJs.out _ _ _ _ HJ6.out hw2)
              have HW2 := Lib.hid hw2
              have c5' := hw2.cell c5
              clear hcut c5 hw2
              go_wp2
              rw [show (fr2 : Int) = (e1 : Int) + 1 by have := HE1.out; omega]
              refine wpIn_wide (n := 0) |>.1 ?_
              refine wpFromI_go (by kernel_rfl) (by kernel_rfl) (fun hB w5 hw5 => ?_)
              have hst : segStay (Sees w5) [.is (.func (.yield l) #[] #[]), .is (.slice (some ⟨g, og, none⟩) seg.length cu), .is (.int .i64 (pos : Int)), .is (.pointer (some ⟨g, og + pos * 2, none⟩)), .is (.agg #[.int .i64 y0.1, .int .i64 y0.2]), .is (.slice (some ⟨g, og, none⟩) seg.length cu), .is (.int .i64 ((e1 : Int) + 1)), .is (.int .i64 (e1 : Int)), .is (.pointer (some ⟨g, og + e1 * 2, none⟩)), .is (.agg #[.int .i64 y1.1, .int .i64 y1.2]), .is (.agg #[.int .i64 y0.1, .int .i64 y0.2, .int .i64 y1.1, .int .i64 y1.2])] := trivial
              have hval : ∀ x v, (Spec.is x).val v = x := fun _ _ => rfl
              have hval2 : ∀ V v, (Spec.so V).val v = v := fun _ _ => rfl
              have HW5 := Lib.hid hw5
              clear hwA hwB hwC
              refine wpFromI_any 11 _ hB (by kernel_rfl) rfl hst (by simp only [List.cons_append, List.nil_append, List.drop_succ_cons, List.drop_zero, List.take_succ_cons, List.take_zero, Nat.reduceSub]; rfl) ?_
              refine ⟨fun vs W hI hV => .inl ⟨by clear hI hV hst; go_simp, .inl (by clear hI hV hst; (try simp only [Act.put, hval, hval2, List.setIfInBounds_toArray, List.set_cons_zero, List.set_cons_succ]); go_simp)⟩, ?_⟩
              refine ⟨fun vs W hI hV => .inl ⟨by clear hI hV hst; go_simp, .inl (by clear hI hV hst; (try simp only [Act.put, hval, hval2, List.setIfInBounds_toArray, List.set_cons_zero, List.set_cons_succ]); go_simp)⟩, ?_⟩
              refine ⟨fun vs W hI hV => .inl ⟨by clear hI hV hst; go_simp, .inl (by clear hI hV hst; (try simp only [Act.put, hval, hval2, List.setIfInBounds_toArray, List.set_cons_zero, List.set_cons_succ]); go_simp)⟩, ?_⟩
              refine ⟨fun vs W hI hV => .inl ⟨by clear hI hV hst; go_simp, .inl (by clear hI hV hst; (try simp only [Act.put, hval, hval2, List.setIfInBounds_toArray, List.set_cons_zero, List.set_cons_succ]); go_simp)⟩, ?_⟩
              refine ⟨fun vs W hI hV => .inl ⟨by clear hI hV hst; go_simp, .inl (by have q0 := (HW2.out.trans (HW5.out.trans hI)).cell A0.out; have q1 := (HW2.out.trans (HW5.out.trans hI)).cell A1.out; clear hI hV hst; (try simp only [Act.put, hval, hval2, List.setIfInBounds_toArray, List.set_cons_zero, List.set_cons_succ]); go_simp)⟩, ?_⟩
              refine ⟨fun vs W hI hV => .inl ⟨by clear hI hV hst; go_simp, .inl (by clear hI hV hst; (try simp only [Act.put, hval, hval2, List.setIfInBounds_toArray, List.set_cons_zero, List.set_cons_succ]); go_simp)⟩, ?_⟩
              refine ⟨fun vs W hI hV => .inl ⟨by clear hI hV hst; go_simp, .inl (by clear hI hV hst; (try simp only [Act.put, hval, hval2, List.setIfInBounds_toArray, List.set_cons_zero, List.set_cons_succ]); go_simp)⟩, ?_⟩
              refine ⟨fun vs W hI hV => .inl ⟨by clear hI hV hst; go_simp, .inl (by clear hI hV hst; (try simp only [Act.put, hval, hval2, List.setIfInBounds_toArray, List.set_cons_zero, List.set_cons_succ]); go_simp)⟩, ?_⟩
              refine ⟨fun vs W hI hV => .inl ⟨by clear hI hV hst; go_simp, .inl (by clear hI hV hst; (try simp only [Act.put, hval, hval2, List.setIfInBounds_toArray, List.set_cons_zero, List.set_cons_succ]); go_simp)⟩, ?_⟩
              refine ⟨fun vs W hI hV => .inl ⟨by clear hI hV hst; go_simp, .inl (by have q0 := (HW2.out.trans (HW5.out.trans hI)).cell A2.out; have q1 := (HW2.out.trans (HW5.out.trans hI)).cell A3.out; clear hI hV hst; (try simp only [Act.put, hval, hval2, List.setIfInBounds_toArray, List.set_cons_zero, List.set_cons_succ]); go_simp)⟩, ?_⟩
              refine ⟨fun vs W hI hV => .inl ⟨by clear hI hV hst; go_simp, .inl (by clear hI hV hst; (try simp only [Act.put, hval, hval2, List.setIfInBounds_toArray, List.set_cons_zero, List.set_cons_succ]); go_simp)⟩, ?_⟩
              intro vs w6 hI hV
              have HJ8 := Lib.hid (HJs.out _ _ _ _ HJ7.out (HW5.out.trans hI))
              have HU8 := Lib.hid (HU6.out.sees (HW2.out.trans (HW5.out.trans hI)))
              obtain ⟨fn, tmps, assign, body, hy, hR⟩ := HY.out d O' w6 _ HGET.out HJ8.out
              unfold Mt.val at hy
              simp only at hy
              clear hI hV hst hw5
              (try simp only [Act.put, hval, hval2, List.setIfInBounds_toArray, List.set_cons_zero, List.set_cons_succ])
              go_simp
              refine wpFromI_to hB (by simp) (by kernel_rfl) (by simp only [List.drop_succ_cons, List.drop_zero]; rfl) ?_
              gi_wp2
              refine ⟨rfl, hR.mono ?_⟩
              rintro e W9 (⟨rfl, O2, hJ9, hk9, hg9⟩ | ⟨rfl, hJ9⟩)
              · have HU9 := Lib.hid (((HU8.out.mono (G := fun b => ¬ O' b ∧ b < w6.heap.size) (fun b hb h => ⟨h, hb⟩)).keeps hk9 (fun b hb => hb.1)).mono (G := fun b => ¬ O2 b) (fun b _ hb h => by rcases hg9 b h with h | h; exact hb.1 h; have := hb.2; omega))
                have HJ9 := Lib.hid hJ9
                clear hk9 hJ9 hg9 HU8 HU6 HJ8 HJ7 HJ6
                gi_wp2
                go_wp2
                go_roundw
                case rel => exact ⟨fr2, d + 1, O2, hfr3.2, hdm2, by congr 1; have := HE1.out; omega, HNX.out, HJ9.out, HU9.out⟩
                case measure => simp [intOf]; have := HE1.out; omega
              · have HJ9 := Lib.hid hJ9
                clear hJ9
                gi_wp2
                go_wp2
                exact bodyPost_ret (results_none rfl _ _ _) rfl ⟨rfl, .inr HJ9.out⟩
    · obtain rfl : k = n := by omega
      have hmz : c = ms.length := by
        have h := hrest.out
        rw [HN.out, restM_all] at h
        have := List.drop_eq_nil_iff.1 h
        omega
      subst hmz
      clear hM
      go_wp2
      go_end0
      exact ⟨rfl, .inl ⟨O, HJ.out⟩⟩
end Go.Proofs.YtfdolhppbimbmaaDoor

namespace Go.Proofs.YtfdolhppbimbmaaDoor
set_option linter.unusedVariables false
set_option linter.unusedSimpArgs false
open Go.RowKit Go.Shelf
attribute [local go_sem] Oper.semAt_some

/-- A pattern as it is looked for. -/
def lowP (fold : Bool) (p : ByteArray) : ByteArray := ⟨(p.data.toList.map (low fold)).toArray⟩
theorem lowP_list (fold : Bool) (p : ByteArray) : (lowP fold p).data.toList = p.data.toList.map (low fold) := rfl
theorem lowP_size (fold : Bool) (p : ByteArray) : (lowP fold p).size = p.size := by
  show (List.toArray _).size = _
  rw [List.size_toArray, List.length_map, ← Lib.size_eq]
theorem lowP_false (p : ByteArray) : lowP false p = p := bytes_ext (by rw [lowP_list, map_low_false])
set_option maxHeartbeats 4000000 in
set_option maxRecDepth 100000 in
theorem matches_any (a : Option Addr) (n cp : Nat) (first : Int) (p : ByteArray) (fold : Bool) (hp : p.size ≤ 100000000) (w : World) :
    Calls Tryd.prog 76 #[.slice a n cp, .int .i64 first, .string p, .bool fold] w fun e w' =>
      e = .returned (.func (.func 116) #[] #[.pointer (some ⟨w.heap.size, 0, none⟩), .pointer (some ⟨w.heap.size + 1, 0, none⟩), .pointer (some ⟨w.heap.size + 3, 0, none⟩), .pointer (some ⟨w.heap.size + 2, 0, none⟩)]) ∧
        MaMem w' w.heap.size (.slice a n cp) first (lowP fold p) fold ∧ Sees w w' := by
  obtain ⟨W1, hW1⟩ : ∃ W1, W1 = (((w.alloc (.cells #[.slice a n cp] 22)).alloc (.cells #[.int .i64 first] 3)).alloc (.cells #[.string p] 9)).alloc (.cells #[.bool fold] 4) := ⟨_, rfl⟩
  have hm : MaMem W1 w.heap.size (.slice a n cp) first p fold := by
    subst hW1
    exact ⟨(((Bx.new rfl).sees ((Sees.refl _).alloc _)).sees ((Sees.refl _).alloc _)).sees ((Sees.refl _).alloc _), ((Bx.new (by simp)).sees ((Sees.refl _).alloc _)).sees ((Sees.refl _).alloc _), (Bx.new (by simp)).sees ((Sees.refl _).alloc _), Bx.new (by simp)⟩
  have hs : Sees w W1 := by subst hW1; exact ((((Sees.refl w).alloc _).alloc _).alloc _).alloc _
  have HM := Lib.hid hm
  have HS := Lib.hid hs
  clear hm hs
  go_enter Tryd.func76, Tryd.ntmps76
  cases fold
  · go_upto_region 3 with fail
    refine wp_world fun W2 hW2 => ?_
    obtain rfl : W2 = W1 := by rw [hW2, hW1]
    clear hW2 hW1
    go_wp2
    go_ret
    exact ⟨rfl, by rw [lowP_false]; exact HM.out, HS.out⟩
  · have KF := Lib.hid (fun W => folded_any p (by omega) W)
    go_wp2_with fail
    refine calls_world fun W2 hW2 => ?_
    obtain rfl : W2 = W1 := by rw [hW2, hW1]
    clear hW2 hW1
    refine (KF.out _).mono ?_
    rintro e W3 ⟨rfl, s3⟩
    have HM3 := Lib.hid (HM.out.sees s3)
    have HS3 := Lib.hid (HS.out.trans s3)
    have c2 := HM3.out.p.c
    have f2 := HM3.out.p.fr
    clear s3
    go_wp2
    go_ret
    refine ⟨rfl, ?_, HS3.out.setCell (p := ⟨w.heap.size + 2, 0, none⟩) (by show w.heap.size ≤ w.heap.size + 2; omega) _⟩
    exact ⟨HM3.out.l.other (by omega) _, HM3.out.f.other (by omega) _, HM3.out.p.set _, HM3.out.d.other (by omega) _⟩
theorem lnOk_len {cs : List Cell} (h : lnOk cs = true) : cs.length ≤ 1000 := by
  unfold lnOk at h
  rw [Bool.and_eq_true, decide_eq_true_eq] at h
  exact h.1
/-- What is known where check has answered that all is well. -/
theorem ck_facts {ls : List Ln} {first : Int} {p : ByteArray} (h : ckR ls first p = 0) : ls.length ≤ 1000 ∧ (∀ x ∈ ls, x.cells.length ≤ 1000) ∧ (0 ≤ first ∧ first ≤ 1099511627776) ∧ (1 ≤ p.size ∧ p.size ≤ 200) ∧ ∀ x ∈ ls, x.cells.length = cols ls := by
  obtain ⟨h1, h2, h3⟩ := ckR_zero (by rw [h]; rfl)
  obtain ⟨k1, k2⟩ := rowsOk_ok h1
  exact ⟨h2, fun x hx => lnOk_len (k1 x hx).2.1, k2, patOk_ok h3, fun x hx => (k1 x hx).1⟩
theorem seq_of {w : World} {B : Nat} {a : Option Addr} {n cp : Nat} {ls : List Ln} {first : Int} {p : ByteArray} (fold : Bool) (F : Nat → Prop) (hnn : n = ls.length) (h : ckR ls first p = 0) :
    SeqK Tryd.prog 116 #[.pointer (some ⟨B, 0, none⟩), .pointer (some ⟨B + 1, 0, none⟩), .pointer (some ⟨B + 3, 0, none⟩), .pointer (some ⟨B + 2, 0, none⟩)] Mt.val (allM ls first p.data.toList fold) (MaM F B (.slice a n cp) ls first (lowP fold p) fold) := by
  obtain ⟨h1, h2, h3, h4, _⟩ := ck_facts h
  exact matches_seq F B a n cp ls first (lowP fold p) fold hnn (by omega) h2 h3 (by rw [lowP_size]; omega)
/-- What stands between two matches: the closure's boxes, and nothing old has turned. -/
structure MaI (w : World) (B : Nat) (v : Value) (first : Int) (p : ByteArray) (fold : Bool) (W : World) : Prop where
  m : MaMem W B v first p fold
  s : Sees w W
theorem MaI.sees {w W W' : World} {B : Nat} {v : Value} {first : Int} {p : ByteArray} {fold : Bool} (h : MaI w B v first p fold W) (hs : Sees W W') : MaI w B v first p fold W' := ⟨h.m.sees hs, h.s.trans hs⟩
theorem MaI.keeps {w W W' : World} {B : Nat} {v : Value} {first : Int} {p : ByteArray} {fold : Bool} {X : Nat → Prop} (h : MaI w B v first p fold W) (hk : Keeps X W W') (hX : ∀ b, X b → w.heap.size ≤ b ∧ (b < B ∨ B + 4 ≤ b)) : MaI w B v first p fold W' :=
  ⟨h.m.keeps hk (fun b h1 h2 hb => by have := (hX b hb).2; omega), ((Keeps.of_sees (F := fun _ => False) h.s).trans' hk (fun b hb e => by have := (hX b e).1; omega)).sees_end (fun _ _ h => h)⟩
theorem MaI.mem {w W : World} {B : Nat} {v : Value} {first : Int} {p : ByteArray} {fold : Bool} {ls : List Ln} (h : MaI w B v first p fold W) (hr : lnEl.Rd (fun b => b < w.heap.size) w v ls) (hs : Std w) : MaM (fun b => b < w.heap.size) B v ls first p fold W := ⟨h.m, hr.sees h.s, hs.sees h.s⟩

theorem sees_put {w W : World} {D : Nat} {o : Obj} (h : Sees w W) (hD : w.heap.size ≤ D) : Sees w (W.putObj D o) :=
  ((Keeps.of_sees (F := fun _ => False) h).trans' (⟨rfl, rfl, rfl, by rw [World.putObj_size]; exact Nat.le_refl _, fun b _ hb => World.putObj_heap_other hb⟩ : Keeps (fun b => b = D) W (W.putObj D o)) (fun b hb e => by omega)).sees_end (fun _ _ h => h)
section
variable {w : World} {a : Option Addr} {n cp : Nat} {ls : List Ln} {first : Int} {p : ByteArray}
set_option maxHeartbeats 4000000 in
set_option maxRecDepth 100000 in
theorem count_err (ht : Tabs w) (ha : lnEl.Rd (fun b => b < w.heap.size) w (.slice a n cp) ls) (hn : ls.length ≤ 1000000) (hc : ∀ x ∈ ls, x.cells.length ≤ 1000000) (hp : p.size ≤ 1000000000) (fold : Bool) (h : ckR ls first p = 2) :
    Calls Tryd.prog 22 #[.slice a n cp, .int .i64 first, .string p, .bool fold] w fun e w' => e = .returned (.tuple #[.int .i64 0, .int .i64 2]) ∧ Sees w w' := by
  have K := Lib.hid (by have q := check_any _ _ ls w ht ha hn hc first p hp; rw [h] at q; exact q)
  clear h
  go_enter Tryd.func22, Tryd.ntmps22
  go_wp2_with fail
  refine K.out.mono ?_
  rintro e W1 ⟨rfl, s1⟩
  go_wp2
  go_ret2
  exact ⟨rfl, s1⟩
set_option maxHeartbeats 8000000 in
set_option maxRecDepth 100000 in
theorem count_ok (hst : Std w) (ht : Tabs w) (ha : lnEl.Rd (fun b => b < w.heap.size) w (.slice a n cp) ls) (fold : Bool) (h : ckR ls first p = 0) (N : Nat) (hN : N = (allM ls first p.data.toList fold).length) (hN2 : N ≤ 1000000000) :
    Calls Tryd.prog 22 #[.slice a n cp, .int .i64 first, .string p, .bool fold] w fun e w' => e = .returned (.tuple #[.int .i64 N, .int .i64 0]) ∧ Sees w w' := by
  obtain ⟨f1, f2, f3, f4, _⟩ := ck_facts h
  have hnn : n = ls.length := ha.len
  have K := Lib.hid (by have q := check_any _ _ ls w ht ha (by omega) (fun x hx => by have := f2 x hx; omega) first p (by omega); rw [h] at q; exact q)
  have KM := Lib.hid (fun W => matches_any a n cp first p fold (by omega) W)
  have HSQ := Lib.hid (fun B => seq_of (w := w) (B := B) (a := a) (cp := cp) (first := first) fold (fun b => b < w.heap.size) hnn h)
  have HST := Lib.hid hst
  have HA := Lib.hid ha
  have HN := Lib.hid hN
  clear h hst ha ht f1 f2 f3 f4 hnn hN
  refine callsIn_wide (n := 0) |>.1 ?_
  refine callsIn_of_wp_marks Tryd.func22 rfl trivial ?_ rfl
  refine wpIn_wide.2 ?_
  simp only [Tryd.ntmps22, List.size_toArray, List.length_cons, List.length_nil, Nat.reduceAdd, Nat.reduceSub, Array.replicate_succ, Array.replicate_zero, List.push_toArray, List.append_toArray, List.nil_append, List.cons_append]
  go_wp2_with fail
  refine K.out.mono ?_
  rintro e W1 ⟨rfl, s1⟩
  go_wp2_with fail
  refine calls_world fun W2 hW2 => ?_
  have B2 : Bx W2 W1.heap.size 3 (.int .i64 0) := by subst hW2; exact Bx.new rfl
  have S2 : Sees w W2 := by subst hW2; exact s1.alloc _
  have hz1 := s1.size
  have hz2 : W1.heap.size < W2.heap.size := by subst hW2; simp
  clear hW2 s1
  generalize W1.heap.size = b0 at *
  refine (KM.out _).mono ?_
  rintro e W3 ⟨rfl, hm, s3⟩
  have I3 := Lib.hid (⟨hm, S2.trans s3⟩ : MaI w W2.heap.size _ first _ fold W3)
  have B3 := Lib.hid (B2.sees s3)
  have hz3 : W2.heap.size + 4 ≤ W3.heap.size := hm.d.lt
  clear B2 S2 hm s3
  generalize W2.heap.size = B at *
  go_wp2_with fail
  refine wp_range 116 #[.pointer (some ⟨B, 0, none⟩), .pointer (some ⟨B + 1, 0, none⟩), .pointer (some ⟨B + 3, 0, none⟩), .pointer (some ⟨B + 2, 0, none⟩)] Mt.val _ _ (HSQ.out B) (enters_of Tryd.func116 (by kernel_rfl) rfl) rfl rfl
    (fun j O W => O = (fun b => b = b0) ∧ Bx W b0 3 (.int .i64 (j : Int)) ∧ MaI w B (.slice a n cp) first (lowP fold p) fold W) (fun _ _ => False) (fun b => b = b0)
    ?keep (fun _ _ _ h => h.elim) ?mem ?own ⟨rfl, B3.out, I3.out⟩ ?round ?done (fun _ _ h => h.elim) (fun _ h => h.elim)
  case keep =>
    rintro j O W W' ⟨h1, h2, h3⟩ hk
    exact ⟨h1, h2.keeps hk (by omega), h3.keeps hk (fun b hb => by omega)⟩
  case mem =>
    rintro j O W ⟨_, _, h3⟩
    exact h3.mem HA.out HST.out
  case own =>
    rintro j O W ⟨rfl, h2, h3⟩ b rfl
    exact ⟨h2.lt, by omega, by omega⟩
  case round =>
    rintro l j O x W hx ⟨rfl, h2, h3⟩ hz
    have hj : j < N := by rw [HN.out]; exact (List.getElem?_eq_some_iff.1 hx).1
    gi_wp2
    refine ⟨fun W => Bx W b0 3 (.int .i64 (j : Int)) ∧ MaI w B (.slice a n cp) first (lowP fold p) fold W, ⟨h2, h3⟩, fun A A' hA hk => ⟨hA.1.keeps hk (by omega), hA.2.keeps hk (fun b hb => by omega)⟩, Sees.refl W, fun W' hW' hz' => ?_⟩
    obtain ⟨h4, h5⟩ := hW'
    have c0 := h4.c
    have g0 := h4.fr
    have H4 := Lib.hid h4
    have H5 := Lib.hid h5
    clear h2 h3 h4 h5
    gi_wp2
    refine ⟨fun b => b = b0, ⟨rfl, ?_, ?_⟩, (Keeps.refl (fun b => b = b0) W').setCell (p := ⟨b0, 0, none⟩) (fun _ => rfl) _, fun b hb => .inl hb⟩
    · have q := H4.out.set (.int .i64 ((j : Int) + 1))
      simpa using q
    · exact H5.out.keeps ((Keeps.refl (fun b => b = b0) W').setCell (p := ⟨b0, 0, none⟩) (fun _ => rfl) _) (fun b hb => by subst hb; omega)
  case done =>
    rintro O W ⟨_, h2, h3⟩ hD
    rw [← HN.out] at h2
    have c0 := h2.c
    have S := Lib.hid h3.s
    have hDD := Lib.hid hD
    clear h2 h3 hD
    go_wp2_with fail
    refine marks_ret rfl hDD.out (v := .tuple #[.int .i64 N, .int .i64 0]) (by simp [results, Tryd.results22, go_sem]) ⟨rfl, ?_⟩
    exact sees_put S.out (by have := I3.out.s.size; exact this)
end
end Go.Proofs.YtfdolhppbimbmaaDoor
