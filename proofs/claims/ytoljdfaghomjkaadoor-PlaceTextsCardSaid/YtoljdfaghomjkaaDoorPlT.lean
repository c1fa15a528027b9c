/- The text of a place, and the place with a text. No condition. -/
import Derived.Test.YtoljdfaghomjkaaDoorPlS
import Derived.Lib.ItoaLen
namespace Go.Proofs.YtoljdfaghomjkaaDoor
set_option linter.unusedVariables false
set_option linter.unusedSimpArgs false
open Go.RowKit

abbrev I64 (x : Int) : Prop := -9223372036854775808 ≤ x ∧ x ≤ 9223372036854775807
/-- The text of a place. -/
def txt (l c : Int) : ByteArray := ⟨(Lib.itoa l).toArray⟩ ++ ⟨#[58]⟩ ++ ⟨(Lib.itoa c).toArray⟩

theorem str_ne {a b : ByteArray} (h : a ≠ b) : (a.toList == b.toList) = false := by
  rw [beq_eq_false_iff_ne]
  intro e
  rw [ByteArray.toList_eq, ByteArray.toList_eq] at e
  exact h (ByteArray.ext (Array.toList_inj.1 e))
theorem text_bad (l c : Int) (h : vP l c = false) (w : World) :
    Calls Tryd.prog 28 #[pl l c] w fun e w' => e = .returned (.tuple #[.string ⟨#[]⟩, .int .i64 2]) ∧ Sees w w' := by
  have hw := Sees.refl w
  go_enter Tryd.func28, Tryd.ntmps28
  go_wp2_with fail
  refine (valid_any l c _).mono ?_
  rintro e w1 ⟨rfl, hs1⟩
  rw [h]
  have hS := (hw.alloc _).trans hs1
  clear hs1
  go_wp2
  go_ret2
  exact ⟨rfl, hS⟩
set_option maxHeartbeats 1000000 in
theorem text_ok (l c : Int) (hl : I64 l) (hc : I64 c) (h : vP l c = true) (w : World) (hst : Std w) :
    Calls Tryd.prog 28 #[pl l c] w fun e w' => e = .returned (.tuple #[.string (txt l c), .int .i64 0]) ∧ Sees w w' := by
  have hw := Sees.refl w
  go_enter Tryd.func28, Tryd.ntmps28
  go_wp2_with fail
  refine (valid_any l c _).mono ?_
  rintro e w1 ⟨rfl, hs1⟩
  rw [h]
  have hS := (hw.alloc _).trans hs1
  have c0 : w1.cell? ⟨w.heap.size, 0, none⟩ = some (.int .i64 l) := by rw [hs1.cells _ _ (by simp)]; simp
  have c1 : w1.cell? ⟨w.heap.size, 1, none⟩ = some (.int .i64 c) := by rw [hs1.cells _ _ (by simp)]; simp
  have hT := hst.sees hS
  have HC : Hid (∀ W, Sees w1 W → W.cell? ⟨w.heap.size, 0, none⟩ = some (.int .i64 l) ∧ W.cell? ⟨w.heap.size, 1, none⟩ = some (.int .i64 c)) := Lib.hid fun W h => ⟨h.cell c0, h.cell c1⟩
  clear hs1 c0 c1
  go_wp2_with fail
  refine wpFrom_go (by kernel_rfl) (by kernel_rfl) (fun hB w2 hw2 => ?_)
  have hst2 : segStay (Sees w2) [.is (.pointer (some ⟨w.heap.size, 0, none⟩)), .is (.int .i64 l), .is (.string ⟨(Lib.itoa l).toArray⟩), .is (.string (⟨(Lib.itoa l).toArray⟩ ++ ⟨#[58]⟩)),
      .is (.pointer (some ⟨w.heap.size, 1, none⟩)), .is (.int .i64 c), .is (.string ⟨(Lib.itoa c).toArray⟩)] := trivial
  have hval : ∀ x v, (Spec.is x).val v = x := fun _ _ => rfl
  have z1 : (Lib.itoa l).length ≤ 21 := Lib.itoa_length_le l hl.1 hl.2
  have z2 : (Lib.itoa c).length ≤ 21 := Lib.itoa_length_le c hc.1 hc.2
  have z3 : (Lib.itoa l).length ≤ 9223372036854775806 := by omega
  have z4 : (Lib.itoa l).length + 1 + (Lib.itoa c).length ≤ 9223372036854775807 := by omega
  refine wpFrom_any 7 _ hB (by kernel_rfl) rfl hst2 (by simp only [List.cons_append, List.nil_append, List.drop_succ_cons, List.drop_zero, List.take_succ_cons, List.take_zero, Nat.reduceSub]; rfl) ?_
  refine ⟨fun vs W hI hV => .inl ⟨by go_simp, .inl (by go_simp)⟩, ?_⟩
  refine ⟨fun vs W hI hV => .inl ⟨by go_simp, .inl (by have q := HC.out _ (hw2.trans hI); obtain ⟨q0, q1⟩ := q; clear hI hV; go_simp)⟩, ?_⟩
  refine ⟨fun vs W hI hV => .inl ⟨by clear hV; go_simp, .inr (.inr ⟨37, #[.int .i64 l], by clear hI hV; go_simp, itoa_any l hl W (hT.sees (hw2.trans hI))⟩)⟩, ?_⟩
  refine ⟨fun vs W hI hV => .inl ⟨by go_simp, .inl (by go_simp)⟩, ?_⟩
  refine ⟨fun vs W hI hV => .inl ⟨by go_simp, .inl (by go_simp)⟩, ?_⟩
  refine ⟨fun vs W hI hV => .inl ⟨by go_simp, .inl (by have q := HC.out _ (hw2.trans hI); obtain ⟨q0, q1⟩ := q; clear hI hV; go_simp)⟩, ?_⟩
  refine ⟨fun vs W hI hV => .inl ⟨by clear hV; go_simp, .inr (.inr ⟨37, #[.int .i64 c], by clear hI hV; go_simp, itoa_any c hc W (hT.sees (hw2.trans hI))⟩)⟩, ?_⟩
  intro vs w3 hI hV
  have hS3 := hS.trans (hw2.trans hI)
  clear hI hV hst2
  go_simp
  refine wpFrom_to 10 hB (fun _ _ _ _ _ h => h) (by kernel_rfl) (by simp only [List.cons_append, List.nil_append, List.drop_succ_cons, List.drop_zero, List.take_succ_cons, List.take_zero, Nat.reduceSub]; rfl) ?_
  go_wp2
  refine wpFrom_end rfl ?_; go_wp2
  go_ret2
  exact ⟨rfl, hS3⟩
theorem text_any (l c : Int) (hl : I64 l) (hc : I64 c) (w : World) (hst : Std w) :
    Calls Tryd.prog 28 #[pl l c] w fun e w' => ∃ x no, e = .returned (.tuple #[.string x, .int .i64 no]) ∧ ((vP l c = true ∧ x = txt l c ∧ no = 0) ∨ (vP l c = false ∧ x = ⟨#[]⟩ ∧ no = 2)) ∧ Sees w w' := by
  cases h : vP l c
  · exact (text_bad l c h w).mono fun e w' ⟨he, hs⟩ => ⟨_, _, he, .inr ⟨rfl, rfl, rfl⟩, hs⟩
  · exact (text_ok l c hl hc h w hst).mono fun e w' ⟨he, hs⟩ => ⟨_, _, he, .inl ⟨rfl, rfl, rfl⟩, hs⟩

/-- A text has a place. -/
def HasPl0 (a b : List UInt8) (s : ByteArray) (l c : Int) : Prop := Lib.atoiAll a = .ok l ∧ Lib.atoiAll b = .ok c ∧ vP l c = true ∧ txt l c = s
def HasPl (s : ByteArray) (l c : Int) : Prop :=
  Lib.atoiAll (Lib.cut s.data.toList [58]).1 = .ok l ∧ Lib.atoiAll (Lib.cut s.data.toList [58]).2.1 = .ok c ∧ vP l c = true ∧ txt l c = s
set_option maxHeartbeats 2000000 in
theorem parse_any0 (s : ByteArray) (hs : s.size < 4294967281) (a b : List UInt8) (f : Bool) (hcut : Lib.cut s.data.toList [58] = (a, b, f)) (h1 : a.length ≤ 281474976710656) (h2 : b.length ≤ 281474976710656) (w : World) (hst : Std w) :
    Calls Tryd.prog 35 #[.string s] w fun e w' => ((∃ l c, HasPl0 a b s l c ∧ e = .returned (.tuple #[pl l c, .int .i64 0])) ∨ ((∀ l c, ¬ HasPl0 a b s l c) ∧ e = .returned (.tuple #[pl 0 0, .int .i64 6]))) ∧ Sees w w' := by
  have hw := Sees.refl w
  go_enter Tryd.func35, Tryd.ntmps35
  go_wp2_with fail
  refine (cut_any s hs _ (hst.sees (hw.alloc _))).mono ?_
  rintro e w1 ⟨rfl, s1⟩
  rw [hcut]
  have hS1 := (hw.alloc _).trans s1
  have R1 := (PlAt.new w 0 0).sees s1
  clear s1
  go_wp2_with fail
  refine (atoi_any ⟨a.toArray⟩ (by show a.toArray.size ≤ _; simpa using h1) _ (hst.sees hS1)).mono ?_
  rintro e w2 ⟨l, e1, rfl, i1, hl, s2⟩
  have hS2 := hS1.trans s2
  have R2 := R1.sees s2
  clear s2 R1
  go_wp2_with fail
  refine (atoi_any ⟨b.toArray⟩ (by show b.toArray.size ≤ _; simpa using h2) _ (hst.sees hS2)).mono ?_
  rintro e w3 ⟨c, e2, rfl, i2, hc, s3⟩
  have hS3 := hS2.trans s3
  have R3 := R2.sees s3
  clear s3 R2
  go_wp2_with fail
  refine (text_any l c hl hc _ (hst.sees (hS3.alloc _))).mono ?_
  rintro e w4 ⟨x, no, rfl, ht, s4⟩
  have hS4 := (hS3.alloc _).trans s4
  have R4 := R3.sees (((Sees.refl w3).alloc _).trans s4)
  have P4 := (PlAt.new w3 l c).sees s4
  have hne : w3.heap.size ≠ w.heap.size := by have := R3.lt; omega
  clear R3
  obtain ⟨d0, d1⟩ := R4.cs
  obtain ⟨f0, f1⟩ := R4.fr
  obtain ⟨p0, p1⟩ := P4.cs
  have hlt := R4.lt
  have hend : ∀ u v, Sees w ((w4.setCell ⟨w.heap.size, 0, none⟩ u).setCell ⟨w.heap.size, 1, none⟩ v) := fun u v => (hS4.setCell (Nat.le_refl _) u).setCell (Nat.le_refl _) v
  clear s4 hS1 hS2 hS3 R4 P4
  rcases i1 with ⟨i1, rfl⟩ | ⟨i1, t1, q1, rfl⟩
  · rcases i2 with ⟨i2, rfl⟩ | ⟨i2, t2, q2, rfl⟩
    · rcases ht with ⟨hv, rfl, rfl⟩ | ⟨hv, rfl, rfl⟩
      · by_cases hx : txt l c = s
        · rw [hx]
          go_wp2
          refine bodyPost_ret_by (v := .tuple #[pl l c, .int .i64 0]) (by simp [results, Tryd.results35, go_sem, d0, d1]) rfl ⟨.inl ⟨l, c, ⟨i1, i2, hv, hx⟩, rfl⟩, hend _ _⟩
        · have hb : ((txt l c).toList == s.toList) = false := str_ne hx
          go_wp2
          refine bodyPost_ret_by (v := .tuple #[pl 0 0, .int .i64 6]) (by simp [results, Tryd.results35, go_sem, d0, d1]) rfl ⟨.inr ⟨fun l' c' ⟨g1, g2, g3, g4⟩ => ?_, rfl⟩, hend _ _⟩
          obtain rfl : l = l' := by have := i1.symm.trans g1; simpa using this
          obtain rfl : c = c' := by have := i2.symm.trans g2; simpa using this
          exact hx g4
      · go_wp2
        refine bodyPost_ret_by (v := .tuple #[pl 0 0, .int .i64 6]) (by simp [results, Tryd.results35, go_sem, d0, d1]) rfl ⟨.inr ⟨fun l' c' ⟨g1, g2, g3, g4⟩ => ?_, rfl⟩, hend _ _⟩
        obtain rfl : l = l' := by have := i1.symm.trans g1; simpa using this
        obtain rfl : c = c' := by have := i2.symm.trans g2; simpa using this
        rw [hv] at g3; cases g3
    · go_wp2
      refine bodyPost_ret_by (v := .tuple #[pl 0 0, .int .i64 6]) (by simp [results, Tryd.results35, go_sem, d0, d1]) rfl ⟨.inr ⟨fun l' c' ⟨g1, g2, g3, g4⟩ => i2 c' g2, rfl⟩, hend _ _⟩
  · go_wp2
    refine bodyPost_ret_by (v := .tuple #[pl 0 0, .int .i64 6]) (by simp [results, Tryd.results35, go_sem, d0, d1]) rfl ⟨.inr ⟨fun l' c' ⟨g1, g2, g3, g4⟩ => i1 l' g1, rfl⟩, hend _ _⟩
end Go.Proofs.YtoljdfaghomjkaaDoor
