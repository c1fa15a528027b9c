/- The chapter's examples (23). No condition but what the library's variables hold. -/
import Derived.Test.YtfgifjdholdohaaDoorSaH
import Derived.Test.YtfgifjdholdohaaDoorSaJ
import Derived.Deep.Cut
namespace Go.Proofs.YtfgifjdholdohaaDoor
set_option linter.unusedVariables false
set_option linter.unusedSimpArgs false
open Go.RowKit

theorem text_inj {x y : Sv} (hx : x.ok = true) (hfx : x.Fits) (hy : y.ok = true) (hfy : y.Fits) (h : x.text = y.text) : x = y := by
  have e := textN_inj (by unfold Sv.nums; simp) (by unfold Sv.nums; simp) (show textN (x.nums x.word) = textN (y.nums y.word) from h)
  rw [← mk_back hx hfx, ← mk_back hy hfy]
  unfold Sv.nums at e
  simp only [List.cons.injEq] at e
  obtain ⟨k0, k1, k2, k3, k4, k5, k6, k7, -⟩ := e
  rw [k0, k1, k2, k3, k4, k5, k6, k7]
theorem isParse_text {x : Sv} {e : Ending} (hx : x.ok = true) (hf : x.Fits) (h : IsParse x.text e) : e = .returned (.tuple #[x.val, .int .i64 0]) := by
  rcases h with ⟨y, hy, hfy, he, h⟩ | ⟨h, _⟩
  · rw [h, text_inj hy hfy hx hf he]
  · exact absurd rfl (h x hx hf)
theorem isParse_none {t : List UInt8} {e : Ending} (hn : ∀ x : Sv, x.ok = true → x.Fits → x.text ≠ t) (h : IsParse t e) : e = .returned (.tuple #[zSv.val, .int .i64 6]) := by
  rcases h with ⟨y, hy, hfy, he, _⟩ | ⟨_, h⟩
  · exact absurd he (hn y hy hfy)
  · exact h
theorem parses_text (x t : Sv) (no : Int) (hx : x.ok = true) (hf : x.Fits) (T : ByteArray) (hT : T.data.toList = x.text) (hs : T.size ≤ 100000) (w : World) (hw : Std w) : Calls Tryd.prog 18 #[.string T, t.val, .int .i64 no] w fun e w' => e = .returned (.bool (eqSv x t && (0 : Int) == no)) ∧ Sees w w' :=
  parses_at T t no x 0 w fun W hW => (sparse_any T hs W (hw.sees hW)).mono fun e W' ⟨h, s⟩ => ⟨isParse_text hx hf (hT ▸ h), s⟩
theorem parses_none (t : Sv) (no : Int) (T : ByteArray) (hn : ∀ x : Sv, x.ok = true → x.Fits → x.text ≠ T.data.toList) (hs : T.size ≤ 100000) (w : World) (hw : Std w) : Calls Tryd.prog 18 #[.string T, t.val, .int .i64 no] w fun e w' => e = .returned (.bool (eqSv zSv t && (6 : Int) == no)) ∧ Sees w w' :=
  parses_at T t no zSv 6 w fun W hW => (sparse_any T hs W (hw.sees hW)).mono fun e W' ⟨h, s⟩ => ⟨isParse_none hn h, s⟩
def kS : Sv := ⟨3, 79, true, 0, 0, 0, 0, 0, 0, 0, 0, 0, 0, 0, false, 0, 0, 0⟩
def kT : Sv := ⟨3, 79, true, 0, 0, 0, 0, 0, 0, 0, 0, 0, 0, 0, true, 0, 0, 0⟩
def kW : Sv := ⟨5, 79, true, 0, 0, 0, 0, 0, 0, 0, 0, 0, 0, 0, true, 0, 0, 0⟩
def kU : Sv := ⟨0, 79, false, 0, 0, 0, 0, 0, 0, 0, 0, 0, 0, 0, false, 0, 0, 0⟩
def kV : Sv := ⟨3, 1000, true, 0, 0, 0, 0, 0, 0, 0, 0, 0, 0, 0, false, 0, 0, 0⟩
def kA : Ar := ⟨24, 80, 5, 9, false⟩
def kB : Ar := ⟨1, 100, 0, 0, false⟩
def kZ : Ar := ⟨0, 0, 0, 0, false⟩
theorem kS_ok : kS.ok = true := by decide
theorem kT_ok : kT.ok = true := by decide
theorem kZS_ok : zSv.ok = true := by decide
theorem kV_ok : kV.ok = false := by decide
theorem kA_right : kA.right = true := by decide
theorem kB_right : kB.right = true := by decide
theorem kZ_right : kZ.right = false := by decide
theorem kS_resto : resto kS kA = kS := rfl
theorem kT_resto : resto kT kA = kW := rfl
theorem kU_resto : resto kS kB = kU := rfl
theorem kS_fits : kS.Fits := by constructor <;> decide
theorem kZS_fits : zSv.Fits := by constructor <;> decide
theorem dec_small {u : Nat} (h : u < 10) : Lib.decDigits u = [UInt8.ofNat (48 + u)] := by rw [Lib.decDigits, dif_pos h]
theorem kS_text : kS.text = [51, 32, 55, 57, 32, 49, 32, 48, 32, 48, 32, 48, 32, 48, 32, 48] := by
  have e79 : Lib.decDigits 79 = [55, 57] := by rw [Lib.decDigits, dif_neg (by omega), dec_small (by omega)]; rfl
  show textN [3, 79, 1, 0, 0, 0, 0, 0] = _
  simp only [textN, List.map, joinS, e79, dec_small (show 3 < 10 by omega), dec_small (show 1 < 10 by omega), dec_small (show 0 < 10 by omega)]
  rfl
theorem kZ_text : zSv.text = [48, 32, 48, 32, 48, 32, 48, 32, 48, 32, 48, 32, 48, 32, 48] := by
  show textN [0, 0, 0, 0, 0, 0, 0, 0] = _
  simp only [textN, List.map, joinS, dec_small (show 0 < 10 by omega)]
  rfl
theorem none1 (x : Sv) (_ : x.ok = true) (_ : x.Fits) : x.text ≠ [48, 51, 32, 55, 57, 32, 49, 32, 48, 32, 48, 32, 48, 32, 48, 32, 48] := by
  intro h
  have e := text_pieces x
  rw [h, show pieces 32 [48, 51, 32, 55, 57, 32, 49, 32, 48, 32, 48, 32, 48, 32, 48, 32, 48] = [[48, 51], [55, 57], [49], [48], [48], [48], [48], [48]] by decide] at e
  unfold Sv.nums at e
  simp only [List.map, List.cons.injEq] at e
  have n := dec_numb x.row.toNat
  rw [← e.1] at n
  have n3 : x.row.toNat = 3 := n.symm
  have := e.1
  rw [n3, dec_small (by omega)] at this
  cases this
theorem none2 (x : Sv) (_ : x.ok = true) (_ : x.Fits) : x.text ≠ [51, 32, 55, 57, 32, 49, 32, 48, 32, 50, 32, 48, 32, 48, 32, 48] := by
  intro h
  have e := text_pieces x
  rw [h, show pieces 32 [51, 32, 55, 57, 32, 49, 32, 48, 32, 50, 32, 48, 32, 48, 32, 48] = [[51], [55, 57], [49], [48], [50], [48], [48], [48]] by decide] at e
  unfold Sv.nums at e
  simp only [List.map, List.cons.injEq] at e
  have n := dec_numb (bitN x.org)
  rw [← e.2.2.2.2.1] at n
  have n3 : bitN x.org = 2 := n.symm
  unfold bitN at n3
  split at n3 <;> omega
theorem exec_alloc_sv {ρ : Operand → Value} {o : Oper} {W : World} (ho : o.op = .alloc 35) : (execOp ρ o).run Tryd.prog W = .ok (.value (.pointer (some ⟨W.heap.size, 0, none⟩))) (W.alloc (.cells zSv.cells 35)) := by
  unfold execOp
  rw [ho]
  go_simp
theorem exec_build_kS {ρ : Operand → Value} {o : Oper} {x : Operand} {W : World} (ho : o.op = .build 35 #[(0, x)]) (hx : ρ x = .agg #[.int .i64 3, .int .i64 79, .bool true]) : (execOp ρ o).run Tryd.prog W = .ok (.value kS.val) W := by
  have h : ∀ W, (Instr.build 35 #[(0, .agg #[.int .i64 3, .int .i64 79, .bool true])]).run Tryd.prog W = .ok kS.val W := fun W => by kernel_rfl
  unfold execOp
  rw [ho]
  simp only [List.map_toArray, List.map_cons, List.map_nil, hx, Sem.run_bind, h, Result.andThen_ok]
  rfl
theorem SvAt.org' {W : World} {p : Nat} {s : Sv} (h : SvAt W p s) (x : Bool) : SvAt (W.setCell ⟨p, 14, none⟩ (.bool x)) p { s with org := x } := heap_setCell_same _ _ _ _ _ _ h
theorem SvAt.lt {W : World} {p : Nat} {s : Sv} (h : SvAt W p s) : p < W.heap.size := (Array.getElem?_eq_some_iff.1 h).1
theorem ArAt.lt {W : World} {p : Nat} {s : Ar} (h : ArAt W p s) : p < W.heap.size := (Array.getElem?_eq_some_iff.1 h).1
theorem ArAt.other {W : World} {p q : Nat} {z : Ar} (h : ArAt W q z) (hne : q ≠ p) (cs : Array Value) : ArAt (W.setRow p cs) q z := by
  unfold ArAt
  rw [setRow_other _ _ _ _ hne]
  exact h
end Go.Proofs.YtfgifjdholdohaaDoor
