/- Small functions of the statements about matches (42): places, matches, rows of letters. The tables hold what the program's text lays. alls, nexts, prevs (42). The tables hold what the program's text lays. The known examples (42): what they come to. No condition. -/
import Derived.Test.YtooiiefipdjbjaaDoorSrN
namespace Go.Proofs.YtooiiefipdjbjaaDoor
set_option linter.unusedVariables false
set_option linter.unusedSimpArgs false
open Go.RowKit Go.Shelf
attribute [local go_sem] Oper.semAt_some

theorem results_one {P : Program} {fn : Func} {tmps : Array Value} {W : World} {i p : Nat} {T : TypeId} {x : Value} (hr : fn.results = #[.cell i T]) (hi : tmps[i]?.getD undef = .pointer (some ⟨p, 0, none⟩)) (hl : (loadVar T ⟨p, 0, none⟩).run P W = .ok x W) :
    (results fn tmps).run P W = .ok x W := by
  unfold results
  rw [hr]
  simp [hi, asAddr, hl]
theorem pl_isAgg : ∀ W, (isAgg 25).run Tryd.prog W = .ok true W := fun _ => by kernel_rfl
theorem pl_sizeOf : ∀ W, (sizeOf 25).run Tryd.prog W = .ok 2 W := fun _ => by kernel_rfl
theorem run_loadPl {W : World} {b : Nat} {l c : Int} (h : PlAt W b l c) : (loadVar 25 ⟨b, 0, none⟩).run Tryd.prog W = .ok (.agg #[.int .i64 l, .int .i64 c]) W :=
  run_load_agg 25 b 0 [.int .i64 l, .int .i64 c] pl_isAgg pl_sizeOf fun j x hx => by
    rw [Nat.zero_add, Go.cell_of_row W b _ _ _ _ h]
    simpa using hx
/-- A cell of a letter. -/
def chC (b : UInt8) : Cell := ⟨b.toNat, 0, 0, 0, 1, 0, 0, 0, 0, 0, 0, 0, 0, 0, 0, 0⟩
def chL (s : ByteArray) : List Cell := s.data.toList.map chC
theorem chL_len (s : ByteArray) : (chL s).length = s.size := by unfold chL; rw [List.length_map, ← Lib.size_eq]
end Go.Proofs.YtooiiefipdjbjaaDoor

namespace Go.Proofs.YtooiiefipdjbjaaDoor
set_option linter.unusedVariables false
set_option linter.unusedSimpArgs false
open Go.RowKit Go.Shelf
attribute [local go_sem] Oper.semAt_some

theorem rd_up {w W : World} {v : Value} {ls : List Ln} (h : lnEl.Rd (fun b => b < w.heap.size) w v ls) (hs : Sees w W) : lnEl.Rd (fun b => b < W.heap.size) W v ls := (h.sees hs).mono (fun b _ hb => Nat.lt_of_lt_of_le hb hs.size)
/-- What Next and Prev answer. -/
def nxt (ls : List Ln) (first : Int) (p : ByteArray) (fold : Bool) (l c : Int) : Mt × Int := if foR ls first p l c = 0 then (nextR (allM ls first p.data.toList fold) l c, noneE (allM ls first p.data.toList fold)) else (zeroMt, foR ls first p l c)
def prv (ls : List Ln) (first : Int) (p : ByteArray) (fold : Bool) (l c : Int) : Mt × Int := if foR ls first p l c = 0 then (prevR (allM ls first p.data.toList fold) l c, noneE (allM ls first p.data.toList fold)) else (zeroMt, foR ls first p l c)
section
variable {w : World} {a : Option Addr} {n cp : Nat} {ls : List Ln} {first : Int} {p : ByteArray}
end
end Go.Proofs.YtooiiefipdjbjaaDoor

namespace Go.Proofs.YtooiiefipdjbjaaDoor
set_option linter.unusedVariables false
set_option linter.unusedSimpArgs false
open Go.RowKit Go.Shelf

def aB : ByteArray := ⟨#[97, 98]⟩
def knL : List Ln := [⟨chL ⟨#[97, 98, 65, 66]⟩, true⟩, ⟨[⟨97, 0, 0, 0, 1, 0, 0, 0, 0, 0, 0, 0, 0, 0, 0, 0⟩, ⟨28450, 0, 0, 0, 2, 0, 0, 0, 0, 0, 0, 0, 0, 0, 0, 0⟩, ⟨0, 0, 0, 0, 0, 0, 0, 0, 0, 0, 0, 0, 0, 0, 0, 0⟩, ⟨98, 0, 0, 0, 1, 0, 0, 0, 0, 0, 0, 0, 0, 0, 0, 0⟩], false⟩, ⟨chL ⟨#[97, 98, 32, 98]⟩, false⟩]
theorem kn_rows : rowsOk knL 5 = true := by kernel_rfl
theorem kn_ck (p : ByteArray) (h : patOk p = true) : ckR knL 5 p = 0 := ckR_ok kn_rows (by decide) h
theorem kn_b : ckR knL 5 ⟨#[98]⟩ = 0 := kn_ck _ (by kernel_rfl)
theorem kn_bn : 5 = (allM knL 5 (⟨#[98]⟩ : ByteArray).data.toList true).length := by kernel_rfl
theorem kn_ab : ckR knL 5 ⟨#[97, 98]⟩ = 0 := kn_ck _ (by kernel_rfl)
theorem kn_ab1 : [⟨5, 0, 5, 1⟩, ⟨7, 0, 7, 1⟩] = allM knL 5 (⟨#[97, 98]⟩ : ByteArray).data.toList false := by kernel_rfl
theorem kn_ab2 : [⟨5, 0, 5, 1⟩, ⟨5, 2, 5, 3⟩, ⟨7, 0, 7, 1⟩] = allM knL 5 (⟨#[97, 98]⟩ : ByteArray).data.toList true := by kernel_rfl
theorem kn_c : ckR knL 5 ⟨#[66, 97, 230, 188, 162]⟩ = 0 := kn_ck _ (by kernel_rfl)
theorem kn_c1 : [⟨5, 3, 6, 1⟩] = allM knL 5 (⟨#[66, 97, 230, 188, 162]⟩ : ByteArray).data.toList false := by kernel_rfl
theorem kn_d : ckR knL 5 ⟨#[230, 188, 162]⟩ = 0 := kn_ck _ (by kernel_rfl)
theorem kn_d1 : [⟨6, 1, 6, 1⟩] = allM knL 5 (⟨#[230, 188, 162]⟩ : ByteArray).data.toList false := by kernel_rfl
theorem kn_e : ckR knL 5 ⟨#[98, 97, 98]⟩ = 0 := kn_ck _ (by kernel_rfl)
theorem kn_e1 : [] = allM knL 5 (⟨#[98, 97, 98]⟩ : ByteArray).data.toList false := by kernel_rfl
theorem kn_f : ckR knL 5 ⟨#[]⟩ = 2 := ckR_pat (by kernel_rfl)
theorem kn_n1 : nxt knL 5 ⟨#[97, 98]⟩ false 5 0 = (⟨7, 0, 7, 1⟩, 0) := by kernel_rfl
theorem kn_n2 : nxt knL 5 ⟨#[97, 98]⟩ false 7 0 = (⟨5, 0, 5, 1⟩, 0) := by kernel_rfl
theorem kn_p1 : prv knL 5 ⟨#[97, 98]⟩ false 5 0 = (⟨7, 0, 7, 1⟩, 0) := by kernel_rfl
theorem kn_z : nxt knL 5 ⟨#[122, 122]⟩ false 5 0 = (⟨0, 0, 0, 0⟩, 9) := by kernel_rfl
end Go.Proofs.YtooiiefipdjbjaaDoor
