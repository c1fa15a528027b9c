/- The known examples (42): what they come to. No condition. -/
import Derived.Test.YtohiigmlkhpneaaDoorSrT
namespace Go.Proofs.YtohiigmlkhpneaaDoor
set_option linter.unusedVariables false
set_option linter.unusedSimpArgs false
open Go.RowKit Go.Shelf

def aB : ByteArray := ⟨#[97, 98]⟩
def knL : List Ln := [⟨chL ⟨#[97, 98, 65, 66]⟩, true⟩, ⟨[⟨97, 0, 0, 0, 1, 0, 0, 0, 0, 0, 0, 0, 0, 0, 0, 0⟩, ⟨28450, 0, 0, 0, 2, 0, 0, 0, 0, 0, 0, 0, 0, 0, 0, 0⟩, ⟨0, 0, 0, 0, 0, 0, 0, 0, 0, 0, 0, 0, 0, 0, 0, 0⟩, ⟨98, 0, 0, 0, 1, 0, 0, 0, 0, 0, 0, 0, 0, 0, 0, 0⟩], false⟩, ⟨chL ⟨#[97, 98, 32, 98]⟩, false⟩]
theorem kn_rows : rowsOk knL 5 = true := by kernel_rfl
theorem kn_ck (p : ByteArray) (h : patOk p = true) : ckR knL 5 p = 0 := ckR_ok kn_rows (by decide) h
theorem kn_b : ckR knL 5 ⟨#[98]⟩ = 0 := kn_ck _ (by kernel_rfl)
theorem kn_bn : 5 = (allM knL 5 (⟨#[98]⟩ : ByteArray).data.toList true).length := by kernel_rfl
theorem kn_ab : ckR knL 5 ⟨#[97, 98]⟩ = 0 := kn_ck _ (by kernel_rfl)
theorem kn_ab1 : [⟨5, 0, 5, 1⟩, ⟨7, 0, 7, 1⟩] = allM knL 5 (⟨#[97, 98]⟩ : ByteArray).data.toList false := by kernel_rfl
theorem kn_ab2 : [⟨5, 0, 5, 1⟩, ⟨5, 2, 5, 3⟩, ⟨7, 0, 7, 1⟩] = allM knL 5 (⟨#[97, 98]⟩ : ByteArray).data.toList true := by kernel_rfl
theorem kn_c : ckR knL 5 ⟨#[66, 97, 230, 188, 162]⟩ = 0 := kn_ck _ (by kernel_rfl)
theorem kn_c1 : [⟨5, 3, 6, 1⟩] = allM knL 5 (⟨#[66, 97, 230, 188, 162]⟩ : ByteArray).data.toList false := by kernel_rfl
theorem kn_d : ckR knL 5 ⟨#[230, 188, 162]⟩ = 0 := kn_ck _ (by kernel_rfl)
theorem kn_d1 : [⟨6, 1, 6, 1⟩] = allM knL 5 (⟨#[230, 188, 162]⟩ : ByteArray).data.toList false := by kernel_rfl
theorem kn_e : ckR knL 5 ⟨#[98, 97, 98]⟩ = 0 := kn_ck _ (by kernel_rfl)
theorem kn_e1 : [] = allM knL 5 (⟨#[98, 97, 98]⟩ : ByteArray).data.toList false := by kernel_rfl
theorem kn_f : ckR knL 5 ⟨#[]⟩ = 2 := ckR_pat (by kernel_rfl)
theorem kn_n1 : nxt knL 5 ⟨#[97, 98]⟩ false 5 0 = (⟨7, 0, 7, 1⟩, 0) := by kernel_rfl
theorem kn_n2 : nxt knL 5 ⟨#[97, 98]⟩ false 7 0 = (⟨5, 0, 5, 1⟩, 0) := by kernel_rfl
theorem kn_p1 : prv knL 5 ⟨#[97, 98]⟩ false 5 0 = (⟨7, 0, 7, 1⟩, 0) := by kernel_rfl
theorem kn_z : nxt knL 5 ⟨#[122, 122]⟩ false 5 0 = (⟨0, 0, 0, 0⟩, 9) := by kernel_rfl
end Go.Proofs.YtohiigmlkhpneaaDoor
