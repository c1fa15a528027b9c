/- scrollbacklaw40.known's examples. The tables hold what the program's text lays. -/
import Derived.Test.YtfdolhppbimbmaaDoorTtK
namespace Go.Proofs.YtfdolhppbimbmaaDoor
set_option linter.unusedVariables false
set_option linter.unusedSimpArgs false
open Go.RowKit

def kb : Cell := ⟨0, 0, 0, 0, 1, 0, 0, 0, 0, 0, 0, 0, 0, 0, 0, 0⟩
def k1 (r : Int) : Cell := ⟨r, 0, 0, 0, 1, 0, 0, 0, 0, 0, 0, 0, 0, 0, 0, 0⟩
def k2 : Cell := ⟨28450, 0, 0, 0, 2, 0, 0, 0, 0, 0, 0, 0, 0, 0, 0, 0⟩
def k0 : Cell := ⟨0, 0, 0, 0, 0, 0, 0, 0, 0, 0, 0, 0, 0, 0, 0, 0⟩
def knA : Ln := ⟨[k1 97, k2, k0, k1 233, kb, kb], false⟩
def knB : Ln := ⟨[k1 98, kb, kb, kb, kb, kb], false⟩
theorem kn_ok : vldL [knA, knB] = true := by kernel_rfl
theorem kn_okA : lnOk knA.cells = true := by kernel_rfl
theorem kn_rows : [knA, knB].map rowTxt = [⟨#[97, 230, 188, 162, 195, 169]⟩, ⟨#[98]⟩] := by kernel_rfl
theorem kn_b1 : strL (blkL [knA, knB] 0 0 1 2) = ⟨#[97, 230, 188, 162, 10, 98]⟩ := by kernel_rfl
theorem kn_b2 : strL (blkL [knA, knB] 0 2 0 4) = ⟨#[32, 195, 169]⟩ := by kernel_rfl
theorem kn_o : (List.range 8).map (fun (i : Nat) => offP knA i) = [(0, 0), (1, 0), (4, 0), (4, 0), (6, 0), (6, 0), (6, 0), (0, 3)] := by kernel_rfl
theorem kn_c : ([0, 2, 4, 6, 7] : List Int).map (fun i => colP knA i) = [(0, 0), (1, 0), (3, 0), (4, 0), (0, 3)] := by kernel_rfl
theorem kn_w : widL (runesS ⟨#[97, 230, 188, 162]⟩) = 3 := by kernel_rfl
theorem kn_f4 : strL (fitS ⟨#[97, 230, 188, 162]⟩ 4) = ⟨#[97, 230, 188, 162, 32]⟩ := by kernel_rfl
theorem kn_f2 : strL (fitS ⟨#[97, 230, 188, 162]⟩ 2) = ⟨#[97, 32]⟩ := by kernel_rfl
end Go.Proofs.YtfdolhppbimbmaaDoor
