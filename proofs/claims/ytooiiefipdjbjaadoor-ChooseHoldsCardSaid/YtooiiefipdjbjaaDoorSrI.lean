/- search.matches: the iterator goes over all matches (42). search.matches$1 goes over all matches, in order, as long as it is told to go on (42). search.matches and Count (42). The tables hold what the program's text lays. No condition. -/
import Derived.Test.YtooiiefipdjbjaaDoorSrC
import Derived.Test.YtooiiefipdjbjaaDoorItS
import Derived.Test.YtooiiefipdjbjaaDoorSrP
import Derived.Deep.CutBlock
namespace Go.Proofs.YtooiiefipdjbjaaDoor
set_option linter.unusedVariables false
set_option linter.unusedSimpArgs false
open Go.RowKit Go.Shelf

def Mt.val (m : Mt) : Value := .agg #[.int .i64 m.l0, .int .i64 m.c0, .int .i64 m.l1, .int .i64 m.c1]
/-- What the library's variable holds. -/
def Std (W : World) : Prop := ∃ m, W.cell? ⟨2, 0, none⟩ = some (.int .i64 m)
theorem Std.sees {w W : World} (h : Std w) (hs : Sees w W) : Std W := by obtain ⟨m, h⟩ := h; exact ⟨m, hs.cell h⟩
/-- A string's end, cut off at a place. -/
theorem cut_end (s : ByteArray) (k : IntKind) (pos : Nat) (h : pos ≤ s.size) (W : World) : (Instr.sliceAt 9 (.string s) (some (.int k (pos : Int))) none none).run Tryd.prog W = .ok (.string (s.extract pos s.size)) W := by
  go_simp
/-- What the closure holds. -/
structure MaMem (W : World) (B : Nat) (v : Value) (first : Int) (p : ByteArray) (fold : Bool) : Prop where
  l : Bx W B 22 v
  f : Bx W (B + 1) 3 (.int .i64 first)
  p : Bx W (B + 2) 9 (.string p)
  d : Bx W (B + 3) 4 (.bool fold)
theorem MaMem.sees {W W' : World} {B : Nat} {v : Value} {first : Int} {p : ByteArray} {fold : Bool} (h : MaMem W B v first p fold) (hs : Sees W W') : MaMem W' B v first p fold := ⟨h.l.sees hs, h.f.sees hs, h.p.sees hs, h.d.sees hs⟩
theorem MaMem.keeps {F : Nat → Prop} {W W' : World} {B : Nat} {v : Value} {first : Int} {p : ByteArray} {fold : Bool} (h : MaMem W B v first p fold) (hk : Keeps F W W') (hF : ∀ b, B ≤ b → b < B + 4 → ¬ F b) : MaMem W' B v first p fold :=
  ⟨h.l.keeps hk (hF _ (by omega) (by omega)), h.f.keeps hk (hF _ (by omega) (by omega)), h.p.keeps hk (hF _ (by omega) (by omega)), h.d.keeps hk (hF _ (by omega) (by omega))⟩
/-- What the iterator reads. -/
structure MaM (F : Nat → Prop) (B : Nat) (v : Value) (ls : List Ln) (first : Int) (p : ByteArray) (fold : Bool) (W : World) : Prop where
  m : MaMem W B v first p fold
  r : lnEl.Rd F W v ls
  s : Std W
theorem MaM.sees {F : Nat → Prop} {B : Nat} {v : Value} {ls : List Ln} {first : Int} {p : ByteArray} {fold : Bool} {W W' : World} (h : MaM F B v ls first p fold W) (hs : Sees W W') : MaM F B v ls first p fold W' := ⟨h.m.sees hs, h.r.sees hs, h.s.sees hs⟩

/-- What is left to come, from a row on. -/
def restM (ls : List Ln) (first : Int) (p : List UInt8) (fold : Bool) (k : Nat) : List Mt := (segs (first + k) [] (ls.drop k)).flatMap (matchS p fold)
theorem restM_all (ls : List Ln) (first : Int) (p : List UInt8) (fold : Bool) : restM ls first p fold ls.length = [] := by
  unfold restM
  rw [List.drop_length]
  rfl
/-- The text of the logical line of a row. -/
def segAt (ls : List Ln) (first : Int) (k r : Nat) : List Bp := gath (first + k) ((ls.drop k).take r)
theorem restM_step {ls : List Ln} {first : Int} {p : List UInt8} {fold : Bool} {k : Nat} (hk : k < ls.length) : restM ls first p fold k = matchS p fold (segAt ls first k (runL (ls.drop k))) ++ restM ls first p fold (k + runL (ls.drop k)) := by
  unfold restM segAt
  rw [segs_run (first + k) [] (ls.drop k) (by intro e; have := congrArg List.length e; rw [List.length_drop, List.length_nil] at this; omega), List.flatMap_cons, List.nil_append, List.drop_drop]
  congr 3
  push_cast
  omega
theorem segAt_len {ls : List Ln} (hc : ∀ x ∈ ls, x.cells.length ≤ 1000) (hn : ls.length ≤ 1000) (first : Int) (k r : Nat) : (segAt ls first k r).length ≤ 16000000 := by
  have h := gathP_len (n := first + k) (m := 1000) (i := ((ls.drop k).take r).length) (ls := (ls.drop k).take r) (fun x hx => hc x (List.mem_of_mem_drop (List.mem_of_mem_take hx)))
  rw [gathP_all, List.length_take, List.length_drop] at h
  have : min r (ls.length - k) * (1000 * 16) ≤ 1000 * (1000 * 16) := Nat.mul_le_mul_right _ (by omega)
  unfold segAt
  omega
theorem low_low (fold : Bool) (s : List Bp) : (if fold then (s.map Bp.b).map (low true) else s.map Bp.b) = lowB fold s := by
  cases fold
  · exact (lowB_false s).symm
  · rw [if_pos rfl, List.map_map]
    rfl
end Go.Proofs.YtooiiefipdjbjaaDoor

namespace Go.Proofs.YtooiiefipdjbjaaDoor
set_option linter.unusedVariables false
set_option linter.unusedSimpArgs false
open Go.RowKit Go.Shelf

end Go.Proofs.YtooiiefipdjbjaaDoor

namespace Go.Proofs.YtooiiefipdjbjaaDoor
set_option linter.unusedVariables false
set_option linter.unusedSimpArgs false
open Go.RowKit Go.Shelf
attribute [local go_sem] Oper.semAt_some

/-- A pattern as it is looked for. -/
def lowP (fold : Bool) (p : ByteArray) : ByteArray := ⟨(p.data.toList.map (low fold)).toArray⟩
theorem lowP_list (fold : Bool) (p : ByteArray) : (lowP fold p).data.toList = p.data.toList.map (low fold) := rfl
theorem lowP_size (fold : Bool) (p : ByteArray) : (lowP fold p).size = p.size := by
  show (List.toArray _).size = _
  rw [List.size_toArray, List.length_map, ← Lib.size_eq]
theorem lowP_false (p : ByteArray) : lowP false p = p := bytes_ext (by rw [lowP_list, map_low_false])
theorem lnOk_len {cs : List Cell} (h : lnOk cs = true) : cs.length ≤ 1000 := by
  unfold lnOk at h
  rw [Bool.and_eq_true, decide_eq_true_eq] at h
  exact h.1
/-- What is known where check has answered that all is well. -/
theorem ck_facts {ls : List Ln} {first : Int} {p : ByteArray} (h : ckR ls first p = 0) : ls.length ≤ 1000 ∧ (∀ x ∈ ls, x.cells.length ≤ 1000) ∧ (0 ≤ first ∧ first ≤ 1099511627776) ∧ (1 ≤ p.size ∧ p.size ≤ 200) ∧ ∀ x ∈ ls, x.cells.length = cols ls := by
  obtain ⟨h1, h2, h3⟩ := ckR_zero (by rw [h]; rfl)
  obtain ⟨k1, k2⟩ := rowsOk_ok h1
  exact ⟨h2, fun x hx => lnOk_len (k1 x hx).2.1, k2, patOk_ok h3, fun x hx => (k1 x hx).1⟩
/-- What stands between two matches: the closure's boxes, and nothing old has turned. -/
structure MaI (w : World) (B : Nat) (v : Value) (first : Int) (p : ByteArray) (fold : Bool) (W : World) : Prop where
  m : MaMem W B v first p fold
  s : Sees w W
theorem MaI.sees {w W W' : World} {B : Nat} {v : Value} {first : Int} {p : ByteArray} {fold : Bool} (h : MaI w B v first p fold W) (hs : Sees W W') : MaI w B v first p fold W' := ⟨h.m.sees hs, h.s.trans hs⟩
theorem MaI.keeps {w W W' : World} {B : Nat} {v : Value} {first : Int} {p : ByteArray} {fold : Bool} {X : Nat → Prop} (h : MaI w B v first p fold W) (hk : Keeps X W W') (hX : ∀ b, X b → w.heap.size ≤ b ∧ (b < B ∨ B + 4 ≤ b)) : MaI w B v first p fold W' :=
  ⟨h.m.keeps hk (fun b h1 h2 hb => by have := (hX b hb).2; omega), ((Keeps.of_sees (F := fun _ => False) h.s).trans' hk (fun b hb e => by have := (hX b e).1; omega)).sees_end (fun _ _ h => h)⟩
theorem MaI.mem {w W : World} {B : Nat} {v : Value} {first : Int} {p : ByteArray} {fold : Bool} {ls : List Ln} (h : MaI w B v first p fold W) (hr : lnEl.Rd (fun b => b < w.heap.size) w v ls) (hs : Std w) : MaM (fun b => b < w.heap.size) B v ls first p fold W := ⟨h.m, hr.sees h.s, hs.sees h.s⟩

theorem sees_put {w W : World} {D : Nat} {o : Obj} (h : Sees w W) (hD : w.heap.size ≤ D) : Sees w (W.putObj D o) :=
  ((Keeps.of_sees (F := fun _ => False) h).trans' (⟨rfl, rfl, rfl, by rw [World.putObj_size]; exact Nat.le_refl _, fun b _ hb => World.putObj_heap_other hb⟩ : Keeps (fun b => b = D) W (W.putObj D o)) (fun b hb e => by omega)).sees_end (fun _ _ h => h)
section
variable {w : World} {a : Option Addr} {n cp : Nat} {ls : List Ln} {first : Int} {p : ByteArray}
end
end Go.Proofs.YtooiiefipdjbjaaDoor
