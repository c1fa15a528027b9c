/- search.matches: the iterator goes over all matches (42). No condition. -/
import Derived.Test.YtohiigmlkhpneaaDoorSrC
import Derived.Test.YtohiigmlkhpneaaDoorItS
import Derived.Test.YtohiigmlkhpneaaDoorSrQ
import Derived.Deep.CutBlock
namespace Go.Proofs.YtohiigmlkhpneaaDoor
set_option linter.unusedVariables false
set_option linter.unusedSimpArgs false
open Go.RowKit Go.Shelf

def Mt.val (m : Mt) : Value := .agg #[.int .i64 m.l0, .int .i64 m.c0, .int .i64 m.l1, .int .i64 m.c1]
/-- What the library's variable holds. -/
def Std (W : World) : Prop := ∃ m, W.cell? ⟨0, 0, none⟩ = some (.int .i64 m)
theorem Std.sees {w W : World} (h : Std w) (hs : Sees w W) : Std W := by obtain ⟨m, h⟩ := h; exact ⟨m, hs.cell h⟩
theorem sindex_any (s p : ByteArray) (hs : s.size < 4294967281) (w : World) (hw : Std w) :
    Calls Tryd.prog 40 #[.string s, .string p] w fun e w' => e = .returned (.int .i64 (Lib.index s.data.toList p.data.toList)) ∧ Sees w w' := by
  obtain ⟨m, hm⟩ := hw
  exact (Any.strings_Index { Tryd.lays143 with } s p m w hs hm).mono fun e w' ⟨h1, h2⟩ => ⟨h1, h2 ▸ Sees.refl _⟩
/-- A string's end, cut off at a place. -/
theorem cut_end (s : ByteArray) (k : IntKind) (pos : Nat) (h : pos ≤ s.size) (W : World) : (Instr.sliceAt 9 (.string s) (some (.int k (pos : Int))) none none).run Tryd.prog W = .ok (.string (s.extract pos s.size)) W := by
  go_simp
/-- What the closure holds. -/
structure MaMem (W : World) (B : Nat) (v : Value) (first : Int) (p : ByteArray) (fold : Bool) : Prop where
  l : Bx W B 22 v
  f : Bx W (B + 1) 3 (.int .i64 first)
  p : Bx W (B + 2) 9 (.string p)
  d : Bx W (B + 3) 4 (.bool fold)
theorem MaMem.sees {W W' : World} {B : Nat} {v : Value} {first : Int} {p : ByteArray} {fold : Bool} (h : MaMem W B v first p fold) (hs : Sees W W') : MaMem W' B v first p fold := ⟨h.l.sees hs, h.f.sees hs, h.p.sees hs, h.d.sees hs⟩
theorem MaMem.keeps {F : Nat → Prop} {W W' : World} {B : Nat} {v : Value} {first : Int} {p : ByteArray} {fold : Bool} (h : MaMem W B v first p fold) (hk : Keeps F W W') (hF : ∀ b, B ≤ b → b < B + 4 → ¬ F b) : MaMem W' B v first p fold :=
  ⟨h.l.keeps hk (hF _ (by omega) (by omega)), h.f.keeps hk (hF _ (by omega) (by omega)), h.p.keeps hk (hF _ (by omega) (by omega)), h.d.keeps hk (hF _ (by omega) (by omega))⟩
/-- What the iterator reads. -/
structure MaM (F : Nat → Prop) (B : Nat) (v : Value) (ls : List Ln) (first : Int) (p : ByteArray) (fold : Bool) (W : World) : Prop where
  m : MaMem W B v first p fold
  r : lnEl.Rd F W v ls
  s : Std W
theorem MaM.sees {F : Nat → Prop} {B : Nat} {v : Value} {ls : List Ln} {first : Int} {p : ByteArray} {fold : Bool} {W W' : World} (h : MaM F B v ls first p fold W) (hs : Sees W W') : MaM F B v ls first p fold W' := ⟨h.m.sees hs, h.r.sees hs, h.s.sees hs⟩

/-- What is left to come, from a row on. -/
def restM (ls : List Ln) (first : Int) (p : List UInt8) (fold : Bool) (k : Nat) : List Mt := (segs (first + k) [] (ls.drop k)).flatMap (matchS p fold)
theorem restM_all (ls : List Ln) (first : Int) (p : List UInt8) (fold : Bool) : restM ls first p fold ls.length = [] := by
  unfold restM
  rw [List.drop_length]
  rfl
/-- The text of the logical line of a row. -/
def segAt (ls : List Ln) (first : Int) (k r : Nat) : List Bp := gath (first + k) ((ls.drop k).take r)
theorem restM_step {ls : List Ln} {first : Int} {p : List UInt8} {fold : Bool} {k : Nat} (hk : k < ls.length) : restM ls first p fold k = matchS p fold (segAt ls first k (runL (ls.drop k))) ++ restM ls first p fold (k + runL (ls.drop k)) := by
  unfold restM segAt
  rw [segs_run (first + k) [] (ls.drop k) (by intro e; have := congrArg List.length e; rw [List.length_drop, List.length_nil] at this; omega), List.flatMap_cons, List.nil_append, List.drop_drop]
  congr 3
  push_cast
  omega
theorem segAt_len {ls : List Ln} (hc : ∀ x ∈ ls, x.cells.length ≤ 1000) (hn : ls.length ≤ 1000) (first : Int) (k r : Nat) : (segAt ls first k r).length ≤ 16000000 := by
  have h := gathP_len (n := first + k) (m := 1000) (i := ((ls.drop k).take r).length) (ls := (ls.drop k).take r) (fun x hx => hc x (List.mem_of_mem_drop (List.mem_of_mem_take hx)))
  rw [gathP_all, List.length_take, List.length_drop] at h
  have : min r (ls.length - k) * (1000 * 16) ≤ 1000 * (1000 * 16) := Nat.mul_le_mul_right _ (by omega)
  unfold segAt
  omega
theorem low_low (fold : Bool) (s : List Bp) : (if fold then (s.map Bp.b).map (low true) else s.map Bp.b) = lowB fold s := by
  cases fold
  · exact (lowB_false s).symm
  · rw [if_pos rfl, List.map_map]
    rfl
end Go.Proofs.YtohiigmlkhpneaaDoor
