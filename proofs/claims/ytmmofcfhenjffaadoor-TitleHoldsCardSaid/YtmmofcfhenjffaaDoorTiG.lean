/- Which bytes may stand in a link (26): the package's and the reference's function. No condition. -/
import Derived.Test.YtmmofcfhenjffaaDoorTiS
import Derived.Test.YtmmofcfhenjffaaDoorTiQ
import Derived.BigCall
import Derived.IntWalk
namespace Go.Proofs.YtmmofcfhenjffaaDoor
set_option linter.unusedVariables false
set_option linter.unusedSimpArgs false
open Go.RowKit

def grB (ex : List UInt8) (b : UInt8) : Bool := decide (33 ≤ b.toNat) && decide (b.toNat ≤ 126) && !(ex.contains b)
/-- May all bytes stand in a link, and are they none of some others? -/
def gr (ex l : List UInt8) : Bool := l.all (grB ex)
/-- A byte of a string. -/
def bAt (s : ByteArray) (k : Nat) : Int := ((s.data.toList.getD k 0).toNat : Int)
theorem bAt_at (s : ByteArray) (k : Nat) (h : k < s.size) (W : World) : (Instr.index 9 (.string s) (.int .i64 (k : Int))).run Tryd.prog W = .ok (.int .u8 (bAt s k)) W := by
  rw [run_index_string (h := Tryd.underlying9), dif_pos ⟨by omega, by omega⟩]
  unfold bAt
  simp only [Int.toNat_natCast]
  rw [List.getD_eq_getElem?_getD, List.getElem?_eq_getElem (by rw [← Lib.size_eq]; exact h)]
  rfl
theorem all_take (p : UInt8 → Bool) (l : List UInt8) (k : Nat) (h : k < l.length) (ht : (l.take k).all p = true) : (l.take (k + 1)).all p = p (l.getD k 0) := by
  rw [List.take_add_one, List.all_append, ht, List.getD_eq_getElem?_getD, List.getElem?_eq_getElem h]
  simp
theorem all_take_false (p : UInt8 → Bool) (l : List UInt8) (k : Nat) (h : k < l.length) (ht : p (l.getD k 0) = false) : l.all p = false := by
  rw [List.all_eq_false]
  refine ⟨l[k], List.getElem_mem h, ?_⟩
  rw [List.getD_eq_getElem?_getD, List.getElem?_eq_getElem h] at ht
  simpa using ht
theorem grB_of (b : UInt8) (x : Int) (hx : x = (b.toNat : Int)) : grB [] b = (!decide (x < 33) && !decide (x > 126)) ∧ grB [58, 59] b = (!decide (x < 33) && !decide (x > 126) && !((x == 58) || (x == 59))) := by
  subst hx
  have e : ∀ c : UInt8, ((b.toNat : Int) == (c.toNat : Int)) = (b == c) := fun c => by
    rw [Bool.eq_iff_iff, beq_iff_eq, beq_iff_eq, ← UInt8.toNat_inj]
    omega
  have e58 := e 58
  have e59 := e 59
  rw [show ((58 : UInt8).toNat : Int) = 58 from rfl] at e58
  rw [show ((59 : UInt8).toNat : Int) = 59 from rfl] at e59
  have h1 : decide (33 ≤ b.toNat) = !decide ((b.toNat : Int) < 33) := by rw [← decide_not]; exact decide_eq_decide.2 (by omega)
  have h2 : decide (b.toNat ≤ 126) = !decide ((b.toNat : Int) > 126) := by rw [← decide_not]; exact decide_eq_decide.2 (by omega)
  unfold grB
  rw [e58, e59, h1, h2]
  constructor
  · simp
  · congr 1
    simp only [List.contains_cons, List.contains_nil, Bool.or_false]
theorem bAt_range (s : ByteArray) (k : Nat) : 0 ≤ bAt s k ∧ bAt s k ≤ 255 := by
  have := (s.data.toList.getD k 0).toNat_lt
  unfold bAt
  omega
theorem brow_at {cap : Nat} {T : TypeId} {fr : Nat × Nat} {b : Nat} (w1 : World) (s : ByteArray) (k : Nat) (h : k < s.size) (hr : w1.heap[b]? = some (.cells (bytesRow s cap) T fr)) : w1.cell? ⟨b, k, none⟩ = some (.int .u8 (bAt s k)) := by
  rw [cell_of_row _ _ _ _ _ _ hr, bytesRow_at s cap k h]
  unfold bAt
  rw [List.getD_eq_getElem?_getD, List.getElem?_eq_getElem (by rw [← Lib.size_eq]; exact h)]
  rfl
theorem ixb_at (ex : List UInt8) (b : UInt8) (x : Int) (hx : x = (b.toNat : Int)) (w : World) :
    Calls Tryd.prog 50 #[.string ⟨ex.toArray⟩, .int .u8 x] w fun e w' => e = .returned (.int .i64 (Lib.indexByte ex b)) ∧ w' = w := by
  have q := ixb_any ⟨ex.toArray⟩ x w
  have e : x.toNat.toUInt8 = b := by subst hx; simp
  rw [e] at q
  exact q
theorem ixb_id (b : UInt8) (x : Int) (hx : x = (b.toNat : Int)) (w : World) :
    Calls Tryd.prog 50 #[.string ⟨#[58, 59]⟩, .int .u8 x] w fun e w' => e = .returned (.int .i64 (bif x == 58 then 0 else bif x == 59 then 1 else -1)) ∧ w' = w := by
  have q := ixb_at [58, 59] b x hx w
  have e : Lib.indexByte [58, 59] b = (bif x == 58 then 0 else bif x == 59 then 1 else -1) := by
    subst hx
    have e : ∀ c : UInt8, ((b.toNat : Int) == (c.toNat : Int)) = (c == b) := fun c => by
      rw [Bool.eq_iff_iff, beq_iff_eq, beq_iff_eq, ← UInt8.toNat_inj]
      omega
    have e58 := e 58
    have e59 := e 59
    rw [show ((58 : UInt8).toNat : Int) = 58 from rfl] at e58
    rw [show ((59 : UInt8).toNat : Int) = 59 from rfl] at e59
    rw [e58, e59]
    rcases Bool.eq_false_or_eq_true ((58 : UInt8) == b) with h | h <;> rcases Bool.eq_false_or_eq_true ((59 : UInt8) == b) with h' | h' <;> simp only [Lib.indexByte, h, h'] <;> rfl
  rw [e] at q
  exact q
set_option maxHeartbeats 4000000 in
set_option maxRecDepth 100000 in
theorem rgraphic_text (s : ByteArray) (hs : s.size ≤ 281474976710656) (w : World) :
    Calls Tryd.prog 30 #[.string s, .bool false] w fun e w' => e = .returned (.bool (gr [] s.data.toList)) ∧ w' = w := by
  go_enter Tryd.func30, Tryd.ntmps30
  go_wp2
  go_loop [5] (fun i => ∃ k : Nat, k ≤ s.size ∧ i = .int .i64 k ∧ RowKit.Hid ((s.data.toList.take k).all (grB []) = true)) (fun i => s.size - (intOf i).toNat)
  case atStart => exact ⟨0, by omega, rfl, Lib.hid rfl⟩
  case round =>
    obtain ⟨k, hk, rfl, hm⟩ := hrel
    by_cases hlt : k < s.size
    · have hb := bAt_at s k hlt
      obtain ⟨p1, p2⟩ := grB_of (s.data.toList.getD k 0) (bAt s k) rfl
      obtain ⟨r1, r2⟩ := bAt_range s k
      have ha := Lib.hid (all_take (grB []) s.data.toList k (by rw [← Lib.size_eq]; exact hlt) hm.out)
      have hf := Lib.hid (all_take_false (grB []) s.data.toList k (by rw [← Lib.size_eq]; exact hlt))
      generalize bAt s k = x at hb p1 p2 r1 r2
      replace p1 := Lib.hid p1
      clear p2
      rcases Bool.eq_false_or_eq_true (decide (x < 33)) with c0 | c0 <;> rcases Bool.eq_false_or_eq_true (decide (x > 126)) with c1 | c1
      all_goals go_wp2
      all_goals first
        | (go_ret
           refine ⟨?_, rfl⟩
           have q := p1.out
           rw [c0, c1] at q
           rw [show gr [] s.data.toList = false from hf.out q]
           rfl)
        | (go_round
           case rel => exact ⟨k + 1, by omega, by go_num, Lib.hid (by rw [ha.out, p1.out, c0, c1]; rfl)⟩
           case measure => simp [intOf]; omega)
    · obtain rfl : k = s.size := by omega
      go_wp2
      go_ret
      refine ⟨?_, rfl⟩
      have q := hm.out
      rw [List.take_of_length_le (Nat.le_of_eq (Lib.size_eq s).symm)] at q
      rw [show gr [] s.data.toList = true from q]
      rfl
set_option maxHeartbeats 4000000 in
set_option maxRecDepth 100000 in
theorem rgraphic_id (s : ByteArray) (hs : s.size ≤ 281474976710656) (w : World) :
    Calls Tryd.prog 30 #[.string s, .bool true] w fun e w' => e = .returned (.bool (gr [58, 59] s.data.toList)) ∧ w' = w := by
  go_enter Tryd.func30, Tryd.ntmps30
  go_wp2
  go_loop [5] (fun i => ∃ k : Nat, k ≤ s.size ∧ i = .int .i64 k ∧ RowKit.Hid ((s.data.toList.take k).all (grB [58, 59]) = true)) (fun i => s.size - (intOf i).toNat)
  case atStart => exact ⟨0, by omega, rfl, Lib.hid rfl⟩
  case round =>
    obtain ⟨k, hk, rfl, hm⟩ := hrel
    by_cases hlt : k < s.size
    · have hb := bAt_at s k hlt
      obtain ⟨p1, p2⟩ := grB_of (s.data.toList.getD k 0) (bAt s k) rfl
      obtain ⟨r1, r2⟩ := bAt_range s k
      have ha := Lib.hid (all_take (grB [58, 59]) s.data.toList k (by rw [← Lib.size_eq]; exact hlt) hm.out)
      have hf := Lib.hid (all_take_false (grB [58, 59]) s.data.toList k (by rw [← Lib.size_eq]; exact hlt))
      generalize bAt s k = x at hb p1 p2 r1 r2
      replace p1 := Lib.hid p2
      clear p2
      rcases Bool.eq_false_or_eq_true (decide (x < 33)) with c0 | c0 <;> rcases Bool.eq_false_or_eq_true (decide (x > 126)) with c1 | c1 <;> rcases Bool.eq_false_or_eq_true (x == 58) with c2 | c2 <;> rcases Bool.eq_false_or_eq_true (x == 59) with c3 | c3
      all_goals go_wp2
      all_goals first
        | (go_ret
           refine ⟨?_, rfl⟩
           have q := p1.out
           rw [c0, c1, c2, c3] at q
           rw [show gr [58, 59] s.data.toList = false from hf.out q]
           rfl)
        | (go_round
           case rel => exact ⟨k + 1, by omega, by go_num, Lib.hid (by rw [ha.out, p1.out, c0, c1, c2, c3]; rfl)⟩
           case measure => simp [intOf]; omega)
    · obtain rfl : k = s.size := by omega
      go_wp2
      go_ret
      refine ⟨?_, rfl⟩
      have q := hm.out
      rw [List.take_of_length_le (Nat.le_of_eq (Lib.size_eq s).symm)] at q
      rw [show gr [58, 59] s.data.toList = true from q]
      rfl
set_option maxHeartbeats 4000000 in
set_option maxRecDepth 100000 in
theorem graphic_text (s : ByteArray) (hs : s.size ≤ 281474976710656) (w : World) :
    Calls Tryd.prog 41 #[.string s, .string ⟨#[]⟩] w fun e w' => e = .returned (.bool (gr [] s.data.toList)) ∧ Sees w w' := by
  go_enter Tryd.func41, Tryd.ntmps41
  go_wp2
  rw [run_bytes_of_string w 9 41 5 s Tryd.underlying9 Tryd.underlying41 Tryd.underlying5]
  simp only [Result.andThen]
  rw [Oper.upon_value]
  generalize grownCap w s.size 0 5 = cap
  have hs1 : Sees w (w.drew.alloc (.cells (bytesRow s cap) 5 ((bytesRow s cap).size, (bytesRow s cap).size + 1))) := (Sees.refl w).drew.alloc _
  have hrow : (w.drew.alloc (.cells (bytesRow s cap) 5 ((bytesRow s cap).size, (bytesRow s cap).size + 1))).heap[w.heap.size]? = some (.cells (bytesRow s cap) 5 ((bytesRow s cap).size, (bytesRow s cap).size + 1)) := heap_alloc_new w.drew _
  generalize (w.drew.alloc (.cells (bytesRow s cap) 5 ((bytesRow s cap).size, (bytesRow s cap).size + 1))) = w1 at hs1 hrow ⊢
  go_wp2
  go_loop [10] (fun i => ∃ k : Nat, k ≤ s.size ∧ i = .int .i64 k ∧ RowKit.Hid ((s.data.toList.take k).all (grB []) = true)) (fun i => s.size - (intOf i).toNat)
  case atStart => exact ⟨0, by omega, rfl, Lib.hid rfl⟩
  case round =>
    obtain ⟨k, hk, rfl, hm⟩ := hrel
    by_cases hlt : k < s.size
    · have hb := bAt_at s k hlt
      have hbc := brow_at w1 s k hlt hrow
      obtain ⟨p1, p2⟩ := grB_of (s.data.toList.getD k 0) (bAt s k) rfl
      obtain ⟨r1, r2⟩ := bAt_range s k
      have ha := Lib.hid (all_take (grB []) s.data.toList k (by rw [← Lib.size_eq]; exact hlt) hm.out)
      have hf := Lib.hid (all_take_false (grB []) s.data.toList k (by rw [← Lib.size_eq]; exact hlt))
      have hix := ixb_at [] (s.data.toList.getD k 0) (bAt s k) rfl
      generalize bAt s k = x at hbc hix p1 p2 r1 r2
      replace p1 := Lib.hid p1
      clear p2
      rcases Bool.eq_false_or_eq_true (decide (x < 33)) with c0 | c0 <;> rcases Bool.eq_false_or_eq_true (decide (x > 126)) with c1 | c1
      all_goals go_wp2_with (go_at_call 50; refine (hix _).mono ?_)
      all_goals try (rintro e W0 ⟨rfl, rfl⟩; go_wp2)
      all_goals first
        | (go_ret
           refine ⟨?_, hs1⟩
           have q := p1.out
           rw [c0, c1] at q
           rw [show gr [] s.data.toList = false from hf.out q]
           rfl)
        | (go_round
           case rel => exact ⟨k + 1, by omega, by go_num, Lib.hid (by rw [ha.out, p1.out, c0, c1]; rfl)⟩
           case measure => simp [intOf]; omega)
    · obtain rfl : k = s.size := by omega
      go_wp2
      go_ret
      refine ⟨?_, hs1⟩
      have q := hm.out
      rw [List.take_of_length_le (Nat.le_of_eq (Lib.size_eq s).symm)] at q
      rw [show gr [] s.data.toList = true from q]
      rfl
set_option maxHeartbeats 4000000 in
set_option maxRecDepth 100000 in
theorem graphic_id (s : ByteArray) (hs : s.size ≤ 281474976710656) (w : World) :
    Calls Tryd.prog 41 #[.string s, .string ⟨#[58, 59]⟩] w fun e w' => e = .returned (.bool (gr [58, 59] s.data.toList)) ∧ Sees w w' := by
  go_enter Tryd.func41, Tryd.ntmps41
  go_wp2
  rw [run_bytes_of_string w 9 41 5 s Tryd.underlying9 Tryd.underlying41 Tryd.underlying5]
  simp only [Result.andThen]
  rw [Oper.upon_value]
  generalize grownCap w s.size 0 5 = cap
  have hs1 : Sees w (w.drew.alloc (.cells (bytesRow s cap) 5 ((bytesRow s cap).size, (bytesRow s cap).size + 1))) := (Sees.refl w).drew.alloc _
  have hrow : (w.drew.alloc (.cells (bytesRow s cap) 5 ((bytesRow s cap).size, (bytesRow s cap).size + 1))).heap[w.heap.size]? = some (.cells (bytesRow s cap) 5 ((bytesRow s cap).size, (bytesRow s cap).size + 1)) := heap_alloc_new w.drew _
  generalize (w.drew.alloc (.cells (bytesRow s cap) 5 ((bytesRow s cap).size, (bytesRow s cap).size + 1))) = w1 at hs1 hrow ⊢
  go_wp2
  go_loop [10] (fun i => ∃ k : Nat, k ≤ s.size ∧ i = .int .i64 k ∧ RowKit.Hid ((s.data.toList.take k).all (grB [58, 59]) = true)) (fun i => s.size - (intOf i).toNat)
  case atStart => exact ⟨0, by omega, rfl, Lib.hid rfl⟩
  case round =>
    obtain ⟨k, hk, rfl, hm⟩ := hrel
    by_cases hlt : k < s.size
    · have hb := bAt_at s k hlt
      have hbc := brow_at w1 s k hlt hrow
      obtain ⟨p1, p2⟩ := grB_of (s.data.toList.getD k 0) (bAt s k) rfl
      obtain ⟨r1, r2⟩ := bAt_range s k
      have ha := Lib.hid (all_take (grB [58, 59]) s.data.toList k (by rw [← Lib.size_eq]; exact hlt) hm.out)
      have hf := Lib.hid (all_take_false (grB [58, 59]) s.data.toList k (by rw [← Lib.size_eq]; exact hlt))
      have hix := ixb_id (s.data.toList.getD k 0) (bAt s k) rfl
      generalize bAt s k = x at hbc hix p1 p2 r1 r2
      replace p1 := Lib.hid p2
      clear p2
      rcases Bool.eq_false_or_eq_true (decide (x < 33)) with c0 | c0 <;> rcases Bool.eq_false_or_eq_true (decide (x > 126)) with c1 | c1 <;> rcases Bool.eq_false_or_eq_true (x == 58) with c2 | c2 <;> rcases Bool.eq_false_or_eq_true (x == 59) with c3 | c3
      all_goals
        rw [c2, c3] at hix
        simp only [cond_true, cond_false] at hix
      all_goals go_wp2_with (go_at_call 50; refine (hix _).mono ?_)
      all_goals try (rintro e W0 ⟨rfl, rfl⟩; go_wp2)
      all_goals first
        | (go_ret
           refine ⟨?_, hs1⟩
           have q := p1.out
           rw [c0, c1, c2, c3] at q
           rw [show gr [58, 59] s.data.toList = false from hf.out q]
           rfl)
        | (go_round
           case rel => exact ⟨k + 1, by omega, by go_num, Lib.hid (by rw [ha.out, p1.out, c0, c1, c2, c3]; rfl)⟩
           case measure => simp [intOf]; omega)
    · obtain rfl : k = s.size := by omega
      go_wp2
      go_ret
      refine ⟨?_, hs1⟩
      have q := hm.out
      rw [List.take_of_length_le (Nat.le_of_eq (Lib.size_eq s).symm)] at q
      rw [show gr [58, 59] s.data.toList = true from q]
      rfl
end Go.Proofs.YtmmofcfhenjffaaDoor
