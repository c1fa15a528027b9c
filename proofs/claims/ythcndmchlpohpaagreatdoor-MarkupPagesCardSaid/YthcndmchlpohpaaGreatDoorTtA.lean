/- The text of cells (40). No condition. -/
import Derived.Test.YthcndmchlpohpaaGreatDoorTxA
import Derived.Test.YthcndmchlpohpaaGreatDoorElO
import Derived.BigQuiet
import Derived.Lib.QuietBelow
import Derived.Deep.CutRange
namespace Go.Proofs.YthcndmchlpohpaaGreatDoor
set_option linter.unusedVariables false
set_option linter.unusedSimpArgs false
open Go.RowKit

def strL (l : List UInt8) : ByteArray := ⟨l.toArray⟩
theorem strL_size (l : List UInt8) : (strL l).size = l.length := by show l.toArray.size = _; simp
theorem strL_list (l : List UInt8) : (strL l).data.toList = l := rfl
theorem strL_app (a b : List UInt8) : strL a ++ strL b = strL (a ++ b) := bytes_ext (by rw [bytes_app, strL_list, strL_list, strL_list])
theorem strL_self (s : ByteArray) : strL s.data.toList = s := bytes_ext (strL_list _)
theorem txts_step {cs : List Cell} {k : Nat} {c : Cell} (h : cs[k]? = some c) : txts (cs.take (k + 1)) = txts (cs.take k) ++ c.txt := by
  rw [List.take_add_one, h, txts_append]
  simp [txts]
theorem txts_len : ∀ cs : List Cell, (txts cs).length ≤ cs.length * 16
  | [] => by simp [txts]
  | c :: cs => by
    have h1 := txts_len cs
    have h2 := c.txt_len
    rw [show txts (c :: cs) = c.txt ++ txts cs by simp [txts], List.length_append, List.length_cons]
    omega
set_option maxHeartbeats 4000000 in
set_option maxRecDepth 100000 in
theorem texts_any (v : Value) (cs : List Cell) (F : Nat → Prop) (w : World) (h : cellEl.Rd F w v cs) (hn : cs.length ≤ 1000000) :
    Calls Tryz.prog 55 #[v] w fun e w' => e = .returned (.string (strL (txts cs))) ∧ Sees w w' := by
  obtain ⟨a, cp, rfl, _⟩ := h.slice'
  obtain ⟨n, hnn⟩ : ∃ n, n = cs.length := ⟨_, rfl⟩
  rw [← hnn] at h hn ⊢
  have H := Lib.hid h
  have HN := Lib.hid hnn
  clear h hnn
  go_enter Tryz.func55, Tryz.ntmps55
  go_wp2
  go_loopw [3, 8] (fun s i W => ∃ k : Nat, k ≤ n ∧ i = .int .i64 k ∧ s = .string (strL (txts (cs.take k))) ∧ Sees w W) (fun _ i _ => n - (intOf i).toNat)
  case atStart => exact ⟨0, Nat.zero_le _, rfl, rfl, Sees.refl _⟩
  case round =>
    obtain ⟨k, hk, rfl, rfl, hS⟩ := hrel
    have HS := Lib.hid hS
    clear hS
    by_cases hlt : k < n
    · obtain ⟨b, o, c, rfl, _, hc, hat0⟩ := H.out.cell hlt
      have hat := hat0.sees HS.out
      have HST := Lib.hid (txts_step hc)
      have hl1 := txts_len (cs.take k)
      rw [List.length_take] at hl1
      obtain ⟨X, hX⟩ : ∃ X, X = strL (txts (cs.take k)) := ⟨_, rfl⟩
      obtain ⟨Y, hY⟩ : ∃ Y, Y = strL c.txt := ⟨_, rfl⟩
      have hxs : X.size ≤ 16000000 := by rw [hX, strL_size]; omega
      have hys : Y.size ≤ 16 := by rw [hY, strL_size]; exact c.txt_len
      have HXY : Hid (X ++ Y = strL (txts (cs.take (k + 1)))) := by unfold RowKit.Hid; rw [hX, hY, strL_app, HST.out]
      have KT : Hid (∀ W, Calls Tryz.prog 23 #[c.val] W fun e w' => e = .returned (.string Y) ∧ Sees W w') := fun W => by rw [hY]; exact ctext_any c W
      rw [← hX]
      clear hc hat0 hX hY hl1
      go_upto_region 5 with (first
        | (guard_target = wpList _ _ _ ({ dst := _, op := Op.load 42 _, type := _, pos := _, after := _, guard := _ } :: _) _ _; refine wpList_val rfl (exec_load (v := c.val) rfl rfl (run_loadCell hat)) (fun K hK => ?_); go_simp; refine hK _ _ ?_; clear hK K)
        | (guard_target = wpList _ _ _ ({ dst := _, op := Op.store 42 _ _, type := _, pos := _, after := _, guard := _ } :: _) _ _; refine wpList_skip rfl (exec_store (v := c.val) rfl rfl rfl (run_storeNew c _ rfl _ rfl)) (fun K hK => ?_); go_simp; refine hK _ _ ?_; clear hK K))
      refine wp_world fun W2 hW2 => ?_
      have C2 : CellAt W2 wr.heap.size 0 c := by subst hW2; exact cellAt_new _ c _
      have HS2 : Hid (Sees w W2) := by subst hW2; exact HS.out.alloc _
      clear hW2 hat HS
      go_wp2_with (guard_target = wpList _ _ _ ({ dst := _, op := Op.load 42 _, type := _, pos := _, after := _, guard := _ } :: _) _ _; refine wpList_val rfl (exec_load (v := c.val) rfl rfl (run_loadCell C2)) (fun K hK => ?_); go_simp; refine hK _ _ ?_; clear hK K)
      refine (KT.out _).mono ?_
      rintro e W3 ⟨rfl, s⟩
      have HS3 := Lib.hid (HS2.out.trans s)
      clear s C2 HS2
      go_wp2
      exact ⟨⟨k + 1, by omega, by go_num, by rw [← HXY.out], HS3.out⟩, by simp [intOf]; omega⟩
    · obtain rfl : n = k := by omega
      go_wp2
      go_ret
      refine ⟨?_, HS.out⟩
      rw [HN.out, List.take_length]
      rfl
end Go.Proofs.YthcndmchlpohpaaGreatDoor
