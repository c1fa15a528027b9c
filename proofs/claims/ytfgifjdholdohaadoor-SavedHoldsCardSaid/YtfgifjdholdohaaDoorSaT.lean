/- bit, the word of a pen, saved.Text (23). No condition. -/
import Derived.Test.YtfgifjdholdohaaDoorSaO
import Derived.Test.YtfgifjdholdohaaDoorSaL
import Derived.Laws.OwnMore
import Derived.Maps.AppendAt
namespace Go.Proofs.YtfgifjdholdohaaDoor
set_option linter.unusedVariables false
set_option linter.unusedSimpArgs false
open Go.RowKit Go.Maps

def bitN (b : Bool) : Nat := if b then 1 else 0
theorem bit_any (b : Bool) (w : World) : Calls Tryd.prog 38 #[.bool b] w fun e w' => e = .returned (.int .u64 (bitN b : Int)) ∧ w' = w := by
  cases b <;>
  · go_enter Tryd.func38, Tryd.ntmps38
    go_wp2
    go_ret
    exact ⟨rfl, rfl⟩
theorem rbit_any (b : Bool) (w : World) : Calls Tryd.prog 32 #[.bool b] w fun e w' => e = .returned (.int .u64 (bitN b : Int)) ∧ w' = w := by
  cases b <;>
  · go_enter Tryd.func32, Tryd.ntmps32
    go_wp2
    go_ret
    exact ⟨rfl, rfl⟩
/-- Bytes are bytes. -/
structure Sv.Fits (s : Sv) : Prop where
  h1 : 0 ≤ s.a1 ∧ s.a1 < 256
  h2 : 0 ≤ s.a2 ∧ s.a2 < 256
  h3 : 0 ≤ s.a3 ∧ s.a3 < 256
  h4 : 0 ≤ s.a4 ∧ s.a4 < 256
  h6 : 0 ≤ s.a6 ∧ s.a6 < 256
  h7 : 0 ≤ s.a7 ∧ s.a7 < 256
  h8 : 0 ≤ s.a8 ∧ s.a8 < 256
  h9 : 0 ≤ s.a9 ∧ s.a9 < 256
  h10 : 0 ≤ s.a10 ∧ s.a10 < 256
def Sv.fore (s : Sv) : Col := ⟨s.a0.toNat, s.a1.toNat, s.a2.toNat, s.a3.toNat, s.a4.toNat⟩
def Sv.back (s : Sv) : Col := ⟨s.a5.toNat, s.a6.toNat, s.a7.toNat, s.a8.toNat, s.a9.toNat⟩
def Sv.word (s : Sv) : Nat := packN s.fore s.back s.a10.toNat
theorem vcol_kind {k i r g b : Int} (h : vColor k i r g b = true) : 0 ≤ k := by
  unfold vColor at h
  split at h
  · omega
  · split at h
    · omega
    · split at h
      · omega
      · cases h
theorem sv_pen {s : Sv} (hf : s.Fits) (hp : s.pen = true) : s.fore.ok ∧ s.back.ok ∧ s.a10.toNat < 256 ∧ s.a0 = (s.fore.kind : Int) ∧ s.a1 = (s.fore.idx : Int) ∧ s.a2 = (s.fore.r : Int) ∧ s.a3 = (s.fore.g : Int) ∧ s.a4 = (s.fore.b : Int) ∧ s.a5 = (s.back.kind : Int) ∧ s.a6 = (s.back.idx : Int) ∧ s.a7 = (s.back.r : Int) ∧ s.a8 = (s.back.g : Int) ∧ s.a9 = (s.back.b : Int) ∧ s.a10 = (s.a10.toNat : Int) := by
  obtain ⟨h1, h2, h3, h4, h6, h7, h8, h9, h10⟩ := hf
  have hp : vPen s.a0 s.a1 s.a2 s.a3 s.a4 s.a5 s.a6 s.a7 s.a8 s.a9 = true := hp
  unfold vPen at hp
  rw [Bool.and_eq_true] at hp
  have k0 := vcol_kind hp.1
  have k5 := vcol_kind hp.2
  have e0 : s.a0 = (s.fore.kind : Int) := by unfold Sv.fore; simp only; omega
  have e1 : s.a1 = (s.fore.idx : Int) := by unfold Sv.fore; simp only; omega
  have e2 : s.a2 = (s.fore.r : Int) := by unfold Sv.fore; simp only; omega
  have e3 : s.a3 = (s.fore.g : Int) := by unfold Sv.fore; simp only; omega
  have e4 : s.a4 = (s.fore.b : Int) := by unfold Sv.fore; simp only; omega
  have e5 : s.a5 = (s.back.kind : Int) := by unfold Sv.back; simp only; omega
  have e6 : s.a6 = (s.back.idx : Int) := by unfold Sv.back; simp only; omega
  have e7 : s.a7 = (s.back.r : Int) := by unfold Sv.back; simp only; omega
  have e8 : s.a8 = (s.back.g : Int) := by unfold Sv.back; simp only; omega
  have e9 : s.a9 = (s.back.b : Int) := by unfold Sv.back; simp only; omega
  have hq := hp
  rw [e0, e1, e2, e3, e4, e5, e6, e7, e8, e9] at hq
  have o1 := vcol_of (c := s.fore) (by omega) (by omega) (by omega) (by omega) hq.1
  have o2 := vcol_of (c := s.back) (by omega) (by omega) (by omega) (by omega) hq.2
  exact ⟨o1, o2, by omega, e0, e1, e2, e3, e4, e5, e6, e7, e8, e9, by omega⟩
abbrev Sv.penA (s : Sv) : Value := .agg #[.int .i64 s.a0, .int .u8 s.a1, .int .u8 s.a2, .int .u8 s.a3, .int .u8 s.a4, .int .i64 s.a5, .int .u8 s.a6, .int .u8 s.a7, .int .u8 s.a8, .int .u8 s.a9, .int .u8 s.a10]
theorem pack_sv (s : Sv) (hf : s.Fits) (hp : s.pen = true) (w : World) : Calls Tryd.prog 16 #[s.penA] w fun e w' => e = .returned (.tuple #[.int .u64 (s.word : Int), .int .i64 0]) ∧ Sees w w' := by
  obtain ⟨o1, o2, o3, e0, e1, e2, e3, e4, e5, e6, e7, e8, e9, e10⟩ := sv_pen hf hp
  have h := pack_any s.fore s.back s.a10.toNat o1 o2 o3 w
  unfold penV at h
  rw [← e0, ← e1, ← e2, ← e3, ← e4, ← e5, ← e6, ← e7, ← e8, ← e9, ← e10] at h
  exact h
theorem word_lt {s : Sv} (hf : s.Fits) (hp : s.pen = true) : s.word < 1152921504606846976 := by
  obtain ⟨o1, o2, o3, _⟩ := sv_pen hf hp
  exact (pack_parts o1 o2 o3).1
/-- The numbers of what is kept. -/
def Sv.nums (s : Sv) (wd : Nat) : List Nat := [s.row.toNat, s.col.toNat, bitN s.pend, wd, bitN s.org, s.g0.toNat, s.g1.toNat, s.act.toNat]
def Sv.text (s : Sv) : List UInt8 := textN (s.nums s.word)
theorem cs_small {s : Sv} (h : s.ok = true) : (0 ≤ s.row ∧ s.row < 1000 ∧ 0 ≤ s.col ∧ s.col < 1000) ∧ (0 ≤ s.g0 ∧ s.g0 < 2) ∧ (0 ≤ s.g1 ∧ s.g1 < 2) ∧ (0 ≤ s.act ∧ s.act < 2) := by
  have hp := of_decide_eq_true (s.ok_placed h)
  have hc : vCs s.g0 s.g1 s.act = true := s.ok_cs h
  unfold vCs csK at hc
  simp only [Bool.and_eq_true, Bool.or_eq_true, decide_eq_true_eq, beq_iff_eq] at hc
  exact ⟨hp, hc.1, hc.2.1, by omega⟩
set_option maxHeartbeats 4000000 in
set_option maxRecDepth 100000 in
theorem stext_bad (s : Sv) (hv : s.ok = false) (w : World) : Calls Tryd.prog 23 #[s.val] w fun e w' => e = .returned (.tuple #[.string ⟨#[]⟩, .int .i64 2]) ∧ Sees w w' := by
  have KV : Hid (∀ W, Calls Tryd.prog 8 #[s.val] W fun e w' => e = .returned (.bool false) ∧ Sees W w') := fun W => by have := sValid_any s W; rw [hv] at this; exact this
  have A0 := SvAt.new w s
  have S0 := (Sees.refl w).alloc (.cells s.cells 35)
  go_enter Tryd.func23, Tryd.ntmps23
  go_wp2_with (first
    | (refine wpList_val rfl (exec_box (cs := s.cells) rfl rfl) (fun K hK => ?_); go_simp; refine hK _ _ ?_; clear hK K)
    | (refine wpList_val rfl (exec_load (v := s.val) rfl rfl (run_loadSv A0)) (fun K hK => ?_); go_simp; refine hK _ _ ?_; clear hK K))
  refine (KV.out _).mono ?_
  rintro e W1 ⟨rfl, s1⟩
  go_wp2
  go_ret2
  exact ⟨rfl, S0.trans s1⟩
theorem app_one {e t : TypeId} {z : Value} (bytes : Nat) (ht : Tryd.prog.underlying t = some (.slice e)) (hinf : (Tryd.prog.info? e).map (fun i => (i.zero, i.size, i.bytes)) = some (some z, 1, bytes)) (hby : bytes ≤ 16) (hzs : z.cells.size = 1) {w0 W : World} {v : Value} {k : Nat} {xs : List Value}
    (ho : W.ownsRow w0.heap.size e 1 v k xs) (hs : Sees w0 W) (hk : k ≤ 100000) (x : Value) (hx : x.oneCell' = true) :
    ∃ v' W', (Builtin.append_ #[t, t] t #[v, .slice (some ⟨W.heap.size, 0, none⟩) 1 1]).run Tryd.prog (W.alloc (.cells #[x] e)) = .ok v' W' ∧ W'.ownsRow w0.heap.size e 1 v' (k + 1) (xs ++ [x]) ∧ Sees w0 W' := by
  have hs2 := hs.alloc (.cells #[x] e)
  obtain ⟨i, hi, he⟩ := Option.map_eq_some_iff.1 hinf
  simp only [Prod.mk.injEq] at he
  obtain ⟨hz, h1, rfl⟩ := he
  obtain ⟨v', W', h2, h3, h4, _⟩ := run_append_own_at (P := Tryd.prog) (w := W.alloc (.cells #[x] e)) w0.heap.size t t e i z 1 i.bytes ht hi hz h1 rfl hzs (by decide) v k xs (ho.alloc _) ⟨W.heap.size, 0, none⟩ 1 1 [x] rfl (cell_one_new W x e) (fun u hu => by rw [List.mem_singleton.1 hu]; exact hx)
    (by unfold maxLen; omega) (Nat.le_trans (Nat.mul_le_mul (show k + 1 ≤ 100001 by omega) hby) (by decide)) hs2.size
  exact ⟨v', W', h2, h3, Below.grown hs2 h4 hs2.size (fun g hg => ((ho.alloc (.cells #[x] e)).lt g hg).1)⟩
theorem wp_app {ops : Array Oper} {rest : List Oper} {o : Oper} {a : Act} {Q : Exit → Act → World → Prop} {v u v' : Value} {W W' : World} (t : TypeId) (hgd : o.guard = none) (s x : Operand) (ho : o.op = .call { callee := .builtin .append, args := #[s, x], argTypes := #[t, t] }) (hty : o.type = t)
    (hs : a.eval s = v) (hx : a.eval x = u) (hr : (Builtin.append_ #[t, t] t #[v, u]).run Tryd.prog W = .ok v' W') (h : wpList Tryd.prog ops Q rest (a.put o.dst v') W') : wpList Tryd.prog ops Q (o :: rest) a W := by
  refine wpList_plain hgd fun K hK => ?_
  unfold Oper.wp execOp
  simp only [ho, hty, resolve, invoke, builtin, Sem.run_bind, Sem.run_pure, Result.andThen_ok, List.map_toArray, List.map_cons, List.map_nil, hs, hx, hr]
  exact hK _ _ h
theorem app_str {w0 W : World} {v : Value} {k : Nat} {xs : List Value} (ho : W.ownsRow w0.heap.size 9 1 v k xs) (hs : Sees w0 W) (hk : k ≤ 100000) (x : ByteArray) :
    ∃ v' W', (Builtin.append_ #[76, 76] 76 #[v, .slice (some ⟨W.heap.size, 0, none⟩) 1 1]).run Tryd.prog (W.alloc (.cells #[.string x] 9)) = .ok v' W' ∧ W'.ownsRow w0.heap.size 9 1 v' (k + 1) (xs ++ [.string x]) ∧ Sees w0 W' :=
  app_one (z := .string ⟨#[]⟩) 16 Tryd.underlying76 (by kernel_rfl) (by decide) rfl ho hs hk _ rfl
theorem rgGood_mk2 {w : World} {specs : List Spec} {k : Nat} {V : Value → World → Prop} {W W' : World} {v : Value} (hV : segStay (Sees w) specs) (hI : Sees w W) (h : V v W') (hs : Sees W W') : rgGood (Sees w) specs k V W v W' :=
  ⟨hI.trans hs, h, fun j V' _ hj u hu => segStay_get specs hV j V' hj u W W' hI hu hs⟩
theorem row_sees {W W' : World} {base : Nat} {e : TypeId} {size n : Nat} {v : Value} {xs : List Value} (h : W.ownsRow base e size v n xs) (hs : Sees W W') : W'.ownsRow base e size v n xs := by
  obtain ⟨h1, h2⟩ := h
  refine ⟨h1, ?_⟩
  rcases h2 with h2 | ⟨g, cap, cur, rfl, h3, h4, h5⟩
  · exact .inl h2
  · exact .inr ⟨g, cap, cur, rfl, h3, hs.block' h4, h5⟩
theorem join_S (l : List (List UInt8)) : Lib.join l [32] = joinS l := by
  cases l with
  | nil => rfl
  | cons x r =>
    rw [Lib.join_cons]
    induction r generalizing x with
    | nil => simp [Lib.joinTail, joinS]
    | cons y r ih =>
      rw [joinS, ← ih y]
      simp [Lib.joinTail]
theorem join_text (L : List Nat) : Lib.join ((L.map fun n => (⟨(Lib.decDigits n).toArray⟩ : ByteArray)).map (·.data.toList)) (⟨#[32]⟩ : ByteArray).data.toList = textN L := by
  rw [List.map_map]
  show Lib.join (L.map Lib.decDigits) [32] = _
  exact join_S _
theorem dec_len {u : Nat} (h : u < 18446744073709551616) : (Lib.decDigits u).length ≤ 20 := by
  rw [Lib.decDigits_length]
  by_cases h1 : 1 ≤ u
  · have := Lib.numDigits_eq u h1 h
    split at this <;> omega
  · obtain rfl : u = 0 := by omega
    rw [← Lib.decDigits_length, Lib.decDigits]
    simp
theorem textN_len : ∀ (L : List Nat), (∀ x ∈ L, x < 18446744073709551616) → (textN L).length ≤ 21 * L.length
  | [], _ => by simp [textN, joinS]
  | [x], h => by have := dec_len (h x (List.mem_singleton_self x)); simp only [textN, List.map, joinS, List.length_cons, List.length_nil]; omega
  | x :: y :: r, h => by
    have h1 := dec_len (h x (List.mem_cons_self ..))
    have h2 := textN_len (y :: r) (fun z hz => h z (List.mem_cons_of_mem _ hz))
    simp only [textN, List.map, joinS, List.length_append, List.length_cons] at h2 ⊢
    omega
theorem row_nil (W : World) (base : Nat) (e : TypeId) : W.ownsRow base e 1 (.slice none 0 0) 0 [] := ⟨rfl, .inl ⟨rfl, rfl⟩⟩
set_option maxHeartbeats 16000000 in
set_option maxRecDepth 100000 in
theorem stext0 (s : Sv) (hv : s.ok = true) (hf : s.Fits) (n0 n1 n2 n3 n4 n5 n6 n7 : Nat) (e0 : s.row = n0) (e1 : s.col = n1) (e2 : n2 = bitN s.pend) (e3 : n3 = s.word) (e4 : n4 = bitN s.org) (e5 : s.g0 = n5) (e6 : s.g1 = n6) (e7 : s.act = n7) (L : List Nat) (hL : L = [n0, n1, n2, n3, n4, n5, n6, n7]) (w : World) (hw : Std w) : Calls Tryd.prog 23 #[s.val] w fun e w' => e = .returned (.tuple #[.string ⟨(textN L).toArray⟩, .int .i64 0]) ∧ Sees w w' := by
  have KV : Hid (∀ W, Calls Tryd.prog 8 #[s.val] W fun e w' => e = .returned (.bool true) ∧ Sees W w') := fun W => by have := sValid_any s W; rw [hv] at this; exact this
  have KP : Hid (∀ W, Calls Tryd.prog 16 #[s.penA] W fun e w' => e = .returned (.tuple #[.int .u64 (n3 : Int), .int .i64 0]) ∧ Sees W w') := fun W => by have := pack_sv s hf (s.ok_pen hv) W; rw [← e3] at this; exact this
  have B2 : Hid (∀ W, Calls Tryd.prog 38 #[.bool s.pend] W fun e w' => e = .returned (.int .u64 (n2 : Int)) ∧ w' = W) := fun W => e2 ▸ bit_any s.pend W
  have B4 : Hid (∀ W, Calls Tryd.prog 38 #[.bool s.org] W fun e w' => e = .returned (.int .u64 (n4 : Int)) ∧ w' = W) := fun W => e4 ▸ bit_any s.org W
  obtain ⟨⟨q0, q1, q2, q3⟩, ⟨q4, q5⟩, ⟨q6, q7⟩, q8, q9⟩ := cs_small hv
  have w3 := word_lt hf (s.ok_pen hv)
  have w2 : n2 ≤ 1 := by rw [e2]; unfold bitN; split <;> omega
  have w4 : n4 ≤ 1 := by rw [e4]; unfold bitN; split <;> omega
  rw [← e3] at w3
  rw [e0] at q0 q1
  rw [e1] at q2 q3
  rw [e5] at q4 q5
  rw [e6] at q6 q7
  rw [e7] at q8 q9
  have v0 : IntKind.u64.wrap (n0 : Int) = n0 := wrap64 (by omega)
  have v1 : IntKind.u64.wrap (n1 : Int) = n1 := wrap64 (by omega)
  have v5 : IntKind.u64.wrap (n5 : Int) = n5 := wrap64 (by omega)
  have v6 : IntKind.u64.wrap (n6 : Int) = n6 := wrap64 (by omega)
  have v7 : IntKind.u64.wrap (n7 : Int) = n7 := wrap64 (by omega)
  have A0 := SvAt.new w s
  have S0 := (Sees.refl w).alloc (.cells s.cells 35)
  clear hv hf e2 e3 e4
  have E0 := Lib.hid e0
  have E1 := Lib.hid e1
  have E5 := Lib.hid e5
  have E6 := Lib.hid e6
  have E7 := Lib.hid e7
  have HW := Lib.hid hw
  have HLL := Lib.hid hL
  clear e0 e1 e5 e6 e7 hw hL
  go_enter Tryd.func23, Tryd.ntmps23
  go_wp2_with (first
    | (refine wpList_val rfl (exec_box (cs := s.cells) rfl rfl) (fun K hK => ?_); go_simp; refine hK _ _ ?_; clear hK K)
    | (refine wpList_val rfl (exec_load (v := s.val) rfl rfl (run_loadSv A0)) (fun K hK => ?_); go_simp; refine hK _ _ ?_; clear hK K))
  refine (KV.out _).mono ?_
  rintro e W1 ⟨rfl, s1⟩
  have A1 := Lib.hid (A0.sees s1)
  have S1 := Lib.hid (S0.trans s1)
  clear A0 S0 s1
  have hp : (Instr.loadAt 29 (.pointer (some ⟨w.heap.size, 3, none⟩))).run Tryd.prog W1 = .ok s.penA W1 := run_loadPenSv A1.out
  go_wp2_with (first
    | (refine wpList_val rfl (exec_load (v := s.penA) rfl rfl hp) (fun K hK => ?_); go_simp; refine hK _ _ ?_; clear hK K))
  refine (KP.out _).mono ?_
  rintro e W2 ⟨rfl, s2⟩
  have A2 := Lib.hid (A1.out.sees s2)
  have S2 := Lib.hid (S1.out.trans s2)
  clear A1 S1 s2 hp
  have hval : ∀ x v, (Spec.is x).val v = x := fun _ _ => rfl
  have hval2 : ∀ V v, (Spec.so V).val v = v := fun _ _ => rfl
  go_wp2_with fail
  have A3 := A2
  have S3 := S2
  clear A2 S2
  have hst : segStay (Sees W2) [.is (.pointer (some ⟨w.heap.size, 0, none⟩)), .is (.pointer (some ⟨w.heap.size, 0, none⟩)), .is (.int .i64 (n0 : Int)), .is (.int .u64 (n0 : Int)), .is (.pointer (some ⟨w.heap.size, 0, none⟩)), .is (.pointer (some ⟨w.heap.size, 1, none⟩)), .is (.int .i64 (n1 : Int)), .is (.int .u64 (n1 : Int)), .is (.pointer (some ⟨w.heap.size, 0, none⟩)), .is (.pointer (some ⟨w.heap.size, 2, none⟩)), .is (.bool s.pend), .is (.int .u64 (n2 : Int)), .is (.int .u64 (n3 : Int)), .is (.pointer (some ⟨w.heap.size, 14, none⟩)), .is (.bool s.org), .is (.int .u64 (n4 : Int)), .is (.pointer (some ⟨w.heap.size, 15, none⟩)), .is (.pointer (some ⟨w.heap.size, 15, none⟩)), .is (.pointer (some ⟨w.heap.size, 15, none⟩)), .is (.int .i64 (n5 : Int)), .is (.int .u64 (n5 : Int)), .is (.pointer (some ⟨w.heap.size, 15, none⟩)), .is (.pointer (some ⟨w.heap.size, 15, none⟩)), .is (.pointer (some ⟨w.heap.size, 16, none⟩)), .is (.int .i64 (n6 : Int)), .is (.int .u64 (n6 : Int)), .is (.pointer (some ⟨w.heap.size, 15, none⟩)), .is (.pointer (some ⟨w.heap.size, 17, none⟩)), .is (.int .i64 (n7 : Int)), .is (.int .u64 (n7 : Int)), .so (fun v W => ∃ b, v = .slice (some ⟨b, 0, none⟩) 8 8 ∧ W.heap[b]? = some (.cells #[.int .u64 n0, .int .u64 n1, .int .u64 n2, .int .u64 n3, .int .u64 n4, .int .u64 n5, .int .u64 n6, .int .u64 n7] 49 (0, 0))), .is (.int .i64 8), .is (.int .i64 0)] := ⟨fun u W W' _ ⟨b, h1, h2⟩ hs => ⟨b, h1, hs.block' h2⟩, trivial⟩
  refine wp_region_rg _ (Sees W2) (by kernel_rfl) (by kernel_rfl) (Sees.refl _).drew (fun _ _ h k => h.trans k) (segStay_get _ hst) ?_
  refine ⟨fun vs W hI hV => .inl ⟨by clear hI hV hst; go_simp, .inl (by clear hI hV hst; (try simp only [Act.put, hval, hval2, List.setIfInBounds_toArray, List.set_cons_zero, List.set_cons_succ]); go_simp)⟩, ?_⟩
  refine ⟨fun vs W hI hV => .inl ⟨by clear hI hV hst; go_simp, .inl (by clear hI hV hst; (try simp only [Act.put, hval, hval2, List.setIfInBounds_toArray, List.set_cons_zero, List.set_cons_succ]); go_simp)⟩, ?_⟩
  refine ⟨fun vs W hI hV => .inl ⟨by clear hI hV hst; go_simp, .inl (by have q := (A3.out.sees hI).cs.1; rw [E0.out] at q; clear hI hV hst; (try simp only [Act.put, hval, hval2, List.setIfInBounds_toArray, List.set_cons_zero, List.set_cons_succ]); go_simp)⟩, ?_⟩
  refine ⟨fun vs W hI hV => .inl ⟨by clear hI hV hst; go_simp, .inl (by clear hI hV hst; (try simp only [Act.put, hval, hval2, List.setIfInBounds_toArray, List.set_cons_zero, List.set_cons_succ]); go_simp)⟩, ?_⟩
  refine ⟨fun vs W hI hV => .inl ⟨by clear hI hV hst; go_simp, .inl (by clear hI hV hst; (try simp only [Act.put, hval, hval2, List.setIfInBounds_toArray, List.set_cons_zero, List.set_cons_succ]); go_simp)⟩, ?_⟩
  refine ⟨fun vs W hI hV => .inl ⟨by clear hI hV hst; go_simp, .inl (by clear hI hV hst; (try simp only [Act.put, hval, hval2, List.setIfInBounds_toArray, List.set_cons_zero, List.set_cons_succ]); go_simp)⟩, ?_⟩
  refine ⟨fun vs W hI hV => .inl ⟨by clear hI hV hst; go_simp, .inl (by have q := (A3.out.sees hI).cs.2.1; rw [E1.out] at q; clear hI hV hst; (try simp only [Act.put, hval, hval2, List.setIfInBounds_toArray, List.set_cons_zero, List.set_cons_succ]); go_simp)⟩, ?_⟩
  refine ⟨fun vs W hI hV => .inl ⟨by clear hI hV hst; go_simp, .inl (by clear hI hV hst; (try simp only [Act.put, hval, hval2, List.setIfInBounds_toArray, List.set_cons_zero, List.set_cons_succ]); go_simp)⟩, ?_⟩
  refine ⟨fun vs W hI hV => .inl ⟨by clear hI hV hst; go_simp, .inl (by clear hI hV hst; (try simp only [Act.put, hval, hval2, List.setIfInBounds_toArray, List.set_cons_zero, List.set_cons_succ]); go_simp)⟩, ?_⟩
  refine ⟨fun vs W hI hV => .inl ⟨by clear hI hV hst; go_simp, .inl (by clear hI hV hst; (try simp only [Act.put, hval, hval2, List.setIfInBounds_toArray, List.set_cons_zero, List.set_cons_succ]); go_simp)⟩, ?_⟩
  refine ⟨fun vs W hI hV => .inl ⟨by clear hI hV hst; go_simp, .inl (by have q := (A3.out.sees hI).cs.2.2.1; skip; clear hI hV hst; (try simp only [Act.put, hval, hval2, List.setIfInBounds_toArray, List.set_cons_zero, List.set_cons_succ]); go_simp)⟩, ?_⟩
  refine ⟨fun vs W hI hV => .inl ⟨by clear hI hV hst; (try simp only [Act.put, hval, hval2, List.setIfInBounds_toArray, List.set_cons_zero, List.set_cons_succ]); go_simp, .inr (.inr ⟨38, #[.bool s.pend], by clear hI hV hst; (try simp only [Act.put, hval, hval2, List.setIfInBounds_toArray, List.set_cons_zero, List.set_cons_succ]); go_simp, ((B2.out W).mono fun e W' ⟨he, hw⟩ => ⟨he, hw ▸ Sees.refl W⟩)⟩)⟩, ?_⟩
  refine ⟨fun vs W hI hV => .inl ⟨by clear hI hV hst; go_simp, .inl (by clear hI hV hst; (try simp only [Act.put, hval, hval2, List.setIfInBounds_toArray, List.set_cons_zero, List.set_cons_succ]); go_simp)⟩, ?_⟩
  refine ⟨fun vs W hI hV => .inl ⟨by clear hI hV hst; go_simp, .inl (by clear hI hV hst; (try simp only [Act.put, hval, hval2, List.setIfInBounds_toArray, List.set_cons_zero, List.set_cons_succ]); go_simp)⟩, ?_⟩
  refine ⟨fun vs W hI hV => .inl ⟨by clear hI hV hst; go_simp, .inl (by have q := (A3.out.sees hI).cs.2.2.2.2.2.2.2.2.2.2.2.2.2.2.1; skip; clear hI hV hst; (try simp only [Act.put, hval, hval2, List.setIfInBounds_toArray, List.set_cons_zero, List.set_cons_succ]); go_simp)⟩, ?_⟩
  refine ⟨fun vs W hI hV => .inl ⟨by clear hI hV hst; (try simp only [Act.put, hval, hval2, List.setIfInBounds_toArray, List.set_cons_zero, List.set_cons_succ]); go_simp, .inr (.inr ⟨38, #[.bool s.org], by clear hI hV hst; (try simp only [Act.put, hval, hval2, List.setIfInBounds_toArray, List.set_cons_zero, List.set_cons_succ]); go_simp, ((B4.out W).mono fun e W' ⟨he, hw⟩ => ⟨he, hw ▸ Sees.refl W⟩)⟩)⟩, ?_⟩
  refine ⟨fun vs W hI hV => .inl ⟨by clear hI hV hst; go_simp, .inl (by clear hI hV hst; (try simp only [Act.put, hval, hval2, List.setIfInBounds_toArray, List.set_cons_zero, List.set_cons_succ]); go_simp)⟩, ?_⟩
  refine ⟨fun vs W hI hV => .inl ⟨by clear hI hV hst; go_simp, .inl (by clear hI hV hst; (try simp only [Act.put, hval, hval2, List.setIfInBounds_toArray, List.set_cons_zero, List.set_cons_succ]); go_simp)⟩, ?_⟩
  refine ⟨fun vs W hI hV => .inl ⟨by clear hI hV hst; go_simp, .inl (by clear hI hV hst; (try simp only [Act.put, hval, hval2, List.setIfInBounds_toArray, List.set_cons_zero, List.set_cons_succ]); go_simp)⟩, ?_⟩
  refine ⟨fun vs W hI hV => .inl ⟨by clear hI hV hst; go_simp, .inl (by have q := (A3.out.sees hI).cs.2.2.2.2.2.2.2.2.2.2.2.2.2.2.2.1; rw [E5.out] at q; clear hI hV hst; (try simp only [Act.put, hval, hval2, List.setIfInBounds_toArray, List.set_cons_zero, List.set_cons_succ]); go_simp)⟩, ?_⟩
  refine ⟨fun vs W hI hV => .inl ⟨by clear hI hV hst; go_simp, .inl (by clear hI hV hst; (try simp only [Act.put, hval, hval2, List.setIfInBounds_toArray, List.set_cons_zero, List.set_cons_succ]); go_simp)⟩, ?_⟩
  refine ⟨fun vs W hI hV => .inl ⟨by clear hI hV hst; go_simp, .inl (by clear hI hV hst; (try simp only [Act.put, hval, hval2, List.setIfInBounds_toArray, List.set_cons_zero, List.set_cons_succ]); go_simp)⟩, ?_⟩
  refine ⟨fun vs W hI hV => .inl ⟨by clear hI hV hst; go_simp, .inl (by clear hI hV hst; (try simp only [Act.put, hval, hval2, List.setIfInBounds_toArray, List.set_cons_zero, List.set_cons_succ]); go_simp)⟩, ?_⟩
  refine ⟨fun vs W hI hV => .inl ⟨by clear hI hV hst; go_simp, .inl (by clear hI hV hst; (try simp only [Act.put, hval, hval2, List.setIfInBounds_toArray, List.set_cons_zero, List.set_cons_succ]); go_simp)⟩, ?_⟩
  refine ⟨fun vs W hI hV => .inl ⟨by clear hI hV hst; go_simp, .inl (by have q := (A3.out.sees hI).cs.2.2.2.2.2.2.2.2.2.2.2.2.2.2.2.2.1; rw [E6.out] at q; clear hI hV hst; (try simp only [Act.put, hval, hval2, List.setIfInBounds_toArray, List.set_cons_zero, List.set_cons_succ]); go_simp)⟩, ?_⟩
  refine ⟨fun vs W hI hV => .inl ⟨by clear hI hV hst; go_simp, .inl (by clear hI hV hst; (try simp only [Act.put, hval, hval2, List.setIfInBounds_toArray, List.set_cons_zero, List.set_cons_succ]); go_simp)⟩, ?_⟩
  refine ⟨fun vs W hI hV => .inl ⟨by clear hI hV hst; go_simp, .inl (by clear hI hV hst; (try simp only [Act.put, hval, hval2, List.setIfInBounds_toArray, List.set_cons_zero, List.set_cons_succ]); go_simp)⟩, ?_⟩
  refine ⟨fun vs W hI hV => .inl ⟨by clear hI hV hst; go_simp, .inl (by clear hI hV hst; (try simp only [Act.put, hval, hval2, List.setIfInBounds_toArray, List.set_cons_zero, List.set_cons_succ]); go_simp)⟩, ?_⟩
  refine ⟨fun vs W hI hV => .inl ⟨by clear hI hV hst; go_simp, .inl (by have q := (A3.out.sees hI).cs.2.2.2.2.2.2.2.2.2.2.2.2.2.2.2.2.2; rw [E7.out] at q; clear hI hV hst; (try simp only [Act.put, hval, hval2, List.setIfInBounds_toArray, List.set_cons_zero, List.set_cons_succ]); go_simp)⟩, ?_⟩
  refine ⟨fun vs W hI hV => .inl ⟨by clear hI hV hst; go_simp, .inl (by clear hI hV hst; (try simp only [Act.put, hval, hval2, List.setIfInBounds_toArray, List.set_cons_zero, List.set_cons_succ]); go_simp)⟩, ?_⟩
  refine ⟨fun vs W hI hV => .inl ⟨by clear hI hV hst; (try simp only [Act.put, hval, hval2, List.setIfInBounds_toArray, List.set_cons_zero, List.set_cons_succ]); go_simp, .inl ⟨.slice (some ⟨W.heap.size, 0, none⟩) 8 8, W.alloc (.cells #[.int .u64 n0, .int .u64 n1, .int .u64 n2, .int .u64 n3, .int .u64 n4, .int .u64 n5, .int .u64 n6, .int .u64 n7] 49), by clear hI hV hst; (try simp only [Act.put, hval, hval2, List.setIfInBounds_toArray, List.set_cons_zero, List.set_cons_succ]); go_simp, rgGood_mk2 hst hI ⟨_, rfl, heap_alloc_new _ _⟩ ((Sees.refl W).alloc _)⟩⟩, ?_⟩
  refine ⟨fun vs W hI hV => ?_, ?_⟩
  · obtain ⟨b, hb, -⟩ : ∃ b, vs 30 = .slice (some ⟨b, 0, none⟩) 8 8 ∧ W.heap[b]? = some (.cells #[.int .u64 n0, .int .u64 n1, .int .u64 n2, .int .u64 n3, .int .u64 n4, .int .u64 n5, .int .u64 n6, .int .u64 n7] 49 (0, 0)) := hV 30 _ (by kernel_rfl) rfl
    exact .inl ⟨by clear hI hV hst; (try simp only [Act.put, hval, hval2, List.setIfInBounds_toArray, List.set_cons_zero, List.set_cons_succ]); go_simp, .inl (by clear hI hV hst; (try simp only [Act.put, hval, hval2, List.setIfInBounds_toArray, List.set_cons_zero, List.set_cons_succ]); go_simp)⟩
  refine ⟨fun vs W hI hV => .inl ⟨by clear hI hV hst; go_simp, .inl (by clear hI hV hst; (try simp only [Act.put, hval, hval2, List.setIfInBounds_toArray, List.set_cons_zero, List.set_cons_succ]); go_simp)⟩, ?_⟩
  intro vs w4 hI hV
  obtain ⟨b, hb, hrow⟩ : ∃ b, vs 30 = .slice (some ⟨b, 0, none⟩) 8 8 ∧ w4.heap[b]? = some (.cells #[.int .u64 n0, .int .u64 n1, .int .u64 n2, .int .u64 n3, .int .u64 n4, .int .u64 n5, .int .u64 n6, .int .u64 n7] 49 (0, 0)) := hV 30 _ rfl
  have S4 := Lib.hid (S3.out.trans hI)
  have HR := Lib.hid hrow
  clear hI hV hst A3 S3 hrow
  (try simp only [Act.put, hval, hval2, List.setIfInBounds_toArray, List.set_cons_zero, List.set_cons_succ])
  go_simp
  clear hb
  have hL := HLL.out
  have HL8 : L.length = 8 := by rw [hL]; rfl
  have Hlt : Hid (∀ x ∈ L, x < 18446744073709551616) := by
    rw [hL]
    intro x hx
    simp only [List.mem_cons, List.not_mem_nil, or_false] at hx
    omega
  have Hcell : Hid (∀ (i n : Nat), L[i]? = some n → w4.cell? ⟨b, i, none⟩ = some (.int .u64 (n : Int))) := by
    intro i n hn
    rw [Go.cell_of_row _ _ i _ _ _ HR.out]
    have e : (#[.int .u64 n0, .int .u64 n1, .int .u64 n2, .int .u64 n3, .int .u64 n4, .int .u64 n5, .int .u64 n6, .int .u64 n7] : Array Value) = (L.map fun (n : Nat) => Value.int .u64 (n : Int)).toArray := by rw [hL]; rfl
    rw [e, List.getElem?_toArray, List.getElem?_map, hn]
    rfl
  have HL8' := Lib.hid HL8
  clear hL HLL HR HL8 KV KP B2 B4 E0 E1 E5 E6 E7 v0 v1 v5 v6 v7 q0 q1 q2 q3 q4 q5 q6 q7 q8 q9 w2 w3
  go_wp2_with fail
  go_loopw [53, 6] (fun x v W => ∃ i : Nat, i ≤ 8 ∧ x = .int .i64 i ∧ RowKit.Hid (W.ownsRow w4.heap.size 9 1 v i ((L.take i).map fun n => Value.string ⟨(Lib.decDigits n).toArray⟩)) ∧ RowKit.Hid (Sees w4 W)) (fun x _ _ => 8 - (intOf x).toNat)
  case atStart => exact ⟨0, by omega, rfl, Lib.hid (row_nil _ _ _), Lib.hid (Sees.refl _)⟩
  case round =>
    obtain ⟨i, hi, rfl, hO, hS⟩ := hrel
    by_cases hlt : i < 8
    · obtain ⟨n, hn⟩ : ∃ n, L[i]? = some n := ⟨_, List.getElem?_eq_getElem (by rw [HL8'.out]; exact hlt)⟩
      have hc := hS.out.cell (Hcell.out i n hn)
      have hns : Hid ((L.take (i + 1)).map (fun n => Value.string ⟨(Lib.decDigits n).toArray⟩) = (L.take i).map (fun n => Value.string ⟨(Lib.decDigits n).toArray⟩) ++ [Value.string ⟨(Lib.decDigits n).toArray⟩]) := by
        show _ = _
        rw [List.take_add_one, List.map_append, hn]
        rfl
      have hnl := Hlt.out n (List.mem_of_getElem? hn)
      have hf := fmtU_any n hnl wr ((HW.out.sees S4.out).sees hS.out)
      clear hn
      go_wp2_with fail
      refine hf.mono ?_
      rintro e W5 ⟨rfl, s5⟩
      obtain ⟨v', W', hrun, hO', hS'⟩ := app_str (w0 := w4) (row_sees hO.out s5) (hS.out.trans s5) (by omega) ⟨(Lib.decDigits n).toArray⟩
      replace hO' := Lib.hid hO'
      replace hS' := Lib.hid hS'
      clear hf hc
      go_wp2_with (at_builtin; refine wp_app 76 rfl (.tmp 57) (.tmp 60) rfl rfl rfl rfl hrun ?_)
      go_roundw
      case rel => exact ⟨i + 1, by omega, by go_num, Lib.hid (by rw [hns.out]; exact hO'.out), hS'⟩
      case measure => simp [intOf]; omega
    · obtain rfl : i = 8 := by omega
      have ho := hO.out
      rw [List.take_of_length_le (by rw [HL8'.out]; exact Nat.le_refl _)] at ho
      obtain ⟨hlen, ⟨_, h0⟩ | ⟨g, cap, cur, rfl, hg, hrow, hcap, hmax, hsz, hcur⟩⟩ := ho
      · cases h0
      have hcells : ∀ (j : Nat) x, (L.map fun n => (⟨(Lib.decDigits n).toArray⟩ : ByteArray))[j]? = some x → wr.cell? ⟨g, 0 + j, none⟩ = some (.string x) := fun j x hx => by
        have hj : j < 8 := by have := (List.getElem?_eq_some_iff.1 hx).1; rw [List.length_map, HL8'.out] at this; exact this
        rw [Nat.zero_add, Go.cell_of_row _ _ j _ _ _ hrow, ← Array.getElem?_toList]
        rw [List.getElem?_map] at hx
        have h2 : (cur.toList.take (8 * 1))[j]? = some (.string x) := by
          rw [hcur, List.getElem?_map]
          cases hL : L[j]? with
          | none => rw [hL] at hx; cases hx
          | some n => rw [hL] at hx; cases hx; rfl
        rw [List.getElem?_take] at h2
        rw [if_pos (by omega)] at h2
        exact h2
      have hj := join_any g 0 cap (L.map fun n => (⟨(Lib.decDigits n).toArray⟩ : ByteArray)) ⟨#[32]⟩ wr hcells (Array.getElem?_eq_some_iff.1 hrow).1 (by rw [List.length_map, HL8'.out]; omega) (by rw [List.length_map, HL8'.out]; exact hcap) (by rw [join_text]; exact Nat.le_trans (textN_len L Hlt.out) (by rw [HL8'.out]; omega))
      rw [join_text, List.length_map, HL8'.out] at hj
      clear hcells hcur hsz hmax hrow hlen
      go_wp2_with fail
      refine hj.mono ?_
      rintro e W6 ⟨rfl, s6⟩
      go_wp2
      go_ret2
      exact ⟨rfl, (S4.out.trans hS.out).trans s6⟩
theorem stext_ok (s : Sv) (hv : s.ok = true) (hf : s.Fits) (w : World) (hw : Std w) : Calls Tryd.prog 23 #[s.val] w fun e w' => e = .returned (.tuple #[.string ⟨s.text.toArray⟩, .int .i64 0]) ∧ Sees w w' := by
  obtain ⟨⟨q0, q1, q2, q3⟩, ⟨q4, q5⟩, ⟨q6, q7⟩, q8, q9⟩ := cs_small hv
  exact stext0 s hv hf s.row.toNat s.col.toNat (bitN s.pend) s.word (bitN s.org) s.g0.toNat s.g1.toNat s.act.toNat (by omega) (by omega) rfl rfl rfl (by omega) (by omega) (by omega) _ rfl w hw
end Go.Proofs.YtfgifjdholdohaaDoor
