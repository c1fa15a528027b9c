/- SearchMany (42). The tables hold what the program's text lays. -/
import Derived.Test.YtohiigmlkhpneaaDoorShP
import Derived.Test.YtohiigmlkhpneaaDoorSlA
namespace Go.Proofs.YtohiigmlkhpneaaDoor
set_option linter.unusedVariables false
set_option linter.unusedSimpArgs false
open Go.RowKit Go.Shelf
attribute [local go_sem] Oper.semAt_some

theorem RepR.of {W : World} {g n : Nat} {c : UInt8} (h : W.heap[g]? = some (.cells (Array.replicate n (Value.int .u8 (c.toNat : Int))) 5 (0, 0))) : RepR W g n c n :=
  ⟨_, h, by simp, fun j hj => by rw [Array.getElem?_replicate, if_pos hj, if_pos hj]⟩
theorem RepR.keeps {F : Nat → Prop} {W W' : World} {g n i : Nat} {c : UInt8} (h : RepR W g n c i) (hk : Keeps F W W') (hF : ¬ F g) : RepR W' g n c i := by
  obtain ⟨cur, h1, h2, h3⟩ := h
  exact ⟨cur, by rw [hk.block _ (Array.getElem?_eq_some_iff.1 h1).1 hF]; exact h1, h2, h3⟩
theorem pat_rep {c : UInt8} (c1 : 32 ≤ c.toNat) {n : Nat} (h1 : 1 ≤ n) (h2 : n ≤ 200) : patOk ⟨(List.replicate n c).toArray⟩ = true := by
  have hs : (⟨(List.replicate n c).toArray⟩ : ByteArray).size = n := by show (List.replicate n c).toArray.size = n; simp
  unfold patOk
  rw [hs, decide_eq_true h1, decide_eq_true h2]
  show patB _ = true
  unfold patB
  rw [show (⟨(List.replicate n c).toArray⟩ : ByteArray).data.toList = List.replicate n c from rfl, List.all_eq_true]
  intro x hx
  rw [(List.mem_replicate.1 hx).2]
  exact decide_eq_true c1
/-- A slice of bytes that was just built, as a string. -/
theorem built_string (W : World) (n : Nat) (c : UInt8) (x : Int) (hx : x = (c.toNat : Int)) (cs : Array Value) (hcs : cs = Array.replicate n (Value.int .u8 x)) : (convert 42 9 (.slice (some ⟨W.heap.size, 0, none⟩) n n)).run Tryd.prog (W.alloc (.cells cs 5)) = .ok (.string ⟨(List.replicate n c).toArray⟩) (W.alloc (.cells cs 5)) := by
  subst hx hcs
  exact rep_string (RepR.of (heap_alloc_new W _)) n
set_option maxHeartbeats 8000000 in
set_option maxRecDepth 100000 in
theorem many_good (N : Nat) (soft : Bool) (c : UInt8) (w : World) (hst : Std w) (ht : Tabs w) (n1 : 98 ≤ N) (n2 : N ≤ 102) (c1 : 97 ≤ c.toNat) (c2 : c.toNat ≤ 122) :
    Calls Tryd.prog 5 #[.int .i64 N, .bool soft, .int .u8 c.toNat] w fun e w' => e = .returned (.bool true) ∧ Sees w w' := by
  have KN := Lib.hid (fun W (hs : Sees w W) => known_any W (hst.sees hs) (ht.sees hs))
  have HT := Lib.hid ht
  have HST := Lib.hid hst
  have hmk : (Instr.makeSlice 42 (.int .i64 100) (.int .i64 100)).run Tryd.prog w = .ok (.slice (some ⟨w.heap.size, 0, none⟩) 100 100) (w.alloc (.cells (Array.replicate 100 (Value.int .u8 0)) 5)) := run_make_bytes 100 (by omega) w
  have g1 : decide ((N : Int) < 98) = false := decide_eq_false (by omega)
  have g2 : decide ((N : Int) > 102) = false := decide_eq_false (by omega)
  have g3 : decide ((c.toNat : Int) < 97) = false := decide_eq_false (by omega)
  have g4 : decide ((c.toNat : Int) > 122) = false := decide_eq_false (by omega)
  have R0 := Lib.hid (RepR.new 100 c w)
  obtain ⟨b0, hb0⟩ : ∃ b0, b0 = Array.replicate 100 (Value.int .u8 0) := ⟨_, rfl⟩
  rw [← hb0] at hmk R0
  have S0 := Lib.hid ((Sees.refl w).alloc (.cells b0 5))
  clear ht hst hb0
  go_enter Tryd.func5, Tryd.ntmps5
  go_wp2
  clear hmk
  go_loopw [9] (fun ii W => ∃ k : Nat, k ≤ 100 ∧ ii = .int .i64 k ∧ RepR W w.heap.size 100 c k ∧ Sees w W) (fun ii _ => 100 - (intOf ii).toNat)
  case atStart => exact ⟨0, by omega, rfl, R0.out, S0.out⟩
  case round =>
    obtain ⟨k, hk, rfl, hR, hS⟩ := hrel
    have HR := Lib.hid hR
    have HS := Lib.hid hS
    clear hS R0 S0
    by_cases hlt : k < 100
    · have q0 := hR.cell hlt
      have q1 := hR.fr k
      have hkN : (k : Int) < 100 := by omega
      clear hR
      go_wp2
      exact ⟨⟨k + 1, by omega, by go_num, HR.out.put hlt, HS.out.setCell (p := ⟨w.heap.size, k, none⟩) (Nat.le_refl _) _⟩, by simp [intOf]; omega⟩
    · have hk100 : k = 100 := by omega
      have HR : Hid (RepR wr w.heap.size 100 c 100) := by have q := hR; rw [hk100] at q; exact q
      have gk : decide ((k : Int) < 100) = false := decide_eq_false (by omega)
      clear hlt hk hk100
      generalize (k : Int) = i9 at *
      obtain ⟨X, hX⟩ : ∃ X : ByteArray, X = ⟨(List.replicate 100 c).toArray⟩ := ⟨_, rfl⟩
      have HCV : Hid (∀ W, RepR W w.heap.size 100 c 100 → (convert 42 9 (.slice (some ⟨w.heap.size, 0, none⟩) 100 100)).run Tryd.prog W = .ok (.string X) W) := fun W h => by rw [hX]; exact rep_string h 100
      have hXs : X.size = 100 := by rw [hX]; show (List.replicate 100 c).toArray.size = 100; simp
      have hXc : chL X = List.replicate 100 (chC c) := by rw [hX]; exact chL_rep 100 c
      have KR := Lib.hid (fun W => by have q := chRow_any X (by omega) W; rw [hXc] at q; exact q)
      clear hX hXs hXc hR
      obtain ⟨g0, hg0⟩ : ∃ g0, g0 = w.heap.size := ⟨_, rfl⟩
      rw [← hg0] at HR HCV ⊢
      have HG0 := Lib.hid hg0
      clear hg0
      go_wp2
      go_loopw [7, 10] (fun vl ii W => ∃ k : Nat, k ≤ N ∧ ii = .int .i64 k ∧ lnEl.Own (fun b => g0 < b) W vl (List.replicate k (mRow c soft)) ∧ RepR W g0 100 c 100 ∧ Sees w W) (fun _ ii _ => N - (intOf ii).toNat)
      case atStart => exact ⟨0, by omega, rfl, El.Own.nil _ _, HR.out, HS.out⟩
      case round =>
        obtain ⟨k, hk, rfl, ho, hR, hS⟩ := hrel
        obtain ⟨aL, cL, rfl, _⟩ := ho.slice
        rw [List.length_replicate] at ho ⊢
        by_cases hlt : k < N
        · have hkN : (k : Int) < N := by omega
          have hcv := HCV.out _ hR
          have hz := hR
          have HR1 := Lib.hid hR
          have HO1 := Lib.hid ho
          have HS1 := Lib.hid hS
          have hgw : g0 < wr.heap.size := by obtain ⟨cur, h1, _⟩ := hR; exact (Array.getElem?_eq_some_iff.1 h1).1
          have HGW := Lib.hid hgw
          clear hR ho hS hz hgw
          go_wp2_with fail
          refine (KR.out _).mono ?_
          rintro e W1 ⟨v1, rfl, hoc, s⟩
          obtain ⟨a1, m1, rfl, _⟩ := hoc.slice
          rw [List.length_replicate] at hoc ⊢
          have sA : Sees W1 (W1.alloc (.cells #[.slice a1 100 m1, .bool soft] 38)) := (Sees.refl W1).alloc _
          have Hrow := Lib.hid (heap_alloc_new W1 (.cells #[.slice a1 100 m1, .bool soft] 38))
          have hsz := s.size
          have HSZ := Lib.hid hsz
          have HO := Lib.hid (HO1.out.cut.sees (s.trans sA))
          have hoc2 : cellEl.Own (fun b => wr.heap.size ≤ b ∧ b < W1.heap.size) (W1.alloc (.cells #[.slice a1 100 m1, .bool soft] 38)) (.slice a1 100 m1) (mRow c soft).cells := hoc.cut.sees sA
          have HW : Hid (lnEl.ownIn (fun b => wr.heap.size ≤ b ∧ b < W1.heap.size) (W1.alloc (.cells #[.slice a1 100 m1, .bool soft] 38)) [.slice a1 100 m1, .bool soft] [mRow c soft]) := El.ownIn_one (E := lnEl) ⟨_, rfl, hoc2⟩
          have HF := Lib.hid (show ∀ b, (g0 < b ∧ b < wr.heap.size) → b < (W1.alloc (.cells #[.slice a1 100 m1, .bool soft] 38)).heap.size from fun b hb => by rw [World.size_alloc]; omega)
          have HFn := Lib.hid (show ∀ b, (wr.heap.size ≤ b ∧ b < W1.heap.size) → b < (W1.alloc (.cells #[.slice a1 100 m1, .bool soft] 38)).heap.size ∧ ¬ (g0 < b ∧ b < wr.heap.size) from fun b hb => by rw [World.size_alloc]; omega)
          have HL2 := Lib.hid (show (List.replicate k (mRow c soft)).length + [mRow c soft].length ≤ 100000000 by rw [List.length_replicate, List.length_singleton]; omega)
          have HRA := Lib.hid ((HR1.out.sees s).sees sA)
          have HSA := Lib.hid ((HS1.out.trans s).trans sA)
          have HSZ2 : Hid (W1.heap.size < (W1.alloc (.cells #[.slice a1 100 m1, .bool soft] 38)).heap.size) := by unfold RowKit.Hid; rw [World.size_alloc]; omega
          clear hoc2 hoc s sA hsz hcv HO1 HR1 HS1
          go_wp2_with (at_builtin; refine El.wpList_append_own (v := .slice aL k cL) typedLn rfl (.tmp 46) (.tmp 52) rfl (by go_simp) HO.out ⟨W1.heap.size, 0, none⟩ 1 1 (by go_simp) [.slice a1 100 m1, .bool soft] [mRow c soft] (fun b => wr.heap.size ≤ b ∧ b < W1.heap.size) HW.out rfl (fun j u hu => El.row_cells Hrow.out j u hu) HF.out HFn.out HL2.out ?_; intro v7 w7 ho7 hk7; have HO7 := Lib.hid ho7; have HK7 := Lib.hid hk7; clear ho7 hk7)
          refine ⟨⟨k + 1, by omega, by go_num, ?_, HRA.out.keeps HK7.out (fun h => by have := (HO.out.base h).1.1; omega), El.keep_new HSA.out HK7.out (fun g hg => by have := (HO.out.base hg).1.1; have := HG0.out; omega)⟩, by simp [intOf]; omega⟩
          rw [List.replicate_succ']
          refine HO7.out.mono fun b _ hb => ?_
          have := HGW.out
          have := HSZ.out
          have := HSZ2.out
          rcases hb with hb | hb | hb <;> omega
        · obtain rfl : k = N := by omega
          have HL := Lib.hid (ho.rd.mono (G := fun b => b < wr.heap.size) (fun b hb _ => hb))
          have HS2 := Lib.hid hS
          clear ho hS hR HCV KR HR HS hlt hk
          generalize wr = W2 at *
          obtain ⟨X1, hX1⟩ : ∃ X1 : ByteArray, X1 = ⟨(List.replicate 1 c).toArray⟩ := ⟨_, rfl⟩
          obtain ⟨X2, hX2⟩ : ∃ X2 : ByteArray, X2 = ⟨(List.replicate 1 (c - 32)).toArray⟩ := ⟨_, rfl⟩
          obtain ⟨X3, hX3⟩ : ∃ X3 : ByteArray, X3 = ⟨(List.replicate 3 c).toArray⟩ := ⟨_, rfl⟩
          have c32 : (c - 32).toNat = c.toNat - 32 := by
            rw [UInt8.toNat_sub]
            show (256 - 32 + c.toNat) % 256 = _
            omega
          have HCV1 : Hid (∀ W : World, (convert 42 9 (.slice (some ⟨W.heap.size, 0, none⟩) 1 1)).run Tryd.prog (W.alloc (.cells #[.int .u8 (c.toNat : Int)] 5)) = .ok (.string X1) (W.alloc (.cells #[.int .u8 (c.toNat : Int)] 5))) := fun W => by rw [hX1]; exact built_string W 1 c c.toNat rfl _ rfl
          have HCV2 : Hid (∀ W : World, (convert 42 9 (.slice (some ⟨W.heap.size, 0, none⟩) 1 1)).run Tryd.prog (W.alloc (.cells #[.int .u8 ((c.toNat : Int) - 32)] 5)) = .ok (.string X2) (W.alloc (.cells #[.int .u8 ((c.toNat : Int) - 32)] 5))) := fun W => by rw [hX2]; exact built_string W 1 (c - 32) ((c.toNat : Int) - 32) (by omega) _ rfl
          have HCV3 : Hid (∀ W : World, (convert 42 9 (.slice (some ⟨W.heap.size, 0, none⟩) 3 3)).run Tryd.prog (W.alloc (.cells #[.int .u8 (c.toNat : Int), .int .u8 (c.toNat : Int), .int .u8 (c.toNat : Int)] 5)) = .ok (.string X3) (W.alloc (.cells #[.int .u8 (c.toNat : Int), .int .u8 (c.toNat : Int), .int .u8 (c.toNat : Int)] 5))) := fun W => by rw [hX3]; exact built_string W 3 c c.toNat rfl _ rfl
          have d1 : 32 ≤ c.toNat := by omega
          have d2 : c.toNat ≤ 126 := by omega
          have HR1 : Hid (rowsOk (List.replicate k (mRow c soft)) 0 = true) := many_rows d1 d2 k
          have HK1 : Hid (ckR (List.replicate k (mRow c soft)) 0 X1 = 0) := ckR_ok HR1.out (by rw [List.length_replicate]; omega) (by rw [hX1]; exact pat_rep d1 (by decide) (by decide))
          have HK2 : Hid (ckR (List.replicate k (mRow c soft)) 0 X2 = 0) := ckR_ok HR1.out (by rw [List.length_replicate]; omega) (by rw [hX2]; exact pat_rep (by omega) (by decide) (by decide))
          have HK3 : Hid (ckR (List.replicate k (mRow c soft)) 0 X3 = 0) := ckR_ok HR1.out (by rw [List.length_replicate]; omega) (by rw [hX3]; exact pat_rep d1 (by decide) (by decide))
          obtain ⟨l1, l2, l3⟩ := low_up c1 c2
          obtain ⟨RR, hRR⟩ : ∃ RR, RR = (rowsF 0 (List.replicate k (mRow c soft))).map Bp.mt := ⟨_, rfl⟩
          have HA1 : Hid (allM (List.replicate k (mRow c soft)) 0 X1.data.toList false = RR) := by unfold RowKit.Hid; rw [hX1, hRR]; exact manyAll d1 d2 l3 l3 k
          have HA2 : Hid (allM (List.replicate k (mRow c soft)) 0 X2.data.toList true = RR) := by unfold RowKit.Hid; rw [hX2, hRR]; exact manyAll d1 d2 l1 l2 k
          have HA3 : Hid ((allM (List.replicate k (mRow c soft)) 0 X3.data.toList false).length = if soft then 100 * k / 3 else 33 * k) := by unfold RowKit.Hid; rw [hX3]; exact many3 d1 d2 k (by omega)
          obtain ⟨Q, hQ⟩ : ∃ Q, Q = 100 * k := ⟨_, rfl⟩
          have HRL : Hid (RR.length = Q) := by unfold RowKit.Hid; rw [hRR, List.length_map, rowsF_len d1 d2, hQ]
          have HRG : Hid (∀ i, i < Q → RR[i]? = some ⟨(i / 100 : Nat), (i % 100 : Nat), (i / 100 : Nat), (i % 100 : Nat)⟩) := fun i hi => by
            rw [hRR, List.getElem?_map, rowsF_get d1 d2 k 0 i (by omega)]
            simp [Bp.mt]
          obtain ⟨K, hK⟩ : ∃ K, K = (RR.take 10000).length := ⟨_, rfl⟩
          have hK2 : K = min 10000 Q := by rw [hK, List.length_take, HRL.out]
          have HK := Lib.hid hK
          have f1 : ((Q : Int) != 100 * (k : Int)) = false := by rw [bne_eq_false_iff_eq]; omega
          have f2 : min (Q : Int) 10000 = (K : Int) := by omega
          have HQ := Lib.hid hQ
          have HKQ := Lib.hid hK2
          have hcv := HCV1.out W2
          clear c32 hX1 hX2 hX3 hRR hQ hK hK2 l1 l2 l3 d1 d2
          go_wp2_with fail
          refine (sall_ok (HST.out.sees (HS2.out.trans ((Sees.refl _).alloc _))) (HT.out.sees (HS2.out.trans ((Sees.refl _).alloc _))) (rd_up HL.out ((Sees.refl _).alloc _)) false HK1.out).mono ?_
          rintro e W3 ⟨v5, rfl, ho5, s⟩
          rw [HA1.out] at ho5
          obtain ⟨a5, c5, rfl, _⟩ := ho5.slice
          rw [← HK.out] at ho5 ⊢
          have HO5 := Lib.hid (ho5.rd.mono (G := fun b => b < W3.heap.size) (fun b hb _ => hb))
          have HS3 := Lib.hid ((HS2.out.trans ((Sees.refl _).alloc _)).trans s)
          have HL3 := Lib.hid (rd_up HL.out (((Sees.refl _).alloc _).trans s))
          clear ho5 s hcv HL HS2
          have hcv := HCV2.out W3
          go_wp2_with fail
          refine (count_ok (HST.out.sees (HS3.out.trans ((Sees.refl _).alloc _))) (HT.out.sees (HS3.out.trans ((Sees.refl _).alloc _))) (rd_up HL3.out ((Sees.refl _).alloc _)) true HK2.out Q (by rw [HA2.out, HRL.out]) (by have := HQ.out; omega)).mono ?_
          rintro e W4 ⟨rfl, s⟩
          have HS4 := Lib.hid ((HS3.out.trans ((Sees.refl _).alloc _)).trans s)
          have HL4 := Lib.hid (rd_up HL3.out (((Sees.refl _).alloc _).trans s))
          have HO6 := Lib.hid ((HO5.out.sees (((Sees.refl _).alloc _).trans s)).mono (G := fun b => b < W4.heap.size) (fun b hb _ => hb))
          clear s hcv HL3 HS3 HO5
          have hcv := HCV3.out W4
          go_wp2_with fail
          obtain ⟨Q3, hQ3⟩ : ∃ Q3 : Nat, Q3 = (if soft then 100 * k / 3 else 33 * k) := ⟨_, rfl⟩
          refine (count_ok (HST.out.sees (HS4.out.trans ((Sees.refl _).alloc _))) (HT.out.sees (HS4.out.trans ((Sees.refl _).alloc _))) (rd_up HL4.out ((Sees.refl _).alloc _)) false HK3.out Q3 (by rw [HA3.out, hQ3]) (by rw [hQ3]; split <;> omega)).mono ?_
          rintro e W5 ⟨rfl, s⟩
          have HS5 := Lib.hid ((HS4.out.trans ((Sees.refl _).alloc _)).trans s)
          have HO7 := Lib.hid (HO6.out.sees (((Sees.refl _).alloc _).trans s))
          clear s hcv HL4 HS4 HO6 f1 f2
          obtain ⟨b3, o3, x, rfl, hx, p0, p1, p2, p3⟩ := mt_at HO7.out (show K - 1 < K by have := HKQ.out; have := HQ.out; omega)
          have hxx : x = ⟨((K - 1) / 100 : Nat), ((K - 1) % 100 : Nat), ((K - 1) / 100 : Nat), ((K - 1) % 100 : Nat)⟩ := by
            have hk1 := HKQ.out
            have hk2 := HQ.out
            rw [List.getElem?_take, if_pos (by omega), HRG.out (K - 1) (by omega)] at hx
            exact (Option.some.inj hx).symm
          have hKm : (K : Int) - 1 = ((K - 1 : Nat) : Int) := by have := HKQ.out; have := HQ.out; omega
          have hKp : K ≤ 10000 ∧ 1 ≤ K := by have := HKQ.out; have := HQ.out; omega
          have f5 : ((K : Int) - 1).tdiv 100 = (((K - 1) / 100 : Nat) : Int) := by rw [hKm]; rfl
          have f6 : ((K : Int) - 1).tmod 100 = (((K - 1) % 100 : Nat) : Int) := by rw [hKm]; rfl
          rw [hxx] at p0 p1 p2 p3
          dsimp only at p0 p1 p2 p3
          have u1 : wrap64 (((K - 1) / 100 : Nat) : Int) = (((K - 1) / 100 : Nat) : Int) := by have := hKp; unfold wrap64; omega
          have u2 : wrap64 (((K - 1) % 100 : Nat) : Int) = (((K - 1) % 100 : Nat) : Int) := by have := hKp; unfold wrap64; omega
          have u3 : wrap64 (Q3 : Int) = (Q3 : Int) := by have : Q3 ≤ 100000 := (by rw [hQ3]; split <;> omega); unfold wrap64; omega
          clear hx hxx
          generalize (((K - 1) / 100 : Nat) : Int) = qd at *
          generalize (((K - 1) % 100 : Nat) : Int) = rd at *
          have hm0 : (0 : Int) ≤ (K : Int) - 1 := by omega
          have hm1 : (K : Int) - 1 < K := by omega
          have hm2 : ((K : Int) - 1).toNat = K - 1 := by omega
          have hm3 : ¬ ((K : Int) < 1) := by omega
          have hm5 : IntKind.i64.wrap ((K : Int) - 1) = (K : Int) - 1 := IntWalk.i64_in _ (by omega)
          have KM : Hid (∀ a b c d W, Calls Tryd.prog 21 #[.int .i64 a, .int .i64 b, .int .i64 c, .int .i64 d] W fun e w' => e = .returned (.agg #[.int .i64 a, .int .i64 b, .int .i64 c, .int .i64 d]) ∧ Sees W w') := fun a b c d W => match_any a b c d W
          clear hKm hKp
          have gp0 := fun d os => (sees_grow W5 d os).cell p0
          have gp1 := fun d os => (sees_grow W5 d os).cell p1
          have gp2 := fun d os => (sees_grow W5 d os).cell p2
          have gp3 := fun d os => (sees_grow W5 d os).cell p3
          clear p0 p1 p2 p3
          cases soft
          · have f3 : ((Q3 : Int) == 33 * (k : Int)) = true := by rw [beq_iff_eq, hQ3]; simp
            clear hQ3
            go_wp2
            refine wp_region_quiet_below (by kernel_rfl) (by kernel_rfl) ?_
            repeat (first | go_big_quiet_skip | (go_big_quiet_want; go_big_quiet_op; go_big_quiet_on))
            (go_big_quiet_want; go_big_quiet_op; apply Exists.intro; refine ⟨fun p => Calls.regrown_of (KM.out _ _ _ _ _), ?_⟩; go_big_quiet_on)
            repeat (first | go_big_quiet_skip | (go_big_quiet_want; go_big_quiet_op; go_big_quiet_on))
            (go_big_quiet_want; go_big_quiet_op; apply Exists.intro; refine ⟨fun p => Calls.regrown_of (KN.out _ (HS5.out.trans (sees_grow W5 _ _))), ?_⟩; go_big_quiet_on)
            repeat (first | go_big_quiet_skip | (go_big_quiet_want; go_big_quiet_op; go_big_quiet_on))
            refine wpQuiet_nil ?_; intro w2 hw2'; have hw2 := regrown_sees hw2'; clear hw2'
            go_wp2
            go_ret
            exact ⟨rfl, HS5.out.trans hw2⟩
          · have f3 : (100 * (k : Int)).tdiv 3 = (Q3 : Int) := by
              rw [hQ3, show 100 * (k : Int) = ((100 * k : Nat) : Int) by omega]
              rfl
            clear hQ3
            go_wp2
            refine wp_region_quiet_below (by kernel_rfl) (by kernel_rfl) ?_
            repeat (first | go_big_quiet_skip | (go_big_quiet_want; go_big_quiet_op; go_big_quiet_on))
            (go_big_quiet_want; go_big_quiet_op; apply Exists.intro; refine ⟨fun p => Calls.regrown_of (KM.out _ _ _ _ _), ?_⟩; go_big_quiet_on)
            repeat (first | go_big_quiet_skip | (go_big_quiet_want; go_big_quiet_op; go_big_quiet_on))
            (go_big_quiet_want; go_big_quiet_op; apply Exists.intro; refine ⟨fun p => Calls.regrown_of (KN.out _ (HS5.out.trans (sees_grow W5 _ _))), ?_⟩; go_big_quiet_on)
            repeat (first | go_big_quiet_skip | (go_big_quiet_want; go_big_quiet_op; go_big_quiet_on))
            refine wpQuiet_nil ?_; intro w2 hw2'; have hw2 := regrown_sees hw2'; clear hw2'
            go_wp2
            go_ret
            exact ⟨rfl, HS5.out.trans hw2⟩
set_option maxHeartbeats 1000000 in
theorem many_bad (n c : Int) (soft : Bool) (w : World) (hst : Std w) (ht : Tabs w) (h : n < 98 ∨ 102 < n ∨ c < 97 ∨ 122 < c) :
    Calls Tryd.prog 5 #[.int .i64 n, .bool soft, .int .u8 c] w fun e w' => e = .returned (.bool true) ∧ Sees w w' := by
  have KN := Lib.hid (known_any w hst ht)
  have H := Lib.hid h
  clear hst ht h
  go_enter Tryd.func5, Tryd.ntmps5
  rcases Bool.eq_false_or_eq_true (decide (n < 98)) with g1 | g1
  · go_wp2_with fail
    refine KN.out.mono ?_
    rintro e W1 ⟨rfl, s⟩
    go_wp2
    go_ret
    exact ⟨rfl, s⟩
  rcases Bool.eq_false_or_eq_true (decide (n > 102)) with g2 | g2
  · go_wp2_with fail
    refine KN.out.mono ?_
    rintro e W1 ⟨rfl, s⟩
    go_wp2
    go_ret
    exact ⟨rfl, s⟩
  rcases Bool.eq_false_or_eq_true (decide (c < 97)) with g3 | g3
  · go_wp2_with fail
    refine KN.out.mono ?_
    rintro e W1 ⟨rfl, s⟩
    go_wp2
    go_ret
    exact ⟨rfl, s⟩
  rcases Bool.eq_false_or_eq_true (decide (c > 122)) with g4 | g4
  · go_wp2_with fail
    refine KN.out.mono ?_
    rintro e W1 ⟨rfl, s⟩
    go_wp2
    go_ret
    exact ⟨rfl, s⟩
  · exfalso
    have a1 := of_decide_eq_false g1
    have a2 := of_decide_eq_false g2
    have a3 := of_decide_eq_false g3
    have a4 := of_decide_eq_false g4
    have := H.out
    omega
theorem searchMany_any (n c : Int) (soft : Bool) (w : World) (hst : Std w) (ht : Tabs w) (h0 : 0 ≤ c) :
    Calls Tryd.prog 5 #[.int .i64 n, .bool soft, .int .u8 c] w fun e w' => e = .returned (.bool true) ∧ Sees w w' := by
  by_cases h : n < 98 ∨ 102 < n ∨ c < 97 ∨ 122 < c
  · exact many_bad n c soft w hst ht h
  · obtain ⟨N, rfl⟩ : ∃ N : Nat, n = N := ⟨n.toNat, by omega⟩
    obtain ⟨m, rfl⟩ : ∃ m : Nat, c = m := ⟨c.toNat, by omega⟩
    have e : (UInt8.ofNat m).toNat = m := by rw [UInt8.toNat_ofNat']; omega
    have q := many_good N soft (UInt8.ofNat m) w hst ht (by omega) (by omega) (by rw [e]; omega) (by rw [e]; omega)
    rw [e] at q
    exact q
end Go.Proofs.YtohiigmlkhpneaaDoor
