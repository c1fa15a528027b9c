/- alls, nexts, prevs (42). The tables hold what the program's text lays. -/
import Derived.Test.YtohiigmlkhpneaaDoorSrS
namespace Go.Proofs.YtohiigmlkhpneaaDoor
set_option linter.unusedVariables false
set_option linter.unusedSimpArgs false
open Go.RowKit Go.Shelf
attribute [local go_sem] Oper.semAt_some

theorem rd_up {w W : World} {v : Value} {ls : List Ln} (h : lnEl.Rd (fun b => b < w.heap.size) w v ls) (hs : Sees w W) : lnEl.Rd (fun b => b < W.heap.size) W v ls := (h.sees hs).mono (fun b _ hb => Nat.lt_of_lt_of_le hb hs.size)
/-- What Next and Prev answer. -/
def nxt (ls : List Ln) (first : Int) (p : ByteArray) (fold : Bool) (l c : Int) : Mt × Int := if foR ls first p l c = 0 then (nextR (allM ls first p.data.toList fold) l c, noneE (allM ls first p.data.toList fold)) else (zeroMt, foR ls first p l c)
def prv (ls : List Ln) (first : Int) (p : ByteArray) (fold : Bool) (l c : Int) : Mt × Int := if foR ls first p l c = 0 then (prevR (allM ls first p.data.toList fold) l c, noneE (allM ls first p.data.toList fold)) else (zeroMt, foR ls first p l c)
theorem mt_at {F : Nat → Prop} {W : World} {ao : Option Addr} {n c k : Nat} {xs : List Mt} (h : mtEl.Rd F W (.slice ao n c) xs) (hk : k < n) : ∃ b o x, ao = some ⟨b, o, none⟩ ∧ xs[k]? = some x ∧ W.cell? ⟨b, o + k * 4, none⟩ = some (.int .i64 x.l0) ∧ W.cell? ⟨b, o + k * 4 + 1, none⟩ = some (.int .i64 x.c0) ∧ W.cell? ⟨b, o + k * 4 + 2, none⟩ = some (.int .i64 x.l1) ∧ W.cell? ⟨b, o + k * 4 + 3, none⟩ = some (.int .i64 x.c1) := by
  obtain ⟨b, o, x, vs, rfl, _, hx, hvs, hc⟩ := h.at_ hk
  have hvs : vs = [.int .i64 x.l0, .int .i64 x.c0, .int .i64 x.l1, .int .i64 x.c1] := hvs
  subst hvs
  exact ⟨b, o, x, rfl, hx, hc 0 _ rfl, hc 1 _ rfl, hc 2 _ rfl, hc 3 _ rfl⟩
section
variable {w : World} {a : Option Addr} {n cp : Nat} {ls : List Ln} {first : Int} {p : ByteArray}
set_option maxHeartbeats 2000000 in
theorem next_any (hst : Std w) (ht : Tabs w) (ha : lnEl.Rd (fun b => b < w.heap.size) w (.slice a n cp) ls) (hn : ls.length ≤ 1000000) (hc : ∀ x ∈ ls, x.cells.length ≤ 1000000) (hp : p.size ≤ 1000000000) (fold : Bool) (l c : Int) :
    Calls Tryd.prog 27 #[.slice a n cp, .int .i64 first, .string p, .bool fold, .agg #[.int .i64 l, .int .i64 c]] w fun e w' => e = .returned (.tuple #[(nxt ls first p fold l c).1.val, .int .i64 (nxt ls first p fold l c).2]) ∧ Sees w w' := by
  by_cases h : foR ls first p l c = 0
  · have e : nxt ls first p fold l c = (nextR (allM ls first p.data.toList fold) l c, noneE (allM ls first p.data.toList fold)) := if_pos h
    rw [e]
    exact next_ok hst ht ha fold l c h
  · have e : nxt ls first p fold l c = (zeroMt, foR ls first p l c) := if_neg h
    rw [e]
    exact next_err ht ha hn hc hp fold l c _ rfl h
set_option maxHeartbeats 4000000 in
theorem nexts_any (hst : Std w) (ht : Tabs w) (ha : lnEl.Rd (fun b => b < w.heap.size) w (.slice a n cp) ls) (hn : ls.length ≤ 1000000) (hc : ∀ x ∈ ls, x.cells.length ≤ 1000000) (hp : p.size ≤ 1000000000) (fold : Bool) (l c : Int) (m : Mt) (k : Int) (hm : nxt ls first p fold l c = (m, k)) :
    Calls Tryd.prog 14 #[.slice a n cp, .int .i64 first, .string p, .bool fold, .agg #[.int .i64 l, .int .i64 c], .agg #[.int .i64 m.l0, .int .i64 m.c0, .int .i64 m.l1, .int .i64 m.c1], .int .i64 k] w fun e w' => e = .returned (.bool true) ∧ Sees w w' := by
  have K := Lib.hid (fun W (hs : Sees w W) => by have q := next_any (first := first) (p := p) (hst.sees hs) (ht.sees hs) (rd_up ha hs) hn hc hp fold l c; rw [hm] at q; exact q)
  clear hst ht ha hm
  go_enter Tryd.func14, Tryd.ntmps14
  go_wp2_with fail
  refine calls_world fun W1 hW1 => ?_
  have s1 : Sees w W1 := by subst hW1; exact ((Sees.refl w).alloc _).alloc _
  have h1 : MtAt W1 (w.heap.size + 1) m := by
    subst hW1
    have q := heap_alloc_new (w.alloc (.cells #[.int .i64 l, .int .i64 c] 32)) (.cells #[.int .i64 m.l0, .int .i64 m.c0, .int .i64 m.l1, .int .i64 m.c1] 35)
    rw [World.size_alloc] at q
    exact q
  clear hW1
  refine (K.out W1 s1).mono ?_
  rintro e W2 ⟨rfl, s2⟩
  have hmv : Mt.val m = .agg #[.int .i64 m.l0, .int .i64 m.c0, .int .i64 m.l1, .int .i64 m.c1] := rfl
  show (_ : Prop)
  dsimp only
  rw [hmv]
  clear hmv
  go_upto_region 2 with fail
  refine wp_world fun W3 hW3 => ?_
  have r3 : MtAt W3 W2.heap.size m ∧ MtAt W3 (w.heap.size + 1) m ∧ Sees w W3 := by subst hW3; exact ⟨heap_alloc_new W2 _, (h1.sees s2).sees ((Sees.refl _).alloc _), (s1.trans s2).alloc _⟩
  obtain ⟨m0, m1, m2, m3⟩ := r3.1.c
  obtain ⟨n0, n1, n2, n3⟩ := r3.2.1.c
  have S2 := Lib.hid r3.2.2
  clear s1 s2 h1 K hW3 r3
  go_wp2
  go_ret
  exact ⟨rfl, S2.out⟩
set_option maxHeartbeats 2000000 in
theorem prev_any (hst : Std w) (ht : Tabs w) (ha : lnEl.Rd (fun b => b < w.heap.size) w (.slice a n cp) ls) (hn : ls.length ≤ 1000000) (hc : ∀ x ∈ ls, x.cells.length ≤ 1000000) (hp : p.size ≤ 1000000000) (fold : Bool) (l c : Int) :
    Calls Tryd.prog 28 #[.slice a n cp, .int .i64 first, .string p, .bool fold, .agg #[.int .i64 l, .int .i64 c]] w fun e w' => e = .returned (.tuple #[(prv ls first p fold l c).1.val, .int .i64 (prv ls first p fold l c).2]) ∧ Sees w w' := by
  by_cases h : foR ls first p l c = 0
  · have e : prv ls first p fold l c = (prevR (allM ls first p.data.toList fold) l c, noneE (allM ls first p.data.toList fold)) := if_pos h
    rw [e]
    exact prev_ok hst ht ha fold l c h
  · have e : prv ls first p fold l c = (zeroMt, foR ls first p l c) := if_neg h
    rw [e]
    exact prev_err ht ha hn hc hp fold l c _ rfl h
set_option maxHeartbeats 4000000 in
theorem prevs_any (hst : Std w) (ht : Tabs w) (ha : lnEl.Rd (fun b => b < w.heap.size) w (.slice a n cp) ls) (hn : ls.length ≤ 1000000) (hc : ∀ x ∈ ls, x.cells.length ≤ 1000000) (hp : p.size ≤ 1000000000) (fold : Bool) (l c : Int) (m : Mt) (k : Int) (hm : prv ls first p fold l c = (m, k)) :
    Calls Tryd.prog 15 #[.slice a n cp, .int .i64 first, .string p, .bool fold, .agg #[.int .i64 l, .int .i64 c], .agg #[.int .i64 m.l0, .int .i64 m.c0, .int .i64 m.l1, .int .i64 m.c1], .int .i64 k] w fun e w' => e = .returned (.bool true) ∧ Sees w w' := by
  have K := Lib.hid (fun W (hs : Sees w W) => by have q := prev_any (first := first) (p := p) (hst.sees hs) (ht.sees hs) (rd_up ha hs) hn hc hp fold l c; rw [hm] at q; exact q)
  clear hst ht ha hm
  go_enter Tryd.func15, Tryd.ntmps15
  go_wp2_with fail
  refine calls_world fun W1 hW1 => ?_
  have s1 : Sees w W1 := by subst hW1; exact ((Sees.refl w).alloc _).alloc _
  have h1 : MtAt W1 (w.heap.size + 1) m := by
    subst hW1
    have q := heap_alloc_new (w.alloc (.cells #[.int .i64 l, .int .i64 c] 32)) (.cells #[.int .i64 m.l0, .int .i64 m.c0, .int .i64 m.l1, .int .i64 m.c1] 35)
    rw [World.size_alloc] at q
    exact q
  clear hW1
  refine (K.out W1 s1).mono ?_
  rintro e W2 ⟨rfl, s2⟩
  have hmv : Mt.val m = .agg #[.int .i64 m.l0, .int .i64 m.c0, .int .i64 m.l1, .int .i64 m.c1] := rfl
  show (_ : Prop)
  dsimp only
  rw [hmv]
  clear hmv
  go_upto_region 2 with fail
  refine wp_world fun W3 hW3 => ?_
  have r3 : MtAt W3 W2.heap.size m ∧ MtAt W3 (w.heap.size + 1) m ∧ Sees w W3 := by subst hW3; exact ⟨heap_alloc_new W2 _, (h1.sees s2).sees ((Sees.refl _).alloc _), (s1.trans s2).alloc _⟩
  obtain ⟨m0, m1, m2, m3⟩ := r3.1.c
  obtain ⟨n0, n1, n2, n3⟩ := r3.2.1.c
  have S2 := Lib.hid r3.2.2
  clear s1 s2 h1 K hW3 r3
  go_wp2
  go_ret
  exact ⟨rfl, S2.out⟩
set_option maxHeartbeats 4000000 in
theorem alls_no (ht : Tabs w) (ha : lnEl.Rd (fun b => b < w.heap.size) w (.slice a n cp) ls) (hn : ls.length ≤ 1000000) (hc : ∀ x ∈ ls, x.cells.length ≤ 1000000) (hp : p.size ≤ 1000000000) (fold : Bool) (h : ckR ls first p = 2) :
    Calls Tryd.prog 12 #[.slice a n cp, .int .i64 first, .string p, .bool fold, .slice none 0 0, .int .i64 2] w fun e w' => e = .returned (.bool true) ∧ Sees w w' := by
  have KA := Lib.hid (fun W (hs : Sees w W) => all_err (first := first) (p := p) (ht.sees hs) (rd_up ha hs) hn hc hp fold h)
  have KC := Lib.hid (fun W (hs : Sees w W) => count_err (first := first) (p := p) (ht.sees hs) (rd_up ha hs) hn hc hp fold h)
  clear ht ha h
  have s0 := Sees.refl w
  go_enter Tryd.func12, Tryd.ntmps12
  go_wp2_with fail
  refine (KA.out _ s0).mono ?_
  rintro e W1 ⟨rfl, s1⟩
  go_wp2_with fail
  refine (KC.out _ s1).mono ?_
  rintro e W2 ⟨rfl, s2⟩
  have S2 := Lib.hid (s1.trans s2)
  clear s1 s2
  go_wp2
  go_loopw [17] (fun i wr => i = .int .i64 0 ∧ wr = W2) (fun _ _ => 0)
  case atStart => exact ⟨rfl, rfl⟩
  case round =>
    obtain ⟨rfl, rfl⟩ := hrel
    go_wp2
    go_ret
    exact ⟨rfl, S2.out⟩
set_option maxHeartbeats 4000000 in
set_option maxRecDepth 100000 in
theorem alls_ok (hst : Std w) (ht : Tabs w) (ha : lnEl.Rd (fun b => b < w.heap.size) w (.slice a n cp) ls) (fold : Bool) (h : ckR ls first p = 0) {v : Value} {ms : List Mt} (hv : mtEl.Rd (fun b => b < w.heap.size) w v ms) (hms : ms = allM ls first p.data.toList fold) (hl : ms.length ≤ 10000) :
    Calls Tryd.prog 12 #[.slice a n cp, .int .i64 first, .string p, .bool fold, v, .int .i64 0] w fun e w' => e = .returned (.bool true) ∧ Sees w w' := by
  have KA := Lib.hid (fun W (hs : Sees w W) => by have q := sall_ok (first := first) (p := p) (hst.sees hs) (ht.sees hs) (rd_up ha hs) fold h; rw [← hms, List.take_of_length_le hl] at q; exact q)
  have KC := Lib.hid (fun W (hs : Sees w W) => count_ok (first := first) (p := p) (hst.sees hs) (ht.sees hs) (rd_up ha hs) fold h ms.length (by rw [hms]) (by omega))
  obtain ⟨av, cv, rfl⟩ := hv.slice
  have HV := Lib.hid hv
  have HL := Lib.hid hl
  clear hst ht ha h hms hv hl
  have s0 := Sees.refl w
  go_enter Tryd.func12, Tryd.ntmps12
  go_wp2_with fail
  refine (KA.out _ s0).mono ?_
  rintro e W1 ⟨v1, rfl, ho, s1⟩
  obtain ⟨a1, c1, rfl, _⟩ := ho.slice
  have HO := Lib.hid ho
  clear ho
  go_wp2_with fail
  refine (KC.out _ s1).mono ?_
  rintro e W2 ⟨rfl, s2⟩
  have S2 := Lib.hid (s1.trans s2)
  have HV2 := Lib.hid (HV.out.sees S2.out)
  have HO2 := Lib.hid (HO.out.sees s2).rd
  clear s1 s2
  generalize ms.length = N at *
  have hN : N ≤ 10000 := HL.out
  clear HL HV HO KA KC s0
  go_wp2
  go_loopw [17] (fun i wr => ∃ k : Nat, k ≤ N ∧ i = .int .i64 k ∧ Sees W2 wr) (fun i _ => N - (intOf i).toNat)
  case atStart => exact ⟨0, by omega, rfl, Sees.refl _⟩
  case round =>
    obtain ⟨k, hk, rfl, hS⟩ := hrel
    by_cases hlt : k < N
    · as_aux_lemma =>
      have k1 : (k : Int) < N := by omega
      obtain ⟨b1, o1, x, rfl, hx, p0, p1, p2, p3⟩ := mt_at (HO2.out.sees hS) hlt
      obtain ⟨b2, o2, y, rfl, hy, q0, q1, q2, q3⟩ := mt_at (HV2.out.sees hS) hlt
      have exy : y = x := by rw [hx] at hy; exact (Option.some.inj hy).symm
      subst exy
      have HSS := Lib.hid hS
      have gp0 := fun d os => (sees_grow wr d os).cell p0
      have gp1 := fun d os => (sees_grow wr d os).cell p1
      have gp2 := fun d os => (sees_grow wr d os).cell p2
      have gp3 := fun d os => (sees_grow wr d os).cell p3
      have gq0 := fun d os => (sees_grow wr d os).cell q0
      have gq1 := fun d os => (sees_grow wr d os).cell q1
      have gq2 := fun d os => (sees_grow wr d os).cell q2
      have gq3 := fun d os => (sees_grow wr d os).cell q3
      clear hx hy hS p0 p1 p2 p3 q0 q1 q2 q3
      go_wp2
      refine wp_region_quiet_below (by kernel_rfl) (by kernel_rfl) ?_
      repeat (first | go_big_quiet_skip | (go_big_quiet_want; go_big_quiet_op; go_big_quiet_on))
      refine wpQuiet_nil ?_; intro w2 hw2'; have hw2 := regrown_sees hw2'; clear hw2'
      go_wp2
      refine ⟨⟨k + 1, by omega, by go_num, HSS.out.trans hw2⟩, by simp [intOf]; omega⟩
    · obtain rfl : k = N := by omega
      go_wp2
      go_ret
      exact ⟨rfl, S2.out.trans hS⟩
end
end Go.Proofs.YtohiigmlkhpneaaDoor
