/- The theorem of stage 8: RingHolds. No condition. -/
import Derived.Test.YtfeoejpbmpdkaaaDoorRiQ
import Derived.Test.YtfeoejpbmpdkaaaDoorThere
import Derived.Maps.OwnSet
import Derived.BigQuiet
import Derived.Deep.QuietTactic
import Derived.Deep.CutRange
import Derived.Deep.CutBlock
namespace Go.Proofs.YtfeoejpbmpdkaaaDoor
set_option linter.unusedVariables false
set_option linter.unusedSimpArgs false
open Go.RowKit
open Go.Maps (Keyed)

theorem uni80_all : ((List.range 80).all fun k => lnOk [one (1024 + (k : Nat))]) = true := by kernel_rfl
theorem uni80_ok (k : Nat) (h : k < 80) : lnOk [one (1024 + (k : Int))] = true := by
  have h1 := uni80_all
  rw [List.all_eq_true] at h1
  exact h1 k (List.mem_range.2 h)

theorem same2_true (v u : Value) (n : Nat) (l : Ln) (w : World) (hn0 : n = l.cells.length) (h1 : RdCells w v l.cells) (h2 : RdCells w u l.cells) (hn : n ≤ 1000000) :
    Calls Tryd.prog 22 #[.agg #[v, .bool l.soft], .agg #[u, .bool l.soft]] w fun e w' => e = .returned (.bool true) ∧ Sees w w' := by
  have h := sameLine_any v u l l w h1 h2 (by omega)
  rw [decide_eq_true (rfl : l = l)] at h
  exact h
/-- How a line in a map reads: as it is. -/
def RV (v : Value) : Option (DataW Value × List MemPlace) := some (.held v, [])
def zLn : Value := .agg #[.slice none 0 0, .bool false]
abbrev LMap (W : World) (b n : Nat) (D : DataW Value) : Prop := W.ownsMap Tryd.prog 3 RV b n D
theorem LMap.block {W W' : World} {b n : Nat} {D : DataW Value} (h : LMap W b n D) (hb : W'.heap[b]? = W.heap[b]?) : LMap W' b n D := by
  obtain ⟨es, clock, h1, h2⟩ := h
  exact ⟨es, clock, hb.trans h1, h2⟩
theorem LMap.sees {W W' : World} {b n : Nat} {D : DataW Value} (h : LMap W b n D) (hs : Sees W W') : LMap W' b n D := h.block (hs.block b h.lt)
theorem LMap.keeps {W W' : World} {F : Nat → Prop} {b n : Nat} {D : DataW Value} (h : LMap W b n D) (hk : Keeps F W W') (hF : ¬ F b) : LMap W' b n D := h.block (hk.block b h.lt hF)
theorem i64_wf {k : Int} (h : 0 ≤ k ∧ k ≤ 1000000000) : (Lit.int .i64 k).wf = true := by
  simp [Lit.wf, IntKind.min, IntKind.max, IntKind.signed, IntKind.bits]; omega
theorem zero_line (w : World) : (zeroValue 31).run Tryd.prog w = .ok zLn w := by kernel_rfl
theorem LMap.look {W : World} {b n : Nat} {D : DataW Value} (h : LMap W b n D) {k : Int} (hk : 0 ≤ k ∧ k ≤ 1000000000) {v : Value} (hv : D.atKey (.int .i64 k) (.held zLn) = .held v) :
    (Instr.lookup 70 (.map (some b)) (.int .i64 k) false).run Tryd.prog W = .ok v W := by
  obtain ⟨v', ps, h1, h2⟩ := h.lookup (Go.Maps.int_keyed Tryd.underlying3) Tryd.underlying70 (zero_line W) (zd := .held zLn) (zp := []) rfl (Go.Maps.keyOf_int_mk Tryd.underlying3 (i64_wf hk))
  rw [hv] at h2
  unfold RV at h2
  simp only [Option.some.injEq, Prod.mk.injEq, DataW.held.injEq] at h2
  rw [h1, h2.1]
theorem LMap.put {W : World} {b n : Nat} {D : DataW Value} (h : LMap W b n D) (hn : n ≤ 1000) {k : Int} (hk : 0 ≤ k ∧ k ≤ 1000000000) (v : Value) :
    ∃ W', (Instr.mapUpdate 70 (.map (some b)) (.int .i64 k) v).run Tryd.prog W = .ok () W' ∧ LMap W' b (n + 1) (D.put (.int .i64 k) (.held v)) ∧ Keeps (fun c => c = b) W W' := by
  obtain ⟨W', h1, h2, h3⟩ := h.update (Go.Maps.int_keyed Tryd.underlying3) Tryd.underlying70 (by unfold maxLen; omega) (d := .held v) (ps := []) (Go.Maps.keyOf_int_mk Tryd.underlying3 (i64_wf hk)) rfl
  exact ⟨W', h1, h2, ⟨h3.os, h3.tape, h3.output, h3.size, fun c hc hne => h3.block c hc (fun e => hne (by cases e; rfl))⟩⟩

/-- The map has the lines of a ring, by their numbers. -/
def MapHas (F : Nat → Prop) (W : World) (D : DataW Value) (first : Int) (ls : List Ln) : Prop :=
  ∀ (i : Nat) l, ls[i]? = some l → ∃ a c, D.atKey (.int .i64 (first + i)) (.held zLn) = .held (.agg #[.slice a l.cells.length c, .bool l.soft]) ∧ RdC (fun b => ¬ F b) W (.slice a l.cells.length c) l.cells
namespace MapHas
variable {F G : Nat → Prop} {W W' : World} {D : DataW Value} {first : Int} {ls : List Ln}
theorem nil (first : Int) : MapHas F W D first [] := fun i l h => by cases h
theorem sees (h : MapHas F W D first ls) (hs : Sees W W') : MapHas F W' D first ls := fun i l hl => by
  obtain ⟨a, c, h1, h2⟩ := h i l hl
  exact ⟨a, c, h1, h2.sees hs⟩
theorem keeps (h : MapHas F W D first ls) (hk : Keeps G W W') (hF : ∀ b, b < W.heap.size → ¬ F b → ¬ G b) : MapHas F W' D first ls := fun i l hl => by
  obtain ⟨a, c, h1, h2⟩ := h i l hl
  exact ⟨a, c, h1, ((h2.mono (G := fun b => ¬ F b ∧ b < W.heap.size) (fun b hb h => ⟨h, hb⟩)).keeps hk (fun b hb => hF b hb.2 hb.1)).mono (fun b _ hb => hb.1)⟩
theorem mono (h : MapHas F W D first ls) (hFG : ∀ b, b < W.heap.size → ¬ F b → ¬ G b) : MapHas G W D first ls := fun i l hl => by
  obtain ⟨a, c, h1, h2⟩ := h i l hl
  exact ⟨a, c, h1, h2.mono hFG⟩
theorem drop (h : MapHas F W D first ls) (k : Nat) : MapHas F W D (first + k) (ls.drop k) := fun i l hl => by
  rw [List.getElem?_drop] at hl
  obtain ⟨a, c, h1, h2⟩ := h (k + i) l hl
  refine ⟨a, c, ?_, h2⟩
  rw [← h1]
  congr 2
  omega
theorem left {ls2 : List Ln} (h : MapHas F W D first (ls ++ ls2)) : MapHas F W D first ls := fun i l hl => h i l (by rw [List.getElem?_append_left (List.getElem?_eq_some_iff.1 hl).1]; exact hl)
theorem put (h : MapHas F W D first ls) (hD : Go.Maps.IsMap D) (l : Ln) (a : Option Addr) (c : Nat) (hv : RdC (fun b => ¬ F b) W (.slice a l.cells.length c) l.cells) (n : Int) (hn : first + ls.length = n) :
    MapHas F W (D.put (.int .i64 n) (.held (.agg #[.slice a l.cells.length c, .bool l.soft]))) first (ls ++ [l]) := fun i x hx => by
  have hi := (List.getElem?_eq_some_iff.1 hx).1
  rw [List.length_append, List.length_cons, List.length_nil] at hi
  by_cases hlt : i < ls.length
  · rw [List.getElem?_append_left hlt] at hx
    obtain ⟨a', c', h1, h2⟩ := h i x hx
    refine ⟨a', c', ?_, h2⟩
    rw [Go.Maps.atKey_put_other (by simp only [ne_eq, Lit.int.injEq, true_and]; omega)]
    exact h1
  · obtain rfl : i = ls.length := by omega
    rw [List.getElem?_append_right (Nat.le_refl _), Nat.sub_self] at hx
    cases hx
    refine ⟨a, c, ?_, hv⟩
    rw [hn]
    exact Go.Maps.atKey_put_same hD (show Go.WideAt.IsKeyLit (.int .i64 n) from trivial) _ _
end MapHas

/-- What stands at the head of a round. -/
def HoldG (w : World) (r mb page k : Nat) (lim : Int) (W : World) : Prop :=
  ∃ (F : Nat → Prop) (first : Int) (ls : List Ln) (g : List (Int × Nat)) (n : Nat) (D : DataW Value), RgF w F W r lim page first ls g ∧ (∀ b, F b → b < W.heap.size) ∧ ¬ F mb ∧ w.heap.size ≤ mb ∧ Tight page g ∧ first + ls.length ≤ k ∧ n ≤ k ∧ lim ≤ 20 ∧
    LMap W mb n D ∧ MapHas (fun b => F b ∨ b = mb) W D first ls

theorem HoldG.see {w : World} {r mb page k : Nat} {lim : Int} {W : World} (h : HoldG w r mb page k lim W) : Sees w W := by obtain ⟨F, first, ls, g, n, D, hP, _⟩ := h; exact hP.see
theorem holdG_mk {w : World} {r mb page k : Nat} {lim : Int} {W : World} {F : Nat → Prop} {first : Int} {ls : List Ln} {g : List (Int × Nat)} {n : Nat} {D : DataW Value} (h : RgF w F W r lim page first ls g) (h2 : ¬ F mb) (h3 : w.heap.size ≤ mb) (h4 : Tight page g) (h5 : first + ls.length ≤ k) (h6 : n ≤ k) (h7 : lim ≤ 20) (h8 : LMap W mb n D) (h9 : MapHas (fun b => F b ∨ b = mb) W D first ls) : HoldG w r mb page k lim W :=
  ⟨fun b => F b ∧ b < W.heap.size, first, ls, g, n, D, h.mono (fun b hb hF => ⟨hF, hb⟩) (fun b hb => h.low b hb.1), fun b hb => hb.2, fun e => h2 e.1, h3, h4, h5, h6, h7, h8, h9.mono (fun b hb hF e => hF (e.imp And.left id))⟩

set_option maxRecDepth 1000000 in
set_option maxHeartbeats 4000000 in
theorem ringHolds_out (a c : Int) (v : Value) (bs : List Int) (w : World) (ht : Tabs w) (hv : RdBs w v bs) (h : decide (a > 20) = true ∨ (decide (a > 20) = false ∧ decide (c < 1) = true) ∨ (decide (a > 20) = false ∧ decide (c < 1) = false ∧ decide (c > 6) = true) ∨ (decide (a > 20) = false ∧ decide (c < 1) = false ∧ decide (c > 6) = false ∧ decide ((bs.length : Int) > 80) = true)) :
    Calls Tryd.prog 8 #[.int .u8 a, .int .u8 c, v] w fun e w' => e = .returned (.bool true) ∧ Sees w w' := by
  have Ht := Lib.hid ht
  obtain ⟨ao, cap, rfl, _⟩ := hv
  clear ht
  rcases h with h1 | ⟨h1, h2⟩ | ⟨h1, h2, h3⟩ | ⟨h1, h2, h3, h4⟩
  all_goals
    go_enter Tryd.func8, Tryd.ntmps8
    go_wp2_with fail
    refine (known08 w Ht.out).mono ?_
    rintro e w1 ⟨rfl, hs⟩
    go_wp2
    go_ret
    exact ⟨rfl, hs⟩

set_option maxRecDepth 1000000 in
set_option maxHeartbeats 8000000 in
theorem ringHolds_in (mo pg : Nat) (v : Value) (bs : List Int) (w : World) (ht : Tabs w) (hv : RdBs w v bs) (h0 : mo ≤ 20) (h1 : 1 ≤ pg) (h2 : pg ≤ 6) (h3 : bs.length ≤ 80) :
    Calls Tryd.prog 8 #[.int .u8 mo, .int .u8 pg, v] w fun e w' => e = .returned (.bool true) ∧ Sees w w' := by
  have Ht := Lib.hid ht
  have Hv := Lib.hid hv
  obtain ⟨ao, cap, rfl, hb⟩ := hv
  have Hb := Lib.hid hb
  clear ht hb
  have d1 : decide ((mo : Int) > 20) = false := decide_eq_false (by omega)
  have d2 : decide ((pg : Int) < 1) = false := decide_eq_false (by omega)
  have d3 : decide ((pg : Int) > 6) = false := decide_eq_false (by omega)
  have d4 : decide ((bs.length : Int) > 80) = false := decide_eq_false (by omega)
  obtain ⟨m, hm⟩ : ∃ m, m = bs.length := ⟨_, rfl⟩
  rw [← hm] at d4 h3 ⊢
  have Hm := Lib.hid hm
  clear hm
  have hmm := @run_makeMap Tryd.prog
  go_enter Tryd.func8, Tryd.ntmps8
  go_wp2_with fail
  refine (new_rg (mo : Int) (pg : Int) w (by omega) (by omega) (by omega) (by omega)).mono ?_
  rintro e w1 ⟨rfl, P⟩
  have P1 := Lib.hid P
  have hz1 : w.heap.size < w1.heap.size := by obtain ⟨_, _, h⟩ := P.words; exact h.lt
  clear P
  go_wp2_with fail
  clear hmm
  refine wp_world (fun w2 hw2 => ?_)
  have P2 := Lib.hid (show RgF w (fun b => b = w.heap.size) w2 w.heap.size mo pg 0 [] [] by subst hw2; exact P1.out.sees ((Sees.refl w1).alloc _))
  have M2 := Lib.hid (show LMap w2 w1.heap.size 0 (.map []) by subst hw2; exact World.ownsMap_made _ _ _ _)
  have hz2 : w.heap.size < w2.heap.size := by subst hw2; have : w1.heap.size + 1 = (w1.alloc (Obj.map #[] 0)).heap.size := by simp
                                              omega
  clear hw2 P1
  obtain ⟨mb, hmb⟩ : ∃ mb, mb = w1.heap.size := ⟨_, rfl⟩
  rw [← hmb] at M2 hz1 ⊢
  clear hmb
  go_loopw [10, 54] (fun s10 i W => ∃ k : Nat, k ≤ m ∧ i = .int .i64 k ∧ ∃ lim : Nat, s10 = .int .i64 lim ∧ HoldG w w.heap.size mb pg k lim W) (fun _ i _ => m - (intOf i).toNat)
  case atStart => exact ⟨0, by omega, rfl, mo, rfl, _, 0, [], [], 0, .map [], P2.out, fun b e => by omega, fun e => by omega, by omega, trivial, by simp, Nat.le_refl _, by omega, M2.out, MapHas.nil _⟩
  case round =>
    obtain ⟨k, hk, rfl, lim, rfl, hH⟩ := hrel
    have HH := Lib.hid hH
    clear hH P2 M2
    by_cases hlt : k < m
    · obtain ⟨z, hz⟩ : ∃ z, bs[k]? = some z := ⟨_, List.getElem?_eq_getElem (by rw [← Hm.out]; exact hlt)⟩
      obtain ⟨bb, bo, rfl, q0, q1, q2⟩ := Hb.out k z hz
      have Q0 := Lib.hid q0
      have hSee : Sees w wr := by obtain ⟨F, first, ls, g, n, D, hP, _⟩ := HH.out; exact hP.see
      have q0 := hSee.cell q0
      clear hz hSee
      go_upto_block 2 with fail
      go_cut [10, 13, 14, 15, 16, 17] from 59 to 126 (fun s10 s13 s14 s15 s16 s17 wx => ∃ lim2 : Nat, s10 = .int .i64 lim2 ∧ HoldG w w.heap.size mb pg (k + 1) lim2 wx)
      case first =>
        obtain ⟨F, first, ls, g, n, D, hP, hF, hmb, hmw, hT, hfk, hnk, hl20, hM, hth⟩ := HH.out
        have fa := hP.facts
        have HP := Lib.hid hP
        have HF := Lib.hid hF
        have Hmb := Lib.hid hmb
        have HTi := Lib.hid hT
        have HM := Lib.hid hM
        have HTh := Lib.hid hth
        have hf0 := fa.2.2.2.2.1
        have hll := fa.2.2.2.2.2.2.1
        clear hP hF hmb hT hM hth HH fa Q0 q0
        obtain ⟨nx, hnx⟩ : ∃ nx : Nat, first + ls.length = nx := Int.eq_ofNat_of_zero_le (by omega)
        have hnk2 : nx ≤ k := by omega
        have Hnx := Lib.hid hnx
        clear hnx
        by_cases h5 : z % 8 = 5
        · have t5 : (z % 8 == 5) = true := beq_iff_eq.2 h5
          clear h5
          rcases ls.eq_nil_or_concat with hls | ⟨l0, l, hls⟩
          · subst hls
            go_wp2_with fail
            refine (HP.out.pop_none).mono ?_
            rintro e W2 ⟨rfl, hs⟩
            have H2 := Lib.hid hs
            clear hs
            go_wp2_with fail
            refine wp_world (fun W3 hW3 => ?_)
            have S3 := Lib.hid (H2.out.trans (show Sees W2 W3 by subst hW3; exact (Sees.refl W2).alloc _))
            have A3 : LnAt W3 W2.heap.size (.slice none 0 0) false := by subst hW3; exact LnAt.new rfl
            have t9 : ((9 : Int) == 0) = false := by decide
            obtain ⟨x0, x1⟩ := A3.c
            have g0 := fun d os => (sees_grow W3 d os).cell x0
            have g1 := fun d os => (sees_grow W3 d os).cell x1
            clear hW3 A3 x0 x1
            refine wp_region_quiet_below (by kernel_rfl) (by kernel_rfl) ?_
            repeat (first | go_big_quiet_skip | (go_big_quiet_want; go_big_quiet_op; go_big_quiet_on))
            refine wpQuiet_nil ?_; intro w2 hw2'; have hw2 := regrown_sees hw2'; clear hw2'
            clear g0 g1
            go_wp2_with fail
            go_meet
            exact ⟨lim, rfl, holdG_mk (HP.out.sees (S3.out.trans hw2)) Hmb.out hmw HTi.out (by rw [Hnx.out]; omega) (by omega) hl20 (HM.out.sees (S3.out.trans hw2)) (MapHas.nil _)⟩
          · rw [List.concat_eq_append] at hls
            subst hls
            obtain ⟨ua, uc, hat, hrd⟩ := HTh.out l0.length l (by simp)
            obtain ⟨n0, hn0⟩ : ∃ n0 : Nat, first + l0.length = n0 := Int.eq_ofNat_of_zero_le (by omega)
            rw [hn0] at hat
            have Hat := Lib.hid hat
            have Hrd := Lib.hid hrd
            have Hn0 := Lib.hid hn0
            have hn0k : n0 ≤ k := by have := Hnx.out; simp at this; omega
            have Hlc := Lib.hid (HP.out.lenc l (by simp))
            clear hat hrd hn0
            go_wp2_with fail
            refine (RgF.pop l HP.out).mono ?_
            rintro e W2 ⟨v', rfl, ho, hob, hp, hk2⟩
            obtain ⟨pa, pc, hv'⟩ := ho.slice
            subst hv'
            have H2 := Lib.hid hp
            have Ho2 := Lib.hid ho.rd
            have M2 := Lib.hid (HM.out.keeps hk2 Hmb.out)
            have T2 := Lib.hid (HTh.out.left.keeps hk2 (fun b _ h e => h (.inl e)))
            have R2 := Lib.hid (((Hrd.out.mono (G := fun b => ¬ F b) (fun b _ h e => h (.inl e))).keeps hk2 (fun b h => h)).rd)
            obtain ⟨pn, hpn⟩ : ∃ pn, pn = l.cells.length := ⟨_, rfl⟩
            clear hp ho hk2 hob
            rw [← hpn] at Ho2 H2 R2 Hat Hlc ⊢
            have Hpn := Lib.hid hpn
            clear hpn
            go_wp2_with fail
            refine wp_world (fun W3 hW3 => ?_)
            have S3 := Lib.hid (show Sees W2 W3 by subst hW3; exact (Sees.refl W2).alloc _)
            have A3 : LnAt W3 W2.heap.size (.slice pa pn pc) l.soft := by subst hW3; exact LnAt.new rfl
            obtain ⟨x0, x1⟩ := A3.c
            have g0 := fun d os => (sees_grow W3 d os).cell x0
            have g1 := fun d os => (sees_grow W3 d os).cell x1
            have hlk := fun d os => ((M2.out.sees S3.out).sees (sees_grow W3 d os)).look (k := (n0 : Int)) (by omega) Hat.out
            have t9 : ((0 : Int) == 0) = true := by decide
            clear hW3 A3 x0 x1
            refine wp_region_quiet_below (by kernel_rfl) (by kernel_rfl) ?_
            repeat (first | go_big_quiet_skip | (go_big_quiet_want; go_big_quiet_op; go_big_quiet_on))
            go_big_quiet_want; go_big_quiet_op; apply Exists.intro; refine ⟨fun p => Calls.regrown_of (((H2.out.sees S3.out).sees (sees_grow _ _ _)).rgnext (n0 : Int) Hn0.out), ?_⟩; go_big_quiet_on
            repeat (first | go_big_quiet_skip | (go_big_quiet_want; go_big_quiet_op; go_big_quiet_on))
            go_big_quiet_want; go_big_quiet_op; apply Exists.intro; refine ⟨fun p => Calls.regrown_of (same2_true _ _ pn l _ Hpn.out (Ho2.out.sees (S3.out.trans (sees_grow _ _ _))) (R2.out.sees (S3.out.trans (sees_grow _ _ _))) Hlc.out), ?_⟩; go_big_quiet_on
            repeat (first | go_big_quiet_skip | (go_big_quiet_want; go_big_quiet_op; go_big_quiet_on))
            refine wpQuiet_nil ?_; intro w2 hw2'; have hw2 := regrown_sees hw2'; clear hw2'
            clear g0 g1 hlk
            go_wp2_with fail
            go_meet
            have hs := S3.out.trans hw2
            exact ⟨lim, rfl, holdG_mk (H2.out.sees hs) (fun e => Hmb.out e.1) hmw HTi.out.popG (by rw [Hn0.out]; omega) (by omega) hl20 (M2.out.sees hs) ((T2.out.sees hs).mono (fun b _ h e => h (e.imp And.left id)))⟩
        · have t5 : (z % 8 == 5) = false := beq_eq_false_iff_ne.2 h5
          by_cases h6 : z % 8 = 6
          · have t6 : (z % 8 == 6) = true := beq_iff_eq.2 h6
            clear h5 h6
            obtain ⟨d, hd⟩ : ∃ d : Nat, z / 8 % 21 = d := Int.eq_ofNat_of_zero_le (Int.emod_nonneg _ (by omega))
            have hd21 : d ≤ 20 := by omega
            go_wp2_with fail
            simp only [hd]
            refine (HP.out.limit (d : Int) (by omega) (by omega) (ls.length - d) (by simp)).mono ?_
            rintro e W2 ⟨rfl, hp, hk2⟩
            have H2 := Lib.hid hp
            have Hmb2 := Lib.hid (show ¬ (F mb ∨ wr.heap.size ≤ mb) by have := HM.out.lt; rintro (h | h); exact Hmb.out h; omega)
            have M2 := Lib.hid (HM.out.keeps hk2 Hmb.out)
            have T2 := Lib.hid ((((HTh.out.mono (G := fun b => (F b ∨ wr.heap.size ≤ b) ∨ b = mb) (fun b hb h e => by rcases e with (e | e) | e; exact h (.inl e); omega; exact h (.inr e))).keeps hk2 (fun b _ h e => h (.inl (.inl e))))).drop (ls.length - d))
            clear hp hk2 hd
            go_wp2_with fail
            go_meet
            exact ⟨d, rfl, holdG_mk H2.out Hmb2.out hmw (HTi.out.dropG _) (by rw [List.length_drop]; have := Hnx.out; omega) (by omega) (by omega) M2.out T2.out⟩
          · have t6 : (z % 8 == 6) = false := beq_eq_false_iff_ne.2 h6
            by_cases h7 : z % 8 = 7 ∧ z / 8 = 0
            · have t7 : (z % 8 == 7) = true := beq_iff_eq.2 h7.1
              have t8 : (z / 8 == 0) = true := beq_iff_eq.2 h7.2
              clear h5 h6 h7
              go_wp2_with fail
              refine (HP.out.clear (nx : Int) Hnx.out).mono ?_
              rintro e W2 ⟨rfl, hp, hk2⟩
              have H2 := Lib.hid hp
              have M2 := Lib.hid (HM.out.keeps hk2 Hmb.out)
              clear hp hk2
              go_wp2_with fail
              refine (H2.out.rglen 0 (by simp)).mono ?_
              rintro e W3 ⟨rfl, hs⟩
              have H3 := Lib.hid (H2.out.sees hs)
              have M3 := Lib.hid (M2.out.sees hs)
              clear hs
              go_wp2_with fail
              go_meet
              exact ⟨lim, rfl, holdG_mk H3.out Hmb.out hmw trivial (by simp; omega) (by omega) hl20 M3.out (MapHas.nil _)⟩
            · have h78 : (z % 8 == 7) = false ∨ ((z % 8 == 7) = true ∧ (z / 8 == 0) = false) := by
                by_cases h : z % 8 = 7
                · exact .inr ⟨beq_iff_eq.2 h, beq_eq_false_iff_ne.2 (fun e => h7 ⟨h, e⟩)⟩
                · exact .inl (beq_eq_false_iff_ne.2 h)
              have HU := Lib.hid (uni80_ok k (by omega))
              clear h5 h6 h7
              rcases h78 with t7 | ⟨t7, t8⟩
              all_goals
                go_wp2_with fail
                refine (rtext_any _ _).mono ?_
                rintro e W2 ⟨v', rfl, ho, hs⟩
                obtain ⟨ta, tc, rfl⟩ := ho.slice
                have Ho := Lib.hid ho
                have S2 := Lib.hid hs
                clear ho hs
                go_wp2_with fail
                refine calls_world (fun W3 hW3 => ?_)
                have A3 := Lib.hid (show LnAt W3 W2.heap.size (.slice ta 1 tc) false by subst hW3; exact LnAt.new rfl)
                have S3 := Lib.hid (show Sees W2 W3 by subst hW3; exact (Sees.refl W2).alloc _)
                clear hW3
                have HR3 := Lib.hid (((Ho.out.sees S3.out).rdc.mono (G := fun b => wr.heap.size ≤ b ∧ b < W3.heap.size) (fun b hb h => ⟨h, hb⟩)))
                have S23 := Lib.hid (S2.out.trans S3.out)
                have hne : ∀ b, wr.heap.size ≤ b ∧ b < W3.heap.size → ¬ F b := fun b h e => by have := HF.out b e; omega
                have Hne := Lib.hid hne
                clear hne
                refine ((HP.out.sees S23.out).push Ht.out (by have := Hnx.out; omega) (.slice ta 1 tc) [one (1024 + (k : Int))] false HR3.out Hne.out HU.out (ls.length + 1 - lim) (by simp) (nx : Int) Hnx.out).mono ?_
                rintro e W4 ⟨rfl, hp, hk4⟩
                have H4 := Lib.hid hp
                have hz23 := S23.out.size
                have hz2 := S2.out.size
                have hz3 := A3.out.lt
                have Hmb4 := Lib.hid (show ¬ (F mb ∨ W3.heap.size ≤ mb) by have := HM.out.lt; rintro (h | h); exact Hmb.out h; omega)
                have M4 := Lib.hid ((HM.out.sees S23.out).keeps hk4 Hmb.out)
                have T4 := Lib.hid ((((HTh.out.sees S23.out).mono (G := fun b => (F b ∨ W3.heap.size ≤ b) ∨ b = mb) (fun b hb h e => by rcases e with (e | e) | e; exact h (.inl e); omega; exact h (.inr e))).keeps hk4 (fun b _ h e => h (.inl (.inl e)))))
                have A4 := Lib.hid (A3.out.keeps hk4 (fun e => by have := HF.out _ e; omega))
                have R4 := Lib.hid ((HR3.out.keeps hk4 Hne.out).mono (G := fun b => ¬ ((F b ∨ W3.heap.size ≤ b) ∨ b = mb)) (fun b _ h e => by have := HM.out.lt; rcases e with (e | e) | e; exact Hne.out b h e; omega; omega))
                have K4 := Lib.hid hk4.size
                have Hfw := Lib.hid (fun b (hb : F b ∨ W3.heap.size ≤ b) => hb)
                clear hp hk4 hz23 hz2 hz3
                go_wp2_with fail
                refine (H4.out.rgnext ((nx : Int) + 1) (by rw [List.length_drop, List.length_append, List.length_cons, List.length_nil]; have := Hnx.out; omega)).mono ?_
                rintro e W5 ⟨rfl, hs⟩
                have H5 := Lib.hid (H4.out.sees hs)
                have M5 := Lib.hid (M4.out.sees hs)
                have T5 := Lib.hid (T4.out.sees hs)
                have R5 := Lib.hid (R4.out.sees hs)
                obtain ⟨x0, x1⟩ := (A4.out.sees hs).c
                obtain ⟨W6, hrun, hM6, hk6⟩ := M5.out.put (by omega) (k := (nx : Int)) (by omega) (.agg #[.slice ta 1 tc, .bool false])
                have M6 := Lib.hid hM6
                have K6 := Lib.hid hk6
                have hsub : IntKind.i64.wrap ((nx : Int) + 1 - 1) = (nx : Int) := by rw [IntWalk.i64_in _ (by omega)]; omega
                clear hs hM6 hk6
                go_wp2_with fail
                go_meet
                refine ⟨lim, rfl, holdG_mk (H5.out.keeps K6.out (fun b hb e => ?_) (fun b e => ?_)) Hmb4.out hmw ((HTi.out.pushG).dropG _) (by rw [List.length_drop, List.length_append, List.length_cons, List.length_nil]; have := Hnx.out; omega) (by omega) hl20 M6.out ?_⟩
                · subst e; exact Hmb4.out hb
                · subst e; exact hmw
                · refine MapHas.drop (MapHas.put ?_ M5.out.isMap (⟨[one (1024 + (k : Int))], false⟩ : Ln) ta tc ?_ (nx : Int) Hnx.out) _
                  · exact T5.out.keeps K6.out (fun b _ h e => h (.inr e))
                  · exact R5.out.keeps K6.out (fun b h e => h (.inr e))
      case rest =>
        obtain ⟨lim2, rfl, F, first, ls, g, n, D, hP, hF, hmb, hmw, hT, hfk, hnk, hl20, hM, hth⟩ := hcut
        have fa := hP.facts
        have hf0 := fa.2.2.2.2.1
        have hll := fa.2.2.2.2.2.2.1
        obtain ⟨f, rfl⟩ : ∃ f : Nat, first = f := Int.eq_ofNat_of_zero_le hf0
        obtain ⟨nl, hnl⟩ : ∃ nl, nl = ls.length := ⟨_, rfl⟩
        rw [← hnl] at hll hfk
        obtain ⟨gn, hgn⟩ : ∃ gn, gn = g.length := ⟨_, rfl⟩
        obtain ⟨q, hq⟩ : ∃ q : Nat, (q : Int) = (lim2 : Int) / pg := ⟨lim2 / pg, by simp⟩
        have hpg : (gn : Int) ≤ q + 2 := by
          rw [hq, hgn]
          exact hT.pages (by omega) hP.sum.2 (by rw [hP.sum.1, ← hnl]; exact hll)
        have hq2 : q ≤ 20 := by
          have : (lim2 : Int) / pg ≤ lim2 := Int.ediv_le_self _ (by omega)
          omega
        have HP := Lib.hid hP
        have HF := Lib.hid hF
        have Hmb := Lib.hid hmb
        have HTi := Lib.hid hT
        have HM := Lib.hid hM
        have HTh := Lib.hid hth
        have HQ := Lib.hid hq
        have HGn := Lib.hid hgn
        have Hnl := Lib.hid hnl
        obtain ⟨N, hN⟩ : ∃ N, N = f + nl := ⟨_, rfl⟩
        have hNk : N ≤ k + 1 := by omega
        have HN := Lib.hid hN
        have e1 : decide ((nl : Int) > (lim2 : Int)) = false := decide_eq_false (by omega)
        have e1' : decide ((lim2 : Int) < (nl : Int)) = false := decide_eq_false (by omega)
        have e1n : decide (lim2 < nl) = false := decide_eq_false (by omega)
        have w1 : IntKind.i64.wrap ((N : Int) - f) = (nl : Int) := by rw [IntWalk.i64_in _ (by omega)]; omega
        have e2 : ((nl : Int) != (nl : Int)) = false := by simp
        have e3 : decide ((gn : Int) > (q : Int) + 2) = false := decide_eq_false (by omega)
        have e3' : decide ((q : Int) + 2 < (gn : Int)) = false := decide_eq_false (by omega)
        have e4 : (lim2 : Int).tdiv pg = (q : Int) := by rw [HQ.out, Int.tdiv_eq_ediv_of_nonneg (by omega)]
        have e5 : IntKind.i64.wrap (q : Int) = (q : Int) := IntWalk.i64_in _ (by omega)
        have e6 : IntKind.i64.wrap ((q : Int) + 2) = (q : Int) + 2 := IntWalk.i64_in _ (by omega)
        clear hP hF hmb hT hM hth HH fa hq hgn hnl hN Q0 q0 hpg
        go_wp2_with fail
        refine wp_region_quiet_below (by kernel_rfl) (by kernel_rfl) ?_
        repeat (first | go_big_quiet_skip | (go_big_quiet_want; go_big_quiet_op; go_big_quiet_on))
        go_big_quiet_want; go_big_quiet_op; apply Exists.intro; refine ⟨fun p => Calls.regrown_of ((HP.out.sees (sees_grow _ _ _)).rglen (nl : Int) (by rw [Hnl.out])), ?_⟩; go_big_quiet_on
        repeat (first | go_big_quiet_skip | (go_big_quiet_want; go_big_quiet_op; go_big_quiet_on))
        go_big_quiet_want; go_big_quiet_op; apply Exists.intro; refine ⟨fun p => Calls.regrown_of ((HP.out.sees (sees_grow _ _ _)).rglen (nl : Int) (by rw [Hnl.out])), ?_⟩; go_big_quiet_on
        repeat (first | go_big_quiet_skip | (go_big_quiet_want; go_big_quiet_op; go_big_quiet_on))
        go_big_quiet_want; go_big_quiet_op; apply Exists.intro; refine ⟨fun p => Calls.regrown_of ((HP.out.sees (sees_grow _ _ _)).rgnext (N : Int) (by rw [← Hnl.out, HN.out]; omega)), ?_⟩; go_big_quiet_on
        repeat (first | go_big_quiet_skip | (go_big_quiet_want; go_big_quiet_op; go_big_quiet_on))
        go_big_quiet_want; go_big_quiet_op; apply Exists.intro; refine ⟨fun p => Calls.regrown_of ((HP.out.sees (sees_grow _ _ _)).rgfirst), ?_⟩; go_big_quiet_on
        repeat (first | go_big_quiet_skip | (go_big_quiet_want; go_big_quiet_op; go_big_quiet_on))
        go_big_quiet_want; go_big_quiet_op; apply Exists.intro; refine ⟨fun p => Calls.regrown_of ((HP.out.sees (sees_grow _ _ _)).rgpages (gn : Int) (by rw [HGn.out])), ?_⟩; go_big_quiet_on
        repeat (first | go_big_quiet_skip | (go_big_quiet_want; go_big_quiet_op; go_big_quiet_on))
        refine wpQuiet_nil ?_; intro w2 hw2'; have hw2 := regrown_sees hw2'; clear hw2'
        have S2 := Lib.hid hw2
        have H2 := Lib.hid (HP.out.sees hw2)
        have M2 := Lib.hid (HM.out.sees hw2)
        have T2 := Lib.hid (HTh.out.sees hw2)
        clear hw2 e1 e1' e1n w1 e2 e3 e3' e4 e5 e6 hq2
        go_wp2_with fail
        refine H2.out.rgfirst.mono ?_
        rintro e W3 ⟨rfl, hs⟩
        have H3 := Lib.hid (H2.out.sees hs)
        have M3 := Lib.hid (M2.out.sees hs)
        have T3 := Lib.hid (T2.out.sees hs)
        have S3 := Lib.hid (S2.out.trans hs)
        clear hs H2 M2 T2
        go_wp2_with fail
        go_loopw [18] (fun s18 W => ∃ j : Nat, f ≤ j ∧ j ≤ N ∧ j ≤ f + 21 ∧ s18 = .int .i64 j ∧ Sees W3 W) (fun s18 _ => N - (intOf s18).toNat)
        case atStart => exact ⟨f, Nat.le_refl _, by have := HN.out; omega, by omega, rfl, Sees.refl _⟩
        case round =>
          obtain ⟨j, hj0, hj1, hj2, rfl, hs⟩ := hrel
          have HS := Lib.hid hs
          clear hs
          go_wp2_with fail
          refine ((H3.out.sees HS.out).rgnext (N : Int) (by rw [← Hnl.out, HN.out]; omega)).mono ?_
          rintro e W4 ⟨rfl, hs⟩
          have S4 := Lib.hid (HS.out.trans hs)
          clear hs
          by_cases hjn : j < N
          · go_wp2_with fail
            refine (H3.out.sees S4.out).rgfirst.mono ?_
            rintro e W5 ⟨rfl, hs⟩
            have S5 := Lib.hid (S4.out.trans hs)
            clear hs
            by_cases hj20 : j ≤ f + 20
            · obtain ⟨i0, hi0⟩ : ∃ i0, i0 = j - f := ⟨_, rfl⟩
              have hlt : i0 < ls.length := by have := HN.out; have := Hnl.out; omega
              obtain ⟨ua, uc, hat, hrd⟩ := T3.out i0 ls[i0] (List.getElem?_eq_getElem hlt)
              have hl := List.getElem?_eq_getElem hlt
              generalize ls[i0] = l at *
              rw [show (f : Int) + i0 = (j : Int) by omega] at hat
              have hlk := (M3.out.sees S5.out).look (k := (j : Int)) (by omega) hat
              have Hrd := Lib.hid (hrd.rd.sees S5.out)
              have Hl := Lib.hid hl
              have Hi0 := Lib.hid hi0
              clear hat hrd hl hi0 hlt
              obtain ⟨n1, hn1⟩ : ∃ n1, n1 = l.cells.length := ⟨_, rfl⟩
              rw [← hn1] at hlk Hrd
              clear hn1
              go_wp2_with fail
              refine ((H3.out.sees S5.out).gets (j : Int) i0 l (by rw [Hi0.out]; omega) Hl.out _ Hrd.out).mono ?_
              rintro e W6 ⟨rfl, hs⟩
              have S6 := Lib.hid (S5.out.trans hs)
              clear hs hlk
              go_wp2
              refine ⟨⟨j + 1, by omega, by omega, by omega, by go_num, S6.out⟩, by simp [intOf] <;> omega⟩
            · go_wp2
              refine ⟨⟨k + 1, by omega, by go_num, lim2, rfl, ?_⟩, by simp [intOf] <;> omega⟩
              exact holdG_mk (H3.out.sees S5.out) Hmb.out hmw HTi.out (by rw [← Hnl.out]; exact hfk) hnk hl20 (M3.out.sees S5.out) (T3.out.sees S5.out)
          · go_wp2
            refine ⟨⟨k + 1, by omega, by go_num, lim2, rfl, ?_⟩, by simp [intOf] <;> omega⟩
            exact holdG_mk (H3.out.sees S4.out) Hmb.out hmw HTi.out (by rw [← Hnl.out]; exact hfk) hnk hl20 (M3.out.sees S4.out) (T3.out.sees S4.out)
    · obtain rfl : k = m := by omega
      have hSee := Lib.hid (show Sees w wr by obtain ⟨F, first, ls, g, n, D, hP, _⟩ := HH.out; exact hP.see)
      go_wp2_with fail
      refine (known08 _ (Ht.out.sees hSee.out)).mono ?_
      rintro e W2 ⟨rfl, hs⟩
      go_wp2
      go_ret
      exact ⟨rfl, hSee.out.trans hs⟩
end Go.Proofs.YtfeoejpbmpdkaaaDoor
