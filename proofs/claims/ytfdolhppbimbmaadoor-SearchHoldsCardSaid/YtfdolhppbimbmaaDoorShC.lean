/- SearchHolds (42): the loop that wraps one logical line elsewhere. No condition. -/
import Derived.Test.YtfdolhppbimbmaaDoorShQ
namespace Go.Proofs.YtfdolhppbimbmaaDoor
set_option linter.unusedVariables false
set_option linter.unusedSimpArgs false
open Go.RowKit Go.Shelf
attribute [local go_sem] Oper.semAt_some

/-- Does a text begin with the region of this number? -/
def startsAt (n : Nat) : Code → Bool
  | .region m _ _ => m == n
  | .seq a _ => startsAt n a
  | .block _ c => startsAt n c
  | _ => false
/-- The loop whose round begins with the region of this number. -/
def loopAt (n : Nat) : Code → Option Code
  | .loop c => match loopAt n c with
    | some x => some x
    | none => if startsAt n c then some (.loop c) else none
  | .seq a b => match loopAt n a with
    | some x => some x
    | none => loopAt n b
  | .block _ c => loopAt n c
  | .scope c => loopAt n c
  | .cond _ a b => match loopAt n a with
    | some x => some x
    | none => loopAt n b
  | _ => none
noncomputable def rowsLoop : Code := ((Tryd.f3.body.bind (loopAt 40)).getD .skip)
set_option maxHeartbeats 16000000 in
set_option maxRecDepth 1000000 in
theorem rows_loop (w wc : World) (C N cT : Nat) (aT : Option Addr) (T : List Cell) (os : List Ln) (hc1 : 1 ≤ C) (hc2 : C ≤ 20) (hTl : N ≤ 220) (HNN : Hid (T.length = N)) (HTOT : Hid ((os ++ wrapRows C (N + 1) T).length ≤ 210)) (s0 s1 s2 s4 s5 s6 s7 s8 s9 s10 s11 s12 s13 s14 s15 s17 s18 s19 s20 s21 s22 s24 s25 s26 s27 s28 s29 s30 s31 s32 s33 s34 s35 s36 s37 s38 s39 s40 s41 s42 s43 s44 s45 s46 s47 s48 s49 s50 s51 s52 s53 s54 s55 s56 s57 s58 s59 s60 s61 s62 s63 s64 s65 s66 s67 s68 s69 s70 s71 s72 s73 s74 s75 s76 s77 s78 s79 s80 s81 s82 s83 s84 s85 s86 s87 s88 s89 s90 s91 s92 s93 s94 s95 s96 s97 s98 s99 s100 s101 s102 s103 s104 s105 s106 s107 s108 s109 s110 s111 s112 s113 s114 s115 s116 s117 s118 s119 s120 s121 s122 s123 s124 s125 s126 s127 s128 s129 s130 s131 s132 s133 s134 s135 s136 s137 s138 s139 s140 s141 s142 s143 s144 s145 s146 s147 s148 s149 s150 s151 s152 s153 s154 s155 s156 s157 s158 s159 s160 s161 s162 s163 s164 s165 s166 s167 s168 s169 s170 s171 s172 s173 s174 s175 s176 s177 s178 s179 s180 s181 s182 s183 s184 s185 s186 s187 s188 s189 s190 s191 s192 s193 s194 s195 s196 s197 s198 s199 s200 s201 s202 s203 s204 s205 s206 s207 s208 s209 s210 s211 s212 s213 s214 s215 s216 s217 s218 s219 s220 s221 s222 s223 s224 s225 s226 s227 s228 s229 s230 s231 s232 s233 s234 s235 s236 s237 s238 s239 s240 s241 s242 s243 s244 s245 s246 s247 s248 s249 s250 s251 s252 s253 s254 s255 s256 s257 s258 s259 s260 s261 s262 s263 s264 s265 s266 s267 s268 s269 s270 s271 s272 s273 s274 s275 s276 s277 s278 s279 s280 s281 s282 s283 s284 s285 s286 s287 s288 s289 s290 s291 s292 s293 s294 s295 s296 s297 s298 s299 s300 s301 s302 s303 s304 : Value) (HS3 : Hid (ShI w T os (.slice aT N cT) s17 wc)) (Q0 : Exit → Act → World → Prop) (hpan : Hid (∀ p d v a W, Q0 (.panic p) (Act.put a (some d) v) W → Q0 (.panic p) a W))
    (hexit : Hid (∀ (v17 v23 v24 v25 v238 v239 v240 v241 v242 v243 v244 v245 v246 v247 v248 v249 v250 v251 v252 v253 v254 v255 v256 v257 v258 v259 v260 v261 v262 v263 v264 v265 v266 v267 v268 v269 v270 v271 v272 v273 v274 v275 v276 v277 v278 v279 v280 v281 v282 v283 v284 v285 v286 v287 : Value) (W : World), ShI w T (os ++ wrapRows C (N + 1) T) (.slice aT N cT) v17 W → Q0 (.exit 8) ⟨List.toArray (s0 :: s1 :: s2 :: Value.int .i64 C :: s4 :: s5 :: s6 :: s7 :: s8 :: s9 :: s10 :: s11 :: s12 :: s13 :: s14 :: s15 :: Value.slice aT N cT :: v17 :: s18 :: s19 :: s20 :: s21 :: s22 :: v23 :: v24 :: v25 :: s26 :: s27 :: s28 :: s29 :: s30 :: s31 :: s32 :: s33 :: s34 :: s35 :: s36 :: s37 :: s38 :: s39 :: s40 :: s41 :: s42 :: s43 :: s44 :: s45 :: s46 :: s47 :: s48 :: s49 :: s50 :: s51 :: s52 :: s53 :: s54 :: s55 :: s56 :: s57 :: s58 :: s59 :: s60 :: s61 :: s62 :: s63 :: s64 :: s65 :: s66 :: s67 :: s68 :: s69 :: s70 :: s71 :: s72 :: s73 :: s74 :: s75 :: s76 :: s77 :: s78 :: s79 :: s80 :: s81 :: s82 :: s83 :: s84 :: s85 :: s86 :: s87 :: s88 :: s89 :: s90 :: s91 :: s92 :: s93 :: s94 :: s95 :: s96 :: s97 :: s98 :: s99 :: s100 :: s101 :: s102 :: s103 :: s104 :: s105 :: s106 :: s107 :: s108 :: s109 :: s110 :: s111 :: s112 :: s113 :: s114 :: s115 :: s116 :: s117 :: s118 :: s119 :: s120 :: s121 :: s122 :: s123 :: s124 :: s125 :: s126 :: s127 :: s128 :: s129 :: s130 :: s131 :: s132 :: s133 :: s134 :: s135 :: s136 :: s137 :: s138 :: s139 :: s140 :: s141 :: s142 :: s143 :: s144 :: s145 :: s146 :: s147 :: s148 :: s149 :: s150 :: s151 :: s152 :: s153 :: s154 :: s155 :: s156 :: s157 :: s158 :: s159 :: s160 :: s161 :: s162 :: s163 :: s164 :: s165 :: s166 :: s167 :: s168 :: s169 :: s170 :: s171 :: s172 :: s173 :: s174 :: s175 :: s176 :: s177 :: s178 :: s179 :: s180 :: s181 :: s182 :: s183 :: s184 :: s185 :: s186 :: s187 :: s188 :: s189 :: s190 :: s191 :: s192 :: s193 :: s194 :: s195 :: s196 :: s197 :: s198 :: s199 :: s200 :: s201 :: s202 :: s203 :: s204 :: s205 :: s206 :: s207 :: s208 :: s209 :: s210 :: s211 :: s212 :: s213 :: s214 :: s215 :: s216 :: s217 :: s218 :: s219 :: s220 :: s221 :: s222 :: s223 :: s224 :: s225 :: s226 :: s227 :: s228 :: s229 :: s230 :: s231 :: s232 :: s233 :: s234 :: s235 :: s236 :: s237 :: v238 :: v239 :: v240 :: v241 :: v242 :: v243 :: v244 :: v245 :: v246 :: v247 :: v248 :: v249 :: v250 :: v251 :: v252 :: v253 :: v254 :: v255 :: v256 :: v257 :: v258 :: v259 :: v260 :: v261 :: v262 :: v263 :: v264 :: v265 :: v266 :: v267 :: v268 :: v269 :: v270 :: v271 :: v272 :: v273 :: v274 :: v275 :: v276 :: v277 :: v278 :: v279 :: v280 :: v281 :: v282 :: v283 :: v284 :: v285 :: v286 :: v287 :: s288 :: s289 :: s290 :: s291 :: s292 :: s293 :: s294 :: s295 :: s296 :: s297 :: s298 :: s299 :: s300 :: s301 :: s302 :: s303 :: s304 :: []), []⟩ W)) :
    Code.wp Tryd.prog rowsLoop Q0 ⟨List.toArray (s0 :: s1 :: s2 :: Value.int .i64 C :: s4 :: s5 :: s6 :: s7 :: s8 :: s9 :: s10 :: s11 :: s12 :: s13 :: s14 :: s15 :: Value.slice aT N cT :: s17 :: s18 :: s19 :: s20 :: s21 :: s22 :: Value.int .i64 0 :: s24 :: s25 :: s26 :: s27 :: s28 :: s29 :: s30 :: s31 :: s32 :: s33 :: s34 :: s35 :: s36 :: s37 :: s38 :: s39 :: s40 :: s41 :: s42 :: s43 :: s44 :: s45 :: s46 :: s47 :: s48 :: s49 :: s50 :: s51 :: s52 :: s53 :: s54 :: s55 :: s56 :: s57 :: s58 :: s59 :: s60 :: s61 :: s62 :: s63 :: s64 :: s65 :: s66 :: s67 :: s68 :: s69 :: s70 :: s71 :: s72 :: s73 :: s74 :: s75 :: s76 :: s77 :: s78 :: s79 :: s80 :: s81 :: s82 :: s83 :: s84 :: s85 :: s86 :: s87 :: s88 :: s89 :: s90 :: s91 :: s92 :: s93 :: s94 :: s95 :: s96 :: s97 :: s98 :: s99 :: s100 :: s101 :: s102 :: s103 :: s104 :: s105 :: s106 :: s107 :: s108 :: s109 :: s110 :: s111 :: s112 :: s113 :: s114 :: s115 :: s116 :: s117 :: s118 :: s119 :: s120 :: s121 :: s122 :: s123 :: s124 :: s125 :: s126 :: s127 :: s128 :: s129 :: s130 :: s131 :: s132 :: s133 :: s134 :: s135 :: s136 :: s137 :: s138 :: s139 :: s140 :: s141 :: s142 :: s143 :: s144 :: s145 :: s146 :: s147 :: s148 :: s149 :: s150 :: s151 :: s152 :: s153 :: s154 :: s155 :: s156 :: s157 :: s158 :: s159 :: s160 :: s161 :: s162 :: s163 :: s164 :: s165 :: s166 :: s167 :: s168 :: s169 :: s170 :: s171 :: s172 :: s173 :: s174 :: s175 :: s176 :: s177 :: s178 :: s179 :: s180 :: s181 :: s182 :: s183 :: s184 :: s185 :: s186 :: s187 :: s188 :: s189 :: s190 :: s191 :: s192 :: s193 :: s194 :: s195 :: s196 :: s197 :: s198 :: s199 :: s200 :: s201 :: s202 :: s203 :: s204 :: s205 :: s206 :: s207 :: s208 :: s209 :: s210 :: s211 :: s212 :: s213 :: s214 :: s215 :: s216 :: s217 :: s218 :: s219 :: s220 :: s221 :: s222 :: s223 :: s224 :: s225 :: s226 :: s227 :: s228 :: s229 :: s230 :: s231 :: s232 :: s233 :: s234 :: s235 :: s236 :: s237 :: s238 :: s239 :: s240 :: s241 :: s242 :: s243 :: s244 :: s245 :: s246 :: s247 :: s248 :: s249 :: s250 :: s251 :: s252 :: s253 :: s254 :: s255 :: s256 :: s257 :: s258 :: s259 :: s260 :: s261 :: s262 :: s263 :: s264 :: s265 :: s266 :: s267 :: s268 :: s269 :: s270 :: s271 :: s272 :: s273 :: s274 :: s275 :: s276 :: s277 :: s278 :: s279 :: s280 :: s281 :: s282 :: s283 :: s284 :: s285 :: s286 :: s287 :: s288 :: s289 :: s290 :: s291 :: s292 :: s293 :: s294 :: s295 :: s296 :: s297 :: s298 :: s299 :: s300 :: s301 :: s302 :: s303 :: s304 :: []), []⟩ wc := by
  conv => arg 2; whnf
  go_loopw [17, 23] (fun vo nn W => ∃ (nq : Nat) (pre : List Ln), nn = .int .i64 nq ∧ nq ≤ N + 20 ∧ Hid (wrapRows C (N + 1) T = pre ++ restW C T nq) ∧ ShI w T (os ++ pre) (.slice aT N cT) vo W) (fun _ nn _ => N + 1 - (intOf nn).toNat)
  case atStart => exact ⟨0, [], rfl, by omega, (by unfold RowKit.Hid; rw [restW_start, HNN.out]; rfl), by rw [List.append_nil]; exact HS3.out⟩
  case round =>
    obtain ⟨nq, pre, rfl, hnq, HR, hS5⟩ := hrel
    have HS5 := Lib.hid hS5
    clear hS5 HS3
    obtain ⟨G, hG⟩ : ∃ G, G = decide (nq = 0 ∨ nq < N) := ⟨_, rfl⟩
    have HG := Lib.hid hG
    clear hG
    go_upto_region 40 with fail
    go_cut [245] from 238 to 245 (fun v245 wx => v245 = .bool G ∧ wx = wr)
    case first =>
      rcases Bool.eq_false_or_eq_true ((nq : Int) == 0) with q1 | q1
      · have hG2 : G = true := by rw [HG.out]; exact decide_eq_true (.inl (by have := beq_iff_eq.1 q1; omega))
        go_wp2_with fail
        go_meet
        exact ⟨by rw [hG2], rfl⟩
      · have hq0 : nq ≠ 0 := by have := beq_eq_false_iff_ne.1 q1; omega
        have hG2 : G = decide (nq < N) := by rw [HG.out]; exact decide_eq_decide.2 (by omega)
        clear hq0
        rcases Nat.lt_or_ge nq N with q2 | q2
        · rw [decide_eq_true q2] at hG2
          go_wp2_with fail
          go_meet
          exact ⟨by rw [hG2], rfl⟩
        · rw [decide_eq_false (by omega)] at hG2
          have q3 : ¬ (nq < N) := by omega
          clear q2
          go_wp2_with fail
          go_meet
          exact ⟨by rw [hG2], rfl⟩
    case rest =>
      obtain ⟨rfl, rfl⟩ := hcut
      cases G
      · have hgo := of_decide_eq_false HG.out.symm
        have hfin : wrapRows C (N + 1) T = pre := by rw [HR.out, restW_end (by rw [HNN.out]; exact hgo), List.append_nil]
        have hz0 := HS5.out
        rw [← hfin] at hz0
        have HZ := Lib.hid hz0
        clear hfin hgo HS5 hz0
        go_wp2_with fail
        exact hexit.out _ _ _ _ _ _ _ _ _ _ _ _ _ _ _ _ _ _ _ _ _ _ _ _ _ _ _ _ _ _ _ _ _ _ _ _ _ _ _ _ _ _ _ _ _ _ _ _ _ _ _ _ _ _ _ HZ.out
      · have hgo := of_decide_eq_true HG.out.symm
        have HGO := Lib.hid hgo
        clear hgo
        obtain ⟨S, hS⟩ : ∃ S, S = decide (nq + C < N) := ⟨_, rfl⟩
        have hSi : decide ((nq : Int) + (C : Int) < (N : Int)) = S := by rw [hS]; exact decide_eq_decide.2 (by omega)
        have hSn : decide (nq + C < N) = S := hS.symm
        have HSS := Lib.hid hS
        clear hS
        go_upto_region 43 with fail
        refine wp_world fun W5 hW5 => ?_
        have Z5 : Hid (LnAt W5 wc.heap.size (.slice none 0 0) S) := by subst hW5; exact LnAt.new rfl
        have S5 : Hid (Sees wc W5) := by subst hW5; exact (Sees.refl _).alloc _
        have hB5 : wc.heap.size < W5.heap.size := Z5.out.lt
        clear hW5 hSi hSn
        generalize wc = V at *
        obtain ⟨B, hB⟩ : ∃ B, B = V.heap.size := ⟨_, rfl⟩
        rw [← hB] at Z5 hB5 ⊢
        have HVB := Lib.hid hB
        clear hB
        go_wp2_with fail
        go_loopw [25] (fun kk W => ∃ (k : Nat) (vz : Value), k ≤ C ∧ kk = .int .i64 k ∧ LnAt W B vz S ∧ cellEl.Own (fun b => B < b) W vz ((fillAt C T nq).take k) ∧ Sees V W) (fun kk _ => C - (intOf kk).toNat)
        case atStart => exact ⟨0, .slice none 0 0, by omega, rfl, Z5.out, by rw [List.take_zero]; exact El.Own.nil _ _, S5.out⟩
        case round =>
          obtain ⟨k, vz, hk, rfl, hz, hzc, hsv⟩ := hrel
          have hfl : ((fillAt C T nq).take k).length = k := by
            unfold fillAt
            rw [List.length_take, List.length_append, List.length_replicate]
            omega
          obtain ⟨az, cz, hvz, _⟩ := hzc.slice
          rw [hfl] at hvz
          subst hvz
          have HFL := Lib.hid hfl
          have HZ := Lib.hid hz
          have HZC := Lib.hid hzc
          have HSV := Lib.hid hsv
          have hBw := hz.lt
          clear hfl hz hzc hsv Z5 S5
          by_cases hkC : k < C
          · have hkCi : (k : Int) < C := by omega
            have HLL : Hid (((fillAt C T nq).take k).length + 1 ≤ 100000000) := by unfold RowKit.Hid; rw [HFL.out]; omega
            rcases Nat.lt_or_ge (nq + k) N with hlt2 | hge
            · obtain ⟨b5, o5, c, rfl, _, hcc, hat0⟩ := HS5.out.c.rd.cell hlt2
              have HFO := Lib.hid (fillAt_one (c := C) hcc)
              have HAT := Lib.hid (hat0.sees HSV.out)
              have hs1 : (nq : Int) + (k : Int) < N := by omega
              have hs2 : (0 : Int) ≤ (nq : Int) + (k : Int) := by omega
              have hs3 : ((nq : Int) + (k : Int)).toNat = nq + k := by omega
              have hs4 : IntKind.i64.wrap ((nq : Int) + (k : Int)) = (nq : Int) + (k : Int) := IntWalk.i64_in _ (by omega)
              clear hcc hat0
              go_upto_region 47 with fail
              refine wpFrom_go (by kernel_rfl) (by kernel_rfl) (fun hRB w9 hw9 => ?_)
              have HZ9 := Lib.hid (HZ.out.sees hw9)
              have HZC9 := Lib.hid (HZC.out.sees hw9)
              have HAT9 := Lib.hid (HAT.out.sees hw9)
              have HSV9 := Lib.hid (HSV.out.trans hw9)
              have hB9 : B < w9.heap.size := HZ9.out.lt
              clear hw9 HZ HZC HAT HSV hBw
              have hst : segStay (Sees w9) [.is (.pointer (some ⟨B, 0, none⟩)), .is (.slice az k cz), .is (.slice (some ⟨b5, o5, none⟩) N cT), .is (.int .i64 nq), .is (.int .i64 k), .is (.int .i64 ((nq : Int) + (k : Int))), .is (.pointer (some ⟨b5, o5 + (nq + k) * 16, none⟩)), .is (.agg #[.int .i32 c.rune, .int .i32 c.m0, .int .i32 c.m1, .int .i32 c.m2, .int .i64 c.width, .int .i64 c.f0, .int .u8 c.f1, .int .u8 c.f2, .int .u8 c.f3, .int .u8 c.f4, .int .i64 c.b0, .int .u8 c.b1, .int .u8 c.b2, .int .u8 c.b3, .int .u8 c.b4, .int .u8 c.flags]), .so (fun x W => ∃ b, x = .slice (some ⟨b, 0, none⟩) 1 1 ∧ W.heap[b]? = some (.cells #[.int .i32 c.rune, .int .i32 c.m0, .int .i32 c.m1, .int .i32 c.m2, .int .i64 c.width, .int .i64 c.f0, .int .u8 c.f1, .int .u8 c.f2, .int .u8 c.f3, .int .u8 c.f4, .int .i64 c.b0, .int .u8 c.b1, .int .u8 c.b2, .int .u8 c.b3, .int .u8 c.b4, .int .u8 c.flags] 46 (0, 0)))] :=
                ⟨fun u W W' _ ⟨b, h1, h2⟩ hs => ⟨b, h1, by rw [hs.block _ (Array.getElem?_eq_some_iff.1 h2).1]; exact h2⟩, trivial⟩
              have hval : ∀ x v, (Spec.is x).val v = x := fun _ _ => rfl
              have hval2 : ∀ V v, (Spec.so V).val v = v := fun _ _ => rfl
              refine wpFrom_any 9 _ hRB (by kernel_rfl) rfl hst (by simp only [List.cons_append, List.nil_append, List.drop_succ_cons, List.drop_zero, List.take_succ_cons, List.take_zero, Nat.reduceSub]; rfl) ?_
              refine ⟨fun vs W hI hV => .inl ⟨by clear hI hV hst; go_simp, .inl (by clear hI hV hst; (try simp only [Act.put, hval, hval2, List.setIfInBounds_toArray, List.set_cons_zero, List.set_cons_succ]); go_simp)⟩, ?_⟩
              refine ⟨fun vs W hI hV => .inl ⟨by clear hI hV hst; go_simp, .inl (by have q1 := (HZ9.out.sees hI).c.1; clear hI hV hst; (try simp only [Act.put, hval, hval2, List.setIfInBounds_toArray, List.set_cons_zero, List.set_cons_succ]); go_simp)⟩, ?_⟩
              refine ⟨fun vs W hI hV => .inl ⟨by clear hI hV hst; go_simp, .inl (by clear hI hV hst; (try simp only [Act.put, hval, hval2, List.setIfInBounds_toArray, List.set_cons_zero, List.set_cons_succ]); go_simp)⟩, ?_⟩
              refine ⟨fun vs W hI hV => .inl ⟨by clear hI hV hst; go_simp, .inl (by clear hI hV hst; (try simp only [Act.put, hval, hval2, List.setIfInBounds_toArray, List.set_cons_zero, List.set_cons_succ]); go_simp)⟩, ?_⟩
              refine ⟨fun vs W hI hV => .inl ⟨by clear hI hV hst; go_simp, .inl (by clear hI hV hst; (try simp only [Act.put, hval, hval2, List.setIfInBounds_toArray, List.set_cons_zero, List.set_cons_succ]); go_simp)⟩, ?_⟩
              refine ⟨fun vs W hI hV => .inl ⟨by clear hI hV hst; go_simp, .inl (by clear hI hV hst; (try simp only [Act.put, hval, hval2, List.setIfInBounds_toArray, List.set_cons_zero, List.set_cons_succ]); go_simp)⟩, ?_⟩
              refine ⟨fun vs W hI hV => .inl ⟨by clear hI hV hst; go_simp, .inl (by clear hI hV hst; (try simp only [Act.put, hval, hval2, List.setIfInBounds_toArray, List.set_cons_zero, List.set_cons_succ]); go_simp)⟩, ?_⟩
              refine ⟨fun vs W hI hV => .inl ⟨by clear hI hV hst; go_simp, .inl (by obtain ⟨f0, f1, f2, f3, f4, f5, f6, f7, f8, f9, f10, f11, f12, f13, f14, f15⟩ := (HAT9.out.sees hI).all; clear hI hV hst; (try simp only [Act.put, hval, hval2, List.setIfInBounds_toArray, List.set_cons_zero, List.set_cons_succ]); go_simp)⟩, ?_⟩
              refine ⟨fun vs W hI hV => ?_, ?_⟩
              · have hs : Sees W (W.alloc (.cells #[.int .i32 c.rune, .int .i32 c.m0, .int .i32 c.m1, .int .i32 c.m2, .int .i64 c.width, .int .i64 c.f0, .int .u8 c.f1, .int .u8 c.f2, .int .u8 c.f3, .int .u8 c.f4, .int .i64 c.b0, .int .u8 c.b1, .int .u8 c.b2, .int .u8 c.b3, .int .u8 c.b4, .int .u8 c.flags] 46)) := (Sees.refl W).alloc _
                exact .inl ⟨by clear hI hV hst hs; go_simp, .inl ⟨.slice (some ⟨W.heap.size, 0, none⟩) 1 1, W.alloc (.cells #[.int .i32 c.rune, .int .i32 c.m0, .int .i32 c.m1, .int .i32 c.m2, .int .i64 c.width, .int .i64 c.f0, .int .u8 c.f1, .int .u8 c.f2, .int .u8 c.f3, .int .u8 c.f4, .int .i64 c.b0, .int .u8 c.b1, .int .u8 c.b2, .int .u8 c.b3, .int .u8 c.b4, .int .u8 c.flags] 46), by clear hI hV hst hs; (try simp only [Act.put, hval, hval2, List.setIfInBounds_toArray, List.set_cons_zero, List.set_cons_succ]); go_simp, rgGood_mk hst hI ⟨_, rfl, heap_alloc_new _ _⟩ hs⟩⟩
              intro vs w6 hI hV
              obtain ⟨b6, hv6, hr6⟩ : ∃ b, vs 8 = .slice (some ⟨b, 0, none⟩) 1 1 ∧ w6.heap[b]? = some (.cells #[.int .i32 c.rune, .int .i32 c.m0, .int .i32 c.m1, .int .i32 c.m2, .int .i64 c.width, .int .i64 c.f0, .int .u8 c.f1, .int .u8 c.f2, .int .u8 c.f3, .int .u8 c.f4, .int .i64 c.b0, .int .u8 c.b1, .int .u8 c.b2, .int .u8 c.b3, .int .u8 c.b4, .int .u8 c.flags] 46 (0, 0)) := hV 8 _ rfl
              have HZ6 := Lib.hid (HZ9.out.sees hI)
              have HZC6 := Lib.hid (HZC9.out.sees hI).cut
              have HSV6 := Lib.hid (HSV9.out.trans hI)
              have HR6 := Lib.hid hr6
              have hB6 : B < w6.heap.size := HZ6.out.lt
              clear hI hV hst hr6 HZ9 HZC9 HAT9 HSV9
              (try simp only [Act.put, hval, hval2, List.setIfInBounds_toArray, List.set_cons_zero, List.set_cons_succ])
              go_simp
              clear hv6
              refine wpFrom_to 12 hRB (fun _ _ _ _ _ h => hpan.out _ _ _ _ _ h) (by kernel_rfl) (by simp only [List.cons_append, List.nil_append, List.drop_succ_cons, List.drop_zero, List.take_succ_cons, List.take_zero, Nat.reduceSub]; rfl) ?_
              go_wp2_with (at_builtin; refine El.wpList_append_own (v := .slice az k cz) typedCell rfl (.tmp 268) (.tmp 275) rfl (by go_simp) HZC6.out ⟨b6, 0, none⟩ 1 1 (by go_simp) [.int .i32 c.rune, .int .i32 c.m0, .int .i32 c.m1, .int .i32 c.m2, .int .i64 c.width, .int .i64 c.f0, .int .u8 c.f1, .int .u8 c.f2, .int .u8 c.f3, .int .u8 c.f4, .int .i64 c.b0, .int .u8 c.b1, .int .u8 c.b2, .int .u8 c.b3, .int .u8 c.b4, .int .u8 c.flags] [c] (fun _ => False) (El.ownIn_one (E := cellEl) rfl) rfl (fun j u hu => El.row_cells HR6.out j u hu) (fun b hb => hb.2) (fun b hb => hb.elim) HLL.out ?_; intro v7 w7 ho7 hk7; obtain ⟨a7, c7, rfl, _⟩ := ho7.slice; obtain ⟨j7, hj7⟩ : ∃ j7, j7 = ((fillAt C T nq).take k ++ [c]).length := ⟨_, rfl⟩; rw [← hj7] at ho7 ⊢; clear hj7; have HZ7 := Lib.hid (HZ6.out.keeps hk7 (fun e => by have := (HZC6.out.base e).1.1; omega)); have HO7 := Lib.hid ho7; have HK7 := Lib.hid hk7; have z0 := HZ7.out.c.1; have z1 := fun i => frozen_of_row w7 B i _ _ HZ7.out; clear ho7 hk7)
              refine wpFrom_end rfl ?_
              go_wp2_with fail
              refine ⟨⟨k + 1, .slice a7 j7 c7, by omega, by go_num, heap_setCell_same w7 B 0 _ _ (.slice a7 j7 c7) HZ7.out, ?_, (El.keep_new HSV6.out HK7.out (fun g hg => by have := (HZC6.out.base hg).1.1; have := HVB.out; omega)).setCell (p := ⟨B, 0, none⟩) (by have := HVB.out; show V.heap.size ≤ B; omega) _⟩, by simp [intOf]; omega⟩
              rw [HFO.out]
              refine (HO7.out.mono (G := fun b => B < b) fun b _ hb => ?_).keeps (Keeps.setCell (F := fun y => y = B) (Keeps.refl _ _) (p := ⟨B, 0, none⟩) (fun _ => rfl) _) (fun b hb => by omega)
              rcases hb with hb | hb | hb
              · exact hb.1
              · exact hb.elim
              · omega
            · have HFB := Lib.hid (fillAt_blank (c := C) (cs := T) (n := nq) (k := k) (by rw [HNN.out]; omega) hkC)
              have hs1 : ¬ ((nq : Int) + (k : Int) < N) := by omega
              have hs4 : IntKind.i64.wrap ((nq : Int) + (k : Int)) = (nq : Int) + (k : Int) := IntWalk.i64_in _ (by omega)
              have hs5 : ¬ (nq + k < N) := by omega
              have sA : Sees wr (wr.alloc (.cells #[.int .i32 0, .int .i32 0, .int .i32 0, .int .i32 0, .int .i64 1, .int .i64 0, .int .u8 0, .int .u8 0, .int .u8 0, .int .u8 0, .int .i64 0, .int .u8 0, .int .u8 0, .int .u8 0, .int .u8 0, .int .u8 0] 46)) := (Sees.refl wr).alloc _
              have HZ6 := Lib.hid (HZ.out.sees sA)
              have HZC6 := Lib.hid (HZC.out.sees sA).cut
              have HSV6 := Lib.hid (HSV.out.trans sA)
              have HR6 := Lib.hid (heap_alloc_new wr (.cells #[.int .i32 0, .int .i32 0, .int .i32 0, .int .i32 0, .int .i64 1, .int .i64 0, .int .u8 0, .int .u8 0, .int .u8 0, .int .u8 0, .int .i64 0, .int .u8 0, .int .u8 0, .int .u8 0, .int .u8 0, .int .u8 0] 46))
              have hB6 : B < (wr.alloc (.cells #[.int .i32 0, .int .i32 0, .int .i32 0, .int .i32 0, .int .i64 1, .int .i64 0, .int .u8 0, .int .u8 0, .int .u8 0, .int .u8 0, .int .i64 0, .int .u8 0, .int .u8 0, .int .u8 0, .int .u8 0, .int .u8 0] 46)).heap.size := HZ6.out.lt
              have z0 := HZ.out.c.1
              clear sA HZC HSV hge
              go_wp2_with (at_builtin; refine El.wpList_append_own (v := .slice az k cz) typedCell rfl (.tmp 279) (.tmp 281) rfl (by go_simp) HZC6.out ⟨wr.heap.size, 0, none⟩ 1 1 (by go_simp) [.int .i32 0, .int .i32 0, .int .i32 0, .int .i32 0, .int .i64 1, .int .i64 0, .int .u8 0, .int .u8 0, .int .u8 0, .int .u8 0, .int .i64 0, .int .u8 0, .int .u8 0, .int .u8 0, .int .u8 0, .int .u8 0] [blankC] (fun _ => False) (El.ownIn_one (E := cellEl) rfl) rfl (fun j u hu => El.row_cells HR6.out j u hu) (fun b hb => hb.2) (fun b hb => hb.elim) HLL.out ?_; intro v7 w7 ho7 hk7; obtain ⟨a7, c7, rfl, _⟩ := ho7.slice; obtain ⟨j7, hj7⟩ : ∃ j7, j7 = ((fillAt C T nq).take k ++ [blankC]).length := ⟨_, rfl⟩; rw [← hj7] at ho7 ⊢; clear hj7; have HZ7 := Lib.hid (HZ6.out.keeps hk7 (fun e => by have := (HZC6.out.base e).1.1; omega)); have HO7 := Lib.hid ho7; have HK7 := Lib.hid hk7; have z3 := HZ7.out.c.1; have z4 := fun i => frozen_of_row w7 B i _ _ HZ7.out; clear ho7 hk7)
              refine ⟨⟨k + 1, .slice a7 j7 c7, by omega, by go_num, heap_setCell_same w7 B 0 _ _ (.slice a7 j7 c7) HZ7.out, ?_, (El.keep_new HSV6.out HK7.out (fun g hg => by have := (HZC6.out.base hg).1.1; have := HVB.out; omega)).setCell (p := ⟨B, 0, none⟩) (by have := HVB.out; show V.heap.size ≤ B; omega) _⟩, by simp [intOf]; omega⟩
              rw [HFB.out]
              refine (HO7.out.mono (G := fun b => B < b) fun b _ hb => ?_).keeps (Keeps.setCell (F := fun y => y = B) (Keeps.refl _ _) (p := ⟨B, 0, none⟩) (fun _ => rfl) _) (fun b hb => by omega)
              rcases hb with hb | hb | hb
              · exact hb.1
              · exact hb.elim
              · omega
          · obtain rfl : C = k := by omega
            have sA : Sees wr (wr.alloc (.cells #[.slice az C cz, .bool S] 37)) := (Sees.refl wr).alloc _
            have hrow : rowAt C T nq = ⟨(fillAt C T nq).take C, S⟩ := by unfold rowAt; rw [HNN.out, HSS.out]
            have HSA := Lib.hid (HS5.out.sees (HSV.out.trans sA))
            have HOO := Lib.hid ((HS5.out.o.cut).sees (HSV.out.trans sA))
            have hzc2 : cellEl.Own (fun b => B < b ∧ b < (wr.alloc (.cells #[.slice az C cz, .bool S] 37)).heap.size) (wr.alloc (.cells #[.slice az C cz, .bool S] 37)) (.slice az C cz) ((fillAt C T nq).take C) := (HZC.out.sees sA).cut
            have HOW : Hid (lnEl.ownIn (fun b => B < b ∧ b < (wr.alloc (.cells #[.slice az C cz, .bool S] 37)).heap.size) (wr.alloc (.cells #[.slice az C cz, .bool S] 37)) [.slice az C cz, .bool S] [rowAt C T nq]) := by unfold RowKit.Hid; rw [hrow]; exact El.ownIn_one (E := lnEl) ⟨_, rfl, hzc2⟩
            have HRW := Lib.hid (heap_alloc_new wr (.cells #[.slice az C cz, .bool S] 37))
            have HVL := Lib.hid ((HSV.out.trans sA).size)
            have HPR : Hid ((os ++ pre).length + [rowAt C T nq].length ≤ 100000000) := by
              have h1 := HTOT.out
              have h2 := HR.out
              unfold RowKit.Hid
              rw [h2, restW_step hc1 (by rw [HNN.out]; exact HGO.out), List.length_append, List.length_append] at h1
              rw [List.length_append, List.length_singleton]
              omega
            have HRN : Hid (wrapRows C (N + 1) T = (pre ++ [rowAt C T nq]) ++ restW C T (nq + C)) := by
              unfold RowKit.Hid
              rw [HR.out, restW_step hc1 (by rw [HNN.out]; exact HGO.out), List.append_assoc]
              rfl
            have hnq2 : nq + C ≤ N + 20 := by have := HGO.out; omega
            have hms2 : N + 1 - (nq + C) < N + 1 - nq := by have := HGO.out; omega
            have HMS2 := Lib.hid hms2
            obtain ⟨z0, z1⟩ := HZ.out.c
            clear hzc2 hrow hms2 hkC hk
            go_wp2_with (at_builtin; refine El.wpList_append_own (v := u17) typedLn rfl (.tmp 284) (.tmp 286) rfl (by go_simp) HOO.out ⟨wr.heap.size, 0, none⟩ 1 1 (by go_simp) [.slice az C cz, .bool S] [rowAt C T nq] (fun b => B < b ∧ b < (wr.alloc (.cells #[.slice az C cz, .bool S] 37)).heap.size) HOW.out rfl (fun j u hu => El.row_cells HRW.out j u hu) (fun b hb => Nat.lt_of_lt_of_le hb.2 HVL.out) (fun b hb => ⟨hb.2, fun h => by have := h.2; have := HVB.out; omega⟩) HPR.out ?_; intro v7 w7 ho7 hk7; have HO7 := Lib.hid ho7; have HK7 := Lib.hid hk7; clear ho7 hk7)
            have hfin := HSA.out.addO (B := B) (x := rowAt C T nq) (by have := HVB.out; have := HS5.out.s.size; omega) (fun g hg => by rw [HVB.out]; exact HS5.out.clt hg) (by have q := HO7.out; rw [← HVB.out] at q; exact q) HK7.out
            rw [List.append_assoc] at hfin
            exact ⟨⟨nq + C, pre ++ [rowAt C T nq], by go_num, hnq2, HRN.out, hfin⟩, by have := HMS2.out; simp [intOf]; omega⟩
end Go.Proofs.YtfdolhppbimbmaaDoor
