/- The statement ErrandBrings: its body answers true. -/
import Derived.Test.YtlcakmbejjlmeaaGreatK8
import Derived.Test.YtlcakmbejjlmeaaGreatK10
import Derived.Test.YtlcakmbejjlmeaaGreatRows
import Derived.WalkKit
import Derived.ProofKit
import Derived.OpenShut
import Derived.ShutString
import Derived.ChangeOld
import Derived.Below
import Derived.SizedLaws
set_option linter.unusedVariables false
set_option linter.unusedSimpArgs false
namespace Go.Proofs.YtlcakmbejjlmeaaGreat
open Go.RowKit

section
variable (A : Option Addr) (n wc : Nat) (S : Option Addr) (pn pc : Nat) (wrong : Int) (H : Option Addr) (hn hc : Nat) (T : Option Addr) (sn sc : Nat) (start calls : Int) (women : List Wom) (pieces : List Pce) (home streets : List Rng)
set_option maxHeartbeats 6400000 in
set_option maxRecDepth 100000 in
theorem brings_w (w : World) (h : ErrIn w A n wc S pn pc H hn hc T sn sc women pieces home streets) (wv : Value) (walk : List Int) (hW : IsInts w wv walk) :
    Calls Tryz.prog 5 #[.agg #[.slice A n wc, .slice S pn pc, .int .i64 wrong, .slice H hn hc, .slice T sn sc, .int .i64 start, .int .i64 calls], wv] w
      fun e w' => e = .returned (.bool true) ∧ Ext w w' := by
  have KI := hid h
  have KW := hid hW
  obtain ⟨V, vc, rfl⟩ := hW.val
  obtain ⟨wn, hwn⟩ : ∃ x, walk.length = x := ⟨_, rfl⟩
  have hwb := hW.1
  rw [hwn] at KW hwb ⊢
  have HWN := hid hwn
  obtain ⟨sh, hsh⟩ : ∃ x, shortF women pieces home streets = x := ⟨_, rfl⟩
  have HSH := hid hsh
  clear h hW hwn
  cases sh
  · clear hsh
    obtain ⟨W0, hWd⟩ : ∃ W0, w.alloc (.cells #[.slice A n wc, .slice S pn pc, .int .i64 wrong, .slice H hn hc, .slice T sn sc, .int .i64 start, .int .i64 calls] 28) = W0 := ⟨_, rfl⟩
    have hW0 : Ext w W0 := by rw [← hWd]; go_grown
    have b1 : W0.heap[w.heap.size]? = some (.cells #[.slice A n wc, .slice S pn pc, .int .i64 wrong, .slice H hn hc, .slice T sn sc, .int .i64 start, .int .i64 calls] 28 (0, 0)) := by rw [← hWd]; exact (by repeat (first | exact heap_alloc_at _ _ (by simp) | refine heap_alloc_keep ?_))
    have f1 := ext_blk b1
    have HW0 := hid hWd
    have e0 : Ext W0 W0 := ext_refl W0
    clear hWd b1
    go_enter Tryz.func5, Tryz.ntmps5
    go_wp2_with fail
    rw [HW0.out]
    refine (short_x A n wc S pn pc wrong H hn hc T sn sc start calls women pieces home streets _ (KI.out.ext hW0) _ HSH).mono ?_
    rintro e w1 ⟨rfl, hB1⟩
    have e1 : Ext W0 w1 := hB1
    clear hB1
    go_wp2_with (go_at_call 21; refine (awake_c _).mono ?_; rintro e wa ⟨rfl, hBa⟩)
    go_ret
    exact ⟨rfl, ext_trans hW0 (ext_trans e1 hBa)⟩
  obtain ⟨hat, hn30, hmk⟩ := KI.out.at hsh
  have KE := hid hat
  have HMK := hid hmk
  clear hsh hat hmk
  by_cases hw30 : 30 < wn
  · skip
    obtain ⟨W0, hWd⟩ : ∃ W0, w.alloc (.cells #[.slice A n wc, .slice S pn pc, .int .i64 wrong, .slice H hn hc, .slice T sn sc, .int .i64 start, .int .i64 calls] 28) = W0 := ⟨_, rfl⟩
    have hW0 : Ext w W0 := by rw [← hWd]; go_grown
    have b1 : W0.heap[w.heap.size]? = some (.cells #[.slice A n wc, .slice S pn pc, .int .i64 wrong, .slice H hn hc, .slice T sn sc, .int .i64 start, .int .i64 calls] 28 (0, 0)) := by rw [← hWd]; exact (by repeat (first | exact heap_alloc_at _ _ (by simp) | refine heap_alloc_keep ?_))
    have f1 := ext_blk b1
    have HW0 := hid hWd
    have e0 : Ext W0 W0 := ext_refl W0
    clear hWd b1
    go_enter Tryz.func5, Tryz.ntmps5
    go_wp2_with fail
    rw [HW0.out]
    refine (short_x A n wc S pn pc wrong H hn hc T sn sc start calls women pieces home streets _ (KI.out.ext hW0) _ HSH).mono ?_
    rintro e w1 ⟨rfl, hB1⟩
    have e1 : Ext W0 w1 := hB1
    clear hB1
    go_wp2_with (go_at_call 21; refine (awake_c _).mono ?_; rintro e wa ⟨rfl, hBa⟩)
    go_ret
    exact ⟨rfl, ext_trans hW0 (ext_trans e1 hBa)⟩
  obtain ⟨wcode, hwc⟩ : ∃ x, walkC women pieces wrong home streets start calls walk = x := ⟨_, rfl⟩
  obtain ⟨L, hL⟩ : ∃ x, bringsL women pieces wrong home streets start calls walk = x := ⟨_, rfl⟩
  obtain ⟨ln, hln⟩ : ∃ x, L.length = x := ⟨_, rfl⟩
  have HWC := hid hwc
  have HL := hid hL
  have HLN := hid hln
  by_cases hwc0 : wcode = 0
  · subst hwc0
    obtain ⟨he, _⟩ := wErr_zero hwc
    have hz := errE_zero he
    have HAE := hid hz.1
    obtain ⟨moves, hmv⟩ : ∃ x, movesF women pieces wrong = x := ⟨_, rfl⟩
    have HMV := hid hmv
    obtain ⟨mn, hmn⟩ : ∃ x, moves.length = x := ⟨_, rfl⟩
    have HMN := hid hmn
    have hm7 : mn ≤ 7 := by rw [← hmn, ← hmv]; have := movesF_len women pieces wrong; have := (askedE_zero hz.1).2.2.2.1; omega
    have HL2 : Hid (L = picksF moves (brgN moves walk) mn) := hid (by rw [← hL, bringsL, if_pos hwc, hmv, ← hmn]; exact selM_at (by rw [← hmv]; exact movesF_inj _ _ _) walk)
    obtain ⟨r, hr⟩ : ∃ x, brgN moves walk = x := ⟨_, rfl⟩
    have HR := hid hr
    have hr128 : r < 128 := by
      have h1 := brgN_lt moves walk
      have h2 : 2 ^ moves.length ≤ 2 ^ 7 := Nat.pow_le_pow_right (by decide) (by omega)
      omega
    have HPK : Hid (picksF moves r mn = L) := hid (by rw [HL2.out, hr])
    have HINT : Hid (intsF L L = true) := hid ((intsF_iff _ _).2 rfl)
    clear hwc hL hln he hz hmv hmn hr
    obtain ⟨W0, hWd⟩ : ∃ W0, w.alloc (.cells #[.slice A n wc, .slice S pn pc, .int .i64 wrong, .slice H hn hc, .slice T sn sc, .int .i64 start, .int .i64 calls] 28) = W0 := ⟨_, rfl⟩
    have hW0 : Ext w W0 := by rw [← hWd]; go_grown
    have b1 : W0.heap[w.heap.size]? = some (.cells #[.slice A n wc, .slice S pn pc, .int .i64 wrong, .slice H hn hc, .slice T sn sc, .int .i64 start, .int .i64 calls] 28 (0, 0)) := by rw [← hWd]; exact (by repeat (first | exact heap_alloc_at _ _ (by simp) | refine heap_alloc_keep ?_))
    have f1 := ext_blk b1
    have HW0 := hid hWd
    have e0 : Ext W0 W0 := ext_refl W0
    clear hWd b1
    go_enter Tryz.func5, Tryz.ntmps5
    go_wp2_with fail
    rw [HW0.out]
    refine (short_x A n wc S pn pc wrong H hn hc T sn sc start calls women pieces home streets _ (KI.out.ext hW0) _ HSH).mono ?_
    rintro e w1 ⟨rfl, hB1⟩
    have e1 : Ext W0 w1 := hB1
    clear hB1
    go_wp2_with fail
    refine (errand_x A n wc S pn pc wrong H hn hc T sn sc start calls women pieces home streets _ (KE.out.ext (ext_trans hW0 e1)) HMK.out).mono ?_
    rintro e w2 ⟨A2, wc2, S2, pc2, H2, hc2, T2, sc2, rfl, hE2, hB2⟩
    have e2 := ext_trans e1 hB2
    have HE2 := hid hE2
    clear hE2
    go_wp2_with fail
    refine (list_x (.slice V wn vc) walk wn _ (KW.out.ext (ext_trans hW0 e2)) HWN (by omega)).mono ?_
    rintro e w3 ⟨V3, vc3, rfl, hI3, hB3⟩
    have e3 := ext_trans e2 hB3
    have HI3 := hid hI3
    clear hI3
    go_wp2_with fail
    refine (brings_x A2 n wc2 S2 pn pc2 wrong H2 hn hc2 T2 sn sc2 start calls women pieces home streets (by omega) _ (HE2.out.ext hB3) _ walk HI3.out L _ _ HL HLN HWC).mono ?_
    rintro e w4 ⟨LV, lvc, rfl, hI4, hB4⟩
    have e4 := ext_trans e3 hB4
    have HI4 := hid hI4
    clear hI4
    go_wp2_with fail
    refine (walked_c A n wc S pn pc wrong H hn hc T sn sc start calls women pieces home streets _ (KE.out.ext (ext_trans hW0 e4)) _ walk (KW.out.ext (ext_trans hW0 e4)) _ HWC).mono ?_
    rintro e w5 ⟨rfl, hB5⟩
    have e5 := ext_trans e4 hB5
    go_wp2_with fail
    refine (movesR_c A n wc S pn pc wrong H hn hc T sn sc start calls women pieces home streets _ (KE.out.ext (ext_trans hW0 e5)) HAE.out).mono ?_
    rintro e w6 ⟨MV, mvc, rfl, hmv, hB6⟩
    rw [HMV.out, HMN.out] at hmv
    rw [HMV.out, HMN.out]
    have e6 := ext_trans e5 hB6
    have HMO := hid hmv
    clear hmv
    go_wp2_with fail
    refine (brings7_c MV mn mvc moves _ walk _ HMO.out HMN.out hm7 (KW.out.ext (ext_trans hW0 e6)) r HR).mono ?_
    rintro e w7 ⟨rfl, hB7⟩
    have e7 := ext_trans e6 hB7
    go_wp2_with fail
    refine (pieces7_c MV mn mvc moves r _ (HMO.out.ext hB7) HMN.out hm7 hr128 L ln HPK HLN).mono ?_
    rintro e w8 ⟨PV, pvc, rfl, hpv, hB8⟩
    have e8 := ext_trans e7 hB8
    have HPV := hid hpv
    clear hpv
    go_wp2_with fail
    refine (ints_b _ _ L L _ (HI4.out.ext (ext_trans hB5 (ext_trans hB6 (ext_trans hB7 hB8)))) HPV.out true HINT).mono ?_
    rintro e w9 ⟨rfl, hB9⟩
    have e9 := ext_trans e8 hB9
    go_wp2_with fail
    refine (awake_c _).mono ?_
    rintro e wa ⟨rfl, hBa⟩
    go_wp2
    go_ret
    exact ⟨rfl, ext_trans hW0 (ext_trans e9 hBa)⟩
  · obtain rfl : ln = 0 := by rw [← hln, ← hL, bringsL, if_neg (by rw [hwc]; exact hwc0)]; rfl
    have hw1 : (wcode == 0) = false := beq_eq_false_iff_ne.2 hwc0
    have hw2 : (wcode != 0) = true := by rw [bne_iff_ne]; exact hwc0
    clear hwc hL hln
    obtain ⟨W0, hWd⟩ : ∃ W0, w.alloc (.cells #[.slice A n wc, .slice S pn pc, .int .i64 wrong, .slice H hn hc, .slice T sn sc, .int .i64 start, .int .i64 calls] 28) = W0 := ⟨_, rfl⟩
    have hW0 : Ext w W0 := by rw [← hWd]; go_grown
    have b1 : W0.heap[w.heap.size]? = some (.cells #[.slice A n wc, .slice S pn pc, .int .i64 wrong, .slice H hn hc, .slice T sn sc, .int .i64 start, .int .i64 calls] 28 (0, 0)) := by rw [← hWd]; exact (by repeat (first | exact heap_alloc_at _ _ (by simp) | refine heap_alloc_keep ?_))
    have f1 := ext_blk b1
    have HW0 := hid hWd
    have e0 : Ext W0 W0 := ext_refl W0
    clear hWd b1
    go_enter Tryz.func5, Tryz.ntmps5
    go_wp2_with fail
    rw [HW0.out]
    refine (short_x A n wc S pn pc wrong H hn hc T sn sc start calls women pieces home streets _ (KI.out.ext hW0) _ HSH).mono ?_
    rintro e w1 ⟨rfl, hB1⟩
    have e1 : Ext W0 w1 := hB1
    clear hB1
    go_wp2_with fail
    refine (errand_x A n wc S pn pc wrong H hn hc T sn sc start calls women pieces home streets _ (KE.out.ext (ext_trans hW0 e1)) HMK.out).mono ?_
    rintro e w2 ⟨A2, wc2, S2, pc2, H2, hc2, T2, sc2, rfl, hE2, hB2⟩
    have e2 := ext_trans e1 hB2
    have HE2 := hid hE2
    clear hE2
    go_wp2_with fail
    refine (list_x (.slice V wn vc) walk wn _ (KW.out.ext (ext_trans hW0 e2)) HWN (by omega)).mono ?_
    rintro e w3 ⟨V3, vc3, rfl, hI3, hB3⟩
    have e3 := ext_trans e2 hB3
    have HI3 := hid hI3
    clear hI3
    go_wp2_with fail
    refine (brings_x A2 n wc2 S2 pn pc2 wrong H2 hn hc2 T2 sn sc2 start calls women pieces home streets (by omega) _ (HE2.out.ext hB3) _ walk HI3.out L _ _ HL HLN HWC).mono ?_
    rintro e w4 ⟨LV, lvc, rfl, hI4, hB4⟩
    have e4 := ext_trans e3 hB4
    have HI4 := hid hI4
    clear hI4
    go_wp2_with fail
    refine (walked_c A n wc S pn pc wrong H hn hc T sn sc start calls women pieces home streets _ (KE.out.ext (ext_trans hW0 e4)) _ walk (KW.out.ext (ext_trans hW0 e4)) _ HWC).mono ?_
    rintro e w5 ⟨rfl, hB5⟩
    have e5 := ext_trans e4 hB5
    go_wp2_with fail
    refine (awake_c _).mono ?_
    rintro e wa ⟨rfl, hBa⟩
    go_wp2
    go_ret
    exact ⟨rfl, ext_trans hW0 (ext_trans e5 hBa)⟩
end
end Go.Proofs.YtlcakmbejjlmeaaGreat
/- The statement ErrandBrings, for every input: the row over its walk. -/
set_option linter.unusedVariables false
namespace Go.Proofs.YtlcakmbejjlmeaaGreat.ErrandBringsRow
open Go.ChangeShapes Go.WideShapes Go.ChangeAt Go.RowKit
theorem own : ownKnob Tryz.prog.godebug = none := by kernel_rfl
theorem laidOut : laidOutB Tryz.prog = true := by kernel_rfl
set_option maxRecDepth 100000 in
theorem lifted (os : Os) (started : os.Started) (H : Type) (enc : TypeId × Value → H) :
    ReturnsInHanded {} Tryz.checked os 5 .any (Rows.errandBringsSpec.pre6 enc Tryz.prog Tryz.f5 Rows.errandBringsRow.domain false) (Rows.errandBringsSpec.post enc Tryz.prog Tryz.f5 false true false false) := by
  refine returnsInHanded_of_change_sized (C := Tryz.checked) own started (by kernel_rfl) Tryz.func5
    (ChangeSpec.witness6 (enc := enc) (C := Tryz.checked) false ⟨#[], #[.agg #[.slice none 0 0, .slice none 0 0, .int .i64 0, .slice none 0 0, .slice none 0 0, .int .i64 0, .int .i64 0], .slice none 0 0], []⟩ 8 (by kernel_rfl) (by kernel_rfl) (by kernel_rfl) (by kernel_rfl)) ?_
  intro W base args ds gs before hval0 hW hcnd hsz0 _
  have hsz : (DataW.weightsEach Tryz.prog (Tryz.f5.params.toList ++ Rows.errandBringsSpec.plain.varTypes Tryz.prog) (ds ++ gs)).all (· ≤ reachBytes) = true := hsz0
  have hval : ∀ (j : Nat) t v, Tryz.f5.params[j]? = some t → args[j]? = some v → Value.okWide Tryz.prog W .any base t v := hval0
  have hW' := hW
  obtain ⟨p, q, hA0, hV, rfl, hfz, hnd⟩ := hW
  have hA : DataW.TrodAll enc Tryz.prog W 0 (fun _ => true) true Tryz.f5.params.toList args.toList ds p := hA0
  rw [Tryz.params5] at hA hval hsz
  obtain ⟨v0, vs0, d0, ds0, p0, q0, hargs, rfl, rfl, h0, r0⟩ := trodAll_cons hA
  obtain ⟨v1, vs1, d1, ds1, p1, q1, rfl, rfl, rfl, h1, r1⟩ := trodAll_cons r0
  obtain ⟨rfl, rfl, rfl⟩ := trodAll_nil r1
  obtain rfl : args = #[v0, v1] := by cases args; simp_all
  obtain ⟨rfl, rfl⟩ := trodVars_none hV
  have k0 := h0
  have lt0 : ∀ x ∈ p0, x.block < W.heap.size := by obtain ⟨m, hm⟩ := k0; exact DataW.trod_lt m _ _ _ hm
  have wk0 : WOk Tryz.prog 28 d0 := fun n hn => by
    have h := List.all_eq_true.1 hsz _ (DataW.weights_mem_each (j := 0) rfl rfl n hn)
    simpa using h
  obtain ⟨A0, n0, wc0, S0, pn0, pc0, wrong0, T0, hn0, hc0, U0, sn0, sc0, start0, calls0, women0, pieces0, home0, streets0, rfl, hW0, hwl0, hP0, hpl0, hH0, hhl0, hS0, hsl0, ws0, wcl0, wwr0⟩ := open_errW (hval 0 28 v0 rfl rfl) h0 wk0
  have k1 := h1
  have lt1 : ∀ x ∈ p1, x.block < W.heap.size := by obtain ⟨m, hm⟩ := k1; exact DataW.trod_lt m _ _ _ hm
  have wk1 : WOk Tryz.prog 29 d1 := fun n hn => by
    have h := List.all_eq_true.1 hsz _ (DataW.weights_mem_each (j := 1) rfl rfl n hn)
    simpa using h
  obtain ⟨a1, len1, cap1, rfl⟩ := okWide_slice Tryz.underlying29 (hval 1 29 v1 rfl rfl)
  obtain ⟨fuel1, hf1⟩ := h1
  obtain ⟨b1, m1, c1, xs1, hv1, hI1, hl1⟩ := open_intsW (by simpa [Value.cells] using hf1) wk1
  clear hA0 hval0 hsz0 hsz
  refine (brings_w A0 n0 wc0 S0 pn0 pc0 wrong0 T0 hn0 hc0 U0 sn0 sc0 start0 calls0 women0 pieces0 home0 streets0 W ⟨hW0, hwl0, hP0, hpl0, hH0, hhl0, hS0, hsl0⟩ _ xs1 hI1).mono fun e W' ⟨he, bel⟩ => ?_
  subst he
  exact ⟨_, rfl, _, _, _, [], _, [], hW', trodAll_mk1 (shut_bool Tryz.underlying4 _), (trodAll_cons_mk (Below.trod laidOut (by kernel_rfl) (of_decide_eq_true (by kernel_rfl)) k0 bel lt0) (trodAll_cons_mk (Below.trod laidOut (by kernel_rfl) (of_decide_eq_true (by kernel_rfl)) k1 bel lt1) trodAll_mk0)), rfl, bel.frame _, fun h => by cases h⟩
theorem over : Rows.errandBringsRow.holds Tryz.pinned (OpenSpec.ofChange Rows.errandBringsSpec) :=
  OpenClaim.holds_of_wide 5 Tryz.f5 rfl rfl rfl rfl rfl rfl rfl ⟨rfl, rfl, rfl, rfl, rfl⟩ rfl rfl rfl rfl rfl (by kernel_rfl) Tryz.func5 (by kernel_rfl)
    (of_decide_eq_true (by kernel_rfl)) (by unfold Func.isWrapper; rw [if_neg (of_decide_eq_false (by kernel_rfl))]; exact ⟨rfl, rfl⟩)
    (fun os started H enc _ => lifted os started H enc)
end Go.Proofs.YtlcakmbejjlmeaaGreat.ErrandBringsRow
namespace Go.Proofs.YtlcakmbejjlmeaaGreat
/-- ErrandBrings, for every input. -/
theorem errandBrings_holds : Rows.ErrandBringsSaid := ErrandBringsRow.over
#print axioms errandBrings_holds
end Go.Proofs.YtlcakmbejjlmeaaGreat
