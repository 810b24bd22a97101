/- The statement ErrandNoBetter: its body answers true. -/
import Derived.Test.YtlcakmbejjlmeaaGreatK15
import Derived.Test.YtlcakmbejjlmeaaGreatRows
import Derived.Test.YtlcakmbejjlmeaaGreatK13
import Derived.WalkKit
import Derived.ProofKit
import Derived.OpenShut
import Derived.ShutString
import Derived.ChangeOld
import Derived.Below
import Derived.SizedLaws
set_option linter.unusedVariables false
set_option linter.unusedSimpArgs false
namespace Go.Proofs.YtlcakmbejjlmeaaGreat
open Go.RowKit
section
variable (A : Option Addr) (n wc : Nat) (S : Option Addr) (pn pc : Nat) (wrong : Int) (H : Option Addr) (hn hc : Nat) (T : Option Addr) (sn sc : Nat) (start calls : Int) (women : List Wom) (pieces : List Pce) (home streets : List Rng)
set_option maxHeartbeats 6400000 in
set_option maxRecDepth 100000 in
theorem nobetter_w (w : World) (h : ErrIn w A n wc S pn pc H hn hc T sn sc women pieces home streets) (uv : Value) (us : List Int) (hU : IsU16s w uv us) :
    Calls Tryz.prog 17 #[.agg #[.slice A n wc, .slice S pn pc, .int .i64 wrong, .slice H hn hc, .slice T sn sc, .int .i64 start, .int .i64 calls], uv] w
      fun e w' => e = .returned (.bool true) ∧ Ext w w' := by
  have KI := hid h
  have KU := hid hU
  obtain ⟨U, uc, rfl⟩ := hU.val
  obtain ⟨un, hun⟩ : ∃ x, us.length = x := ⟨_, rfl⟩
  rw [hun] at KU ⊢
  have hnb : n ≤ 140737488355328 := by have := h.W.1; rw [h.wl] at this; exact this
  obtain ⟨walk, hwalk⟩ : ∃ x, walkW n us = x := ⟨_, rfl⟩
  obtain ⟨wn, hwn⟩ : ∃ x, walk.length = x := ⟨_, rfl⟩
  have HWALK := hid hwalk
  have HWN := hid hwn
  have hok6 := walkW_ok n us
  rw [hwalk] at hok6
  have hw6 : wn ≤ 6 := by rw [← hwn]; exact hok6.len
  have HOK := hid hok6.ok
  obtain ⟨sh, hsh⟩ : ∃ x, readyF women pieces wrong home streets start calls = x := ⟨_, rfl⟩
  have HSH := hid hsh
  clear h hU hun hwalk hwn hok6
  cases sh
  · clear hsh
    obtain ⟨W0, hWd⟩ : ∃ W0, w.alloc (.cells #[.slice A n wc, .slice S pn pc, .int .i64 wrong, .slice H hn hc, .slice T sn sc, .int .i64 start, .int .i64 calls] 28) = W0 := ⟨_, rfl⟩
    have hW0 : Ext w W0 := by rw [← hWd]; go_grown
    have b1 : W0.heap[w.heap.size]? = some (.cells #[.slice A n wc, .slice S pn pc, .int .i64 wrong, .slice H hn hc, .slice T sn sc, .int .i64 start, .int .i64 calls] 28 (0, 0)) := by rw [← hWd]; exact (by repeat (first | exact heap_alloc_at _ _ (by simp) | refine heap_alloc_keep ?_))
    have f1 := ext_blk b1
    have HW0 := hid hWd
    have e0 : Ext W0 W0 := ext_refl W0
    clear hWd b1
    go_enter Tryz.func17, Tryz.ntmps17
    go_wp2_with fail
    rw [HW0.out]
    go_wp2_with fail
    refine (ready_x A n wc S pn pc wrong H hn hc T sn sc start calls women pieces home streets _ (KI.out.ext (ext_trans hW0 e0)) _ HSH).mono ?_
    rintro e w1 ⟨rfl, hB1⟩
    have e1 : Ext W0 w1 := ext_trans e0 hB1
    go_wp2_with fail
    refine (awake_c _).mono ?_
    rintro e wa ⟨rfl, hBa⟩
    go_wp2
    go_ret
    exact ⟨rfl, ext_trans hW0 (ext_trans e1 hBa)⟩
  have hsh2 := hsh
  rw [readyF, Bool.and_eq_true, decide_eq_true_eq] at hsh2
  obtain ⟨hat, hn30, hmk⟩ := KI.out.at (thinF_short hsh2.1)
  have KE := hid hat
  have HMK := hid hmk
  have he := hsh2.2
  have HERR := hid he
  have hnl : women.length = n := hat.wl
  have htl : streets.length = sn := hat.tl
  have hwo : WalkOk women.length walk := by rw [hnl]; exact HOK.out
  have HC : Hid (walkC women pieces wrong home streets start calls walk = 0) := hid (walkC_zero he hwo)
  obtain ⟨bc, hbc⟩ : ∃ x, bestC women pieces wrong home streets start calls = x := ⟨_, rfl⟩
  obtain ⟨bl, hbl⟩ : ∃ x, bestL women pieces wrong home streets start calls = x := ⟨_, rfl⟩
  obtain ⟨bn, hbn⟩ : ∃ x, bl.length = x := ⟨_, rfl⟩
  obtain ⟨be, hbe⟩ : ∃ x, bestN women pieces wrong home streets start calls = x := ⟨_, rfl⟩
  obtain ⟨fw, hfw⟩ : ∃ x, fewestN women pieces wrong home streets start calls = x := ⟨_, rfl⟩
  obtain ⟨pb, hpb⟩ : ∃ x, proveB women pieces wrong home streets start calls walk (wn : Int) = x := ⟨_, rfl⟩
  obtain ⟨C1, hC1⟩ : ∃ x, comesL women pieces wrong home streets start calls walk = x := ⟨_, rfl⟩
  obtain ⟨ew, hew⟩ : ∃ x, endF n home streets start walk = x := ⟨_, rfl⟩
  have HBC := hid hbc
  have HBL := hid hbl
  have HBN := hid hbn
  have HBE := hid hbe
  have HFW := hid hfw
  have HPB := hid hpb
  have HC1 := hid hC1
  have hC1' : C1 = comesK n home streets start walk wn := by rw [← hC1, comesL, if_pos HC.out, hnl, HWN.out]
  have HC1N : Hid (C1.length = wn) := hid (by rw [hC1', comesK_len])
  have HEW : Hid ((wn = 0 → ew = start) ∧ (0 < wn → rHi C1 (wn - 1) = ew)) := hid ⟨fun h0 => by
    rw [← hew, endF, HWN.out, h0]; rfl, fun h0 => by
    rw [hC1', (comesK_at _ _ _ _ _ (show wn - 1 < wn by omega)).2, ← hew, endF, HWN.out, show wn - 1 + 1 = wn from by omega]⟩
  have hpo : pb = okB women.length home streets start calls (movesF women pieces wrong) walk := by rw [← hpb, ← proveB_iff he hwo, HWN.out]
  by_cases hbc0 : bc = 0
  · subst hbc0
    obtain ⟨z1, z2, z3, z4⟩ := best_zero he hbc
    have z5 := z4 walk hwo
    rw [hbl] at z1 z2 z5
    rw [hbe] at z5
    have hbl7 : bn ≤ 7 := by rw [← hbn]; exact z1.len
    have hfb : fw ≤ (bn : Int) := by
      rw [← hfw, ← hbn]
      rw [okB, Bool.and_eq_true] at z2
      exact fewest_le he z1 z2.1
    have HPB2 : Hid (proveB women pieces wrong home streets start calls bl (bn : Int) = true) := hid (by rw [← hbn, proveB_iff he z1]; exact z2)
    cases pb
    · clear hsh hsh2 hat hmk he hnl htl hwo hbc hbl hbn hbe hfw hpb hC1 hew hC1' hpo z1 z2 z3 z4 z5
      by_cases hw0 : wn = 0
      · have hk5 : ¬ (0 : Int) < (wn : Int) := by omega
        have HW00 := hid hw0
        clear hw0
        obtain ⟨W0, hWd⟩ : ∃ W0, w.alloc (.cells #[.slice A n wc, .slice S pn pc, .int .i64 wrong, .slice H hn hc, .slice T sn sc, .int .i64 start, .int .i64 calls] 28) = W0 := ⟨_, rfl⟩
        have hW0 : Ext w W0 := by rw [← hWd]; go_grown
        have b1 : W0.heap[w.heap.size]? = some (.cells #[.slice A n wc, .slice S pn pc, .int .i64 wrong, .slice H hn hc, .slice T sn sc, .int .i64 start, .int .i64 calls] 28 (0, 0)) := by rw [← hWd]; exact (by repeat (first | exact heap_alloc_at _ _ (by simp) | refine heap_alloc_keep ?_))
        have f1 := ext_blk b1
        have HW0 := hid hWd
        have e0 : Ext W0 W0 := ext_refl W0
        clear hWd b1
        go_enter Tryz.func17, Tryz.ntmps17
        go_wp2_with fail
        rw [HW0.out]
        go_wp2_with fail
        refine (ready_x A n wc S pn pc wrong H hn hc T sn sc start calls women pieces home streets _ (KI.out.ext (ext_trans hW0 e0)) _ HSH).mono ?_
        rintro e w1 ⟨rfl, hB1⟩
        have e1 : Ext W0 w1 := ext_trans e0 hB1
        go_wp2_with fail
        refine (errand_x A n wc S pn pc wrong H hn hc T sn sc start calls women pieces home streets _ (KE.out.ext (ext_trans hW0 e1)) HMK.out).mono ?_
        rintro e w2 ⟨A2, wc2, S2, pc2, H2, hc2, T2, sc2, rfl, hE2, hB2⟩
        have e2 := ext_trans e1 hB2
        have HE2 := hid hE2
        clear hE2
        go_wp2_with fail
        refine (best_x A2 n wc2 S2 pn pc2 wrong H2 hn hc2 T2 sn sc2 start calls women pieces home streets _ HE2.out).mono ?_
        rintro e w3 ⟨bv, rfl, hbv, hB3⟩
        rw [HBL.out] at hbv
        obtain ⟨BV, bvc, rfl⟩ := hbv.val
        rw [HBN.out] at hbv
        rw [HBN.out, HBE.out, HBC.out]
        have e3 := ext_trans e2 hB3
        have HBV := hid hbv
        clear hbv
        go_wp2_with fail
        refine (errand_x A n wc S pn pc wrong H hn hc T sn sc start calls women pieces home streets _ (KE.out.ext (ext_trans hW0 e3)) HMK.out).mono ?_
        rintro e w4 ⟨A4, wc4, S4, pc4, H4, hc4, T4, sc4, rfl, hE4, hB4⟩
        have e4 := ext_trans e3 hB4
        have HE4 := hid hE4
        clear hE4
        go_wp2_with fail
        refine (fewest_c A4 n wc4 S4 pn pc4 wrong H4 hn hc4 T4 sn sc4 start calls women pieces home streets _ HE4.out).mono ?_
        rintro e w5 ⟨rfl, hB5⟩
        rw [HERR.out, HFW.out]
        have e5 := ext_trans e4 hB5
        go_wp2_with fail
        refine (walkedW_c A n wc (.slice S pn pc) wrong (.slice H hn hc) (.slice T sn sc) start calls hnb _ us _ (KU.out.ext (ext_trans hW0 e5))).mono ?_
        rintro e w6 ⟨V, vc, rfl, hI, hB6, hcap⟩
        rw [HWALK.out, HWN.out] at hI
        rw [HWALK.out, HWN.out] at hcap
        rw [HWALK.out, HWN.out]
        have e6 : Ext W0 w6 := ext_trans e5 hB6
        have HI := hid hI
        clear hI
        go_wp2_with fail
        refine (errand_x A n wc S pn pc wrong H hn hc T sn sc start calls women pieces home streets _ (KE.out.ext (ext_trans hW0 e6)) HMK.out).mono ?_
        rintro e w7 ⟨A7, wc7, S7, pc7, H7, hc7, T7, sc7, rfl, hE7, hB7⟩
        have e7 := ext_trans e6 hB7
        have HE7 := hid hE7
        clear hE7
        go_wp2_with fail
        refine (list_x (.slice V wn vc) walk wn _ (HI.out.ext hB7) HWN (by omega)).mono ?_
        rintro e w8 ⟨V8, vc8, rfl, hI8, hB8⟩
        have e8 := ext_trans e7 hB8
        have HI8 := hid hI8
        clear hI8
        go_wp2_with fail
        refine (prove_x A7 n wc7 S7 pn pc7 wrong H7 hn hc7 T7 sn sc7 start calls women pieces home streets (by omega) _ (HE7.out.ext hB8) _ walk HI8.out (wn : Int) _ HPB).mono ?_
        rintro e w9 ⟨rfl, hB9⟩
        have e9 := ext_trans e8 hB9
        go_wp2_with fail
        refine (errand_x A n wc S pn pc wrong H hn hc T sn sc start calls women pieces home streets _ (KE.out.ext (ext_trans hW0 e9)) HMK.out).mono ?_
        rintro e w10 ⟨A10, wc10, S10, pc10, H10, hc10, T10, sc10, rfl, hE10, hB10⟩
        have e10 := ext_trans e9 hB10
        have HE10 := hid hE10
        clear hE10
        go_wp2_with fail
        refine (list_x (.slice V wn vc) walk wn _ (HI.out.ext (ext_trans hB7 (ext_trans hB8 (ext_trans hB9 hB10)))) HWN (by omega)).mono ?_
        rintro e w11 ⟨V11, vc11, rfl, hI11, hB11⟩
        have e11 := ext_trans e10 hB11
        have HI11 := hid hI11
        clear hI11
        go_wp2_with fail
        refine (comes_x A10 n wc10 S10 pn pc10 wrong H10 hn hc10 T10 sn sc10 start calls women pieces home streets (by omega) _ (HE10.out.ext hB11) _ walk HI11.out C1 wn _ HC1 HC1N HC).mono ?_
        rintro e w12 ⟨LV12, lvc12, rfl, hL12, hB12⟩
        have e12 := ext_trans e11 hB12
        have HCC := hid hL12
        clear hL12
        have HWL := hid (HI.out.ext (ext_trans hB7 (ext_trans hB8 (ext_trans hB9 (ext_trans hB10 (ext_trans hB11 hB12))))))
        have HBB := hid (HBV.out.ext (ext_trans hB4 (ext_trans hB5 (ext_trans hB6 (ext_trans hB7 (ext_trans hB8 (ext_trans hB9 (ext_trans hB10 (ext_trans hB11 hB12)))))))))
        have HE12 := hid e12
        clear hB1 hB2 hB3 hB4 hB5 hB6 hB7 hB8 hB9 hB10 hB11 hB12 e1 e2 e3 e4 e5 e6 e7 e8 e9 e10 e11
        go_wp2_with fail
        refine (errand_x A n wc S pn pc wrong H hn hc T sn sc start calls women pieces home streets _ (KE.out.ext (ext_trans hW0 e12)) HMK.out).mono ?_
        rintro e w13 ⟨A13, wc13, S13, pc13, H13, hc13, T13, sc13, rfl, hE13, hB13⟩
        have e13 := ext_trans e12 hB13
        have HE13 := hid hE13
        clear hE13
        go_wp2_with fail
        refine (list_x (.slice BV bn bvc) bl bn _ (HBB.out.ext hB13) HBN (by omega)).mono ?_
        rintro e w14 ⟨V14, vc14, rfl, hI14, hB14⟩
        have e14 := ext_trans e13 hB14
        have HI14 := hid hI14
        clear hI14
        go_wp2_with fail
        refine (prove_x A13 n wc13 S13 pn pc13 wrong H13 hn hc13 T13 sn sc13 start calls women pieces home streets (by omega) _ (HE13.out.ext hB14) _ bl HI14.out (bn : Int) _ HPB2).mono ?_
        rintro e w15 ⟨rfl, hB15⟩
        have e15 := ext_trans e14 hB15
        go_wp2_with fail
        refine (awake_c _).mono ?_
        rintro e wa ⟨rfl, hBa⟩
        go_wp2
        go_ret
        exact ⟨rfl, ext_trans hW0 (ext_trans e15 hBa)⟩
      · skip
        obtain ⟨W0, hWd⟩ : ∃ W0, w.alloc (.cells #[.slice A n wc, .slice S pn pc, .int .i64 wrong, .slice H hn hc, .slice T sn sc, .int .i64 start, .int .i64 calls] 28) = W0 := ⟨_, rfl⟩
        have hW0 : Ext w W0 := by rw [← hWd]; go_grown
        have b1 : W0.heap[w.heap.size]? = some (.cells #[.slice A n wc, .slice S pn pc, .int .i64 wrong, .slice H hn hc, .slice T sn sc, .int .i64 start, .int .i64 calls] 28 (0, 0)) := by rw [← hWd]; exact (by repeat (first | exact heap_alloc_at _ _ (by simp) | refine heap_alloc_keep ?_))
        have f1 := ext_blk b1
        have HW0 := hid hWd
        have e0 : Ext W0 W0 := ext_refl W0
        clear hWd b1
        go_enter Tryz.func17, Tryz.ntmps17
        go_wp2_with fail
        rw [HW0.out]
        go_wp2_with fail
        refine (ready_x A n wc S pn pc wrong H hn hc T sn sc start calls women pieces home streets _ (KI.out.ext (ext_trans hW0 e0)) _ HSH).mono ?_
        rintro e w1 ⟨rfl, hB1⟩
        have e1 : Ext W0 w1 := ext_trans e0 hB1
        go_wp2_with fail
        refine (errand_x A n wc S pn pc wrong H hn hc T sn sc start calls women pieces home streets _ (KE.out.ext (ext_trans hW0 e1)) HMK.out).mono ?_
        rintro e w2 ⟨A2, wc2, S2, pc2, H2, hc2, T2, sc2, rfl, hE2, hB2⟩
        have e2 := ext_trans e1 hB2
        have HE2 := hid hE2
        clear hE2
        go_wp2_with fail
        refine (best_x A2 n wc2 S2 pn pc2 wrong H2 hn hc2 T2 sn sc2 start calls women pieces home streets _ HE2.out).mono ?_
        rintro e w3 ⟨bv, rfl, hbv, hB3⟩
        rw [HBL.out] at hbv
        obtain ⟨BV, bvc, rfl⟩ := hbv.val
        rw [HBN.out] at hbv
        rw [HBN.out, HBE.out, HBC.out]
        have e3 := ext_trans e2 hB3
        have HBV := hid hbv
        clear hbv
        go_wp2_with fail
        refine (errand_x A n wc S pn pc wrong H hn hc T sn sc start calls women pieces home streets _ (KE.out.ext (ext_trans hW0 e3)) HMK.out).mono ?_
        rintro e w4 ⟨A4, wc4, S4, pc4, H4, hc4, T4, sc4, rfl, hE4, hB4⟩
        have e4 := ext_trans e3 hB4
        have HE4 := hid hE4
        clear hE4
        go_wp2_with fail
        refine (fewest_c A4 n wc4 S4 pn pc4 wrong H4 hn hc4 T4 sn sc4 start calls women pieces home streets _ HE4.out).mono ?_
        rintro e w5 ⟨rfl, hB5⟩
        rw [HERR.out, HFW.out]
        have e5 := ext_trans e4 hB5
        go_wp2_with fail
        refine (walkedW_c A n wc (.slice S pn pc) wrong (.slice H hn hc) (.slice T sn sc) start calls hnb _ us _ (KU.out.ext (ext_trans hW0 e5))).mono ?_
        rintro e w6 ⟨V, vc, rfl, hI, hB6, hcap⟩
        rw [HWALK.out, HWN.out] at hI
        rw [HWALK.out, HWN.out] at hcap
        rw [HWALK.out, HWN.out]
        have e6 : Ext W0 w6 := ext_trans e5 hB6
        have HI := hid hI
        clear hI
        go_wp2_with fail
        refine (errand_x A n wc S pn pc wrong H hn hc T sn sc start calls women pieces home streets _ (KE.out.ext (ext_trans hW0 e6)) HMK.out).mono ?_
        rintro e w7 ⟨A7, wc7, S7, pc7, H7, hc7, T7, sc7, rfl, hE7, hB7⟩
        have e7 := ext_trans e6 hB7
        have HE7 := hid hE7
        clear hE7
        go_wp2_with fail
        refine (list_x (.slice V wn vc) walk wn _ (HI.out.ext hB7) HWN (by omega)).mono ?_
        rintro e w8 ⟨V8, vc8, rfl, hI8, hB8⟩
        have e8 := ext_trans e7 hB8
        have HI8 := hid hI8
        clear hI8
        go_wp2_with fail
        refine (prove_x A7 n wc7 S7 pn pc7 wrong H7 hn hc7 T7 sn sc7 start calls women pieces home streets (by omega) _ (HE7.out.ext hB8) _ walk HI8.out (wn : Int) _ HPB).mono ?_
        rintro e w9 ⟨rfl, hB9⟩
        have e9 := ext_trans e8 hB9
        go_wp2_with fail
        refine (errand_x A n wc S pn pc wrong H hn hc T sn sc start calls women pieces home streets _ (KE.out.ext (ext_trans hW0 e9)) HMK.out).mono ?_
        rintro e w10 ⟨A10, wc10, S10, pc10, H10, hc10, T10, sc10, rfl, hE10, hB10⟩
        have e10 := ext_trans e9 hB10
        have HE10 := hid hE10
        clear hE10
        go_wp2_with fail
        refine (list_x (.slice V wn vc) walk wn _ (HI.out.ext (ext_trans hB7 (ext_trans hB8 (ext_trans hB9 hB10)))) HWN (by omega)).mono ?_
        rintro e w11 ⟨V11, vc11, rfl, hI11, hB11⟩
        have e11 := ext_trans e10 hB11
        have HI11 := hid hI11
        clear hI11
        go_wp2_with fail
        refine (comes_x A10 n wc10 S10 pn pc10 wrong H10 hn hc10 T10 sn sc10 start calls women pieces home streets (by omega) _ (HE10.out.ext hB11) _ walk HI11.out C1 wn _ HC1 HC1N HC).mono ?_
        rintro e w12 ⟨LV12, lvc12, rfl, hL12, hB12⟩
        have e12 := ext_trans e11 hB12
        have HCC := hid hL12
        clear hL12
        have HWL := hid (HI.out.ext (ext_trans hB7 (ext_trans hB8 (ext_trans hB9 (ext_trans hB10 (ext_trans hB11 hB12))))))
        have HBB := hid (HBV.out.ext (ext_trans hB4 (ext_trans hB5 (ext_trans hB6 (ext_trans hB7 (ext_trans hB8 (ext_trans hB9 (ext_trans hB10 (ext_trans hB11 hB12)))))))))
        have HE12 := hid e12
        clear hB1 hB2 hB3 hB4 hB5 hB6 hB7 hB8 hB9 hB10 hB11 hB12 e1 e2 e3 e4 e5 e6 e7 e8 e9 e10 e11
        obtain ⟨cb, co, hV, hcc⟩ := HCC.out.at (by omega)
        subst hV
        obtain ⟨g1, g2⟩ := hcc (wn - 1) (by omega)
        rw [HEW.out.2 (by omega)] at g2
        have hkk : IntKind.i64.wrap ((wn : Int) - 1) = (wn : Int) - 1 := IntWalk.i64_in _ (by omega)
        have hk3 : (0 : Int) ≤ (wn : Int) - 1 := by omega
        have hk4 : (wn : Int) - 1 < (wn : Int) := by omega
        have hk5 : (0 : Int) < (wn : Int) := by omega
        have hkn : ((wn : Int) - 1).toNat = wn - 1 := by omega
        clear hcc
        go_wp2_with fail
        refine (errand_x A n wc S pn pc wrong H hn hc T sn sc start calls women pieces home streets _ (KE.out.ext (ext_trans hW0 e12)) HMK.out).mono ?_
        rintro e w13 ⟨A13, wc13, S13, pc13, H13, hc13, T13, sc13, rfl, hE13, hB13⟩
        have e13 := ext_trans e12 hB13
        have HE13 := hid hE13
        clear hE13
        go_wp2_with fail
        refine (list_x (.slice BV bn bvc) bl bn _ (HBB.out.ext hB13) HBN (by omega)).mono ?_
        rintro e w14 ⟨V14, vc14, rfl, hI14, hB14⟩
        have e14 := ext_trans e13 hB14
        have HI14 := hid hI14
        clear hI14
        go_wp2_with fail
        refine (prove_x A13 n wc13 S13 pn pc13 wrong H13 hn hc13 T13 sn sc13 start calls women pieces home streets (by omega) _ (HE13.out.ext hB14) _ bl HI14.out (bn : Int) _ HPB2).mono ?_
        rintro e w15 ⟨rfl, hB15⟩
        have e15 := ext_trans e14 hB15
        go_wp2_with fail
        refine (awake_c _).mono ?_
        rintro e wa ⟨rfl, hBa⟩
        go_wp2
        go_ret
        exact ⟨rfl, ext_trans hW0 (ext_trans e15 hBa)⟩
    · have hfl : ¬ (wn : Int) < fw := by
        have h1 := hpo.symm
        rw [okB, Bool.and_eq_true] at h1
        have := fewest_le he hwo h1.1
        rw [hfw, HWN.out] at this
        omega
      have HBT : Hid (betterF walk ew bl be = false) := hid (by rw [← hew, ← hnl]; exact z5 hpo.symm)
      clear hsh hsh2 hat hmk he hnl htl hwo hbc hbl hbn hbe hfw hpb hC1 hew hC1' hpo z1 z2 z3 z4 z5
      by_cases hw0 : wn = 0
      · have hk5 : ¬ (0 : Int) < (wn : Int) := by omega
        rw [HEW.out.1 hw0] at HBT
        have HW00 := hid hw0
        clear hw0
        obtain ⟨W0, hWd⟩ : ∃ W0, w.alloc (.cells #[.slice A n wc, .slice S pn pc, .int .i64 wrong, .slice H hn hc, .slice T sn sc, .int .i64 start, .int .i64 calls] 28) = W0 := ⟨_, rfl⟩
        have hW0 : Ext w W0 := by rw [← hWd]; go_grown
        have b1 : W0.heap[w.heap.size]? = some (.cells #[.slice A n wc, .slice S pn pc, .int .i64 wrong, .slice H hn hc, .slice T sn sc, .int .i64 start, .int .i64 calls] 28 (0, 0)) := by rw [← hWd]; exact (by repeat (first | exact heap_alloc_at _ _ (by simp) | refine heap_alloc_keep ?_))
        have f1 := ext_blk b1
        have HW0 := hid hWd
        have e0 : Ext W0 W0 := ext_refl W0
        clear hWd b1
        go_enter Tryz.func17, Tryz.ntmps17
        go_wp2_with fail
        rw [HW0.out]
        go_wp2_with fail
        refine (ready_x A n wc S pn pc wrong H hn hc T sn sc start calls women pieces home streets _ (KI.out.ext (ext_trans hW0 e0)) _ HSH).mono ?_
        rintro e w1 ⟨rfl, hB1⟩
        have e1 : Ext W0 w1 := ext_trans e0 hB1
        go_wp2_with fail
        refine (errand_x A n wc S pn pc wrong H hn hc T sn sc start calls women pieces home streets _ (KE.out.ext (ext_trans hW0 e1)) HMK.out).mono ?_
        rintro e w2 ⟨A2, wc2, S2, pc2, H2, hc2, T2, sc2, rfl, hE2, hB2⟩
        have e2 := ext_trans e1 hB2
        have HE2 := hid hE2
        clear hE2
        go_wp2_with fail
        refine (best_x A2 n wc2 S2 pn pc2 wrong H2 hn hc2 T2 sn sc2 start calls women pieces home streets _ HE2.out).mono ?_
        rintro e w3 ⟨bv, rfl, hbv, hB3⟩
        rw [HBL.out] at hbv
        obtain ⟨BV, bvc, rfl⟩ := hbv.val
        rw [HBN.out] at hbv
        rw [HBN.out, HBE.out, HBC.out]
        have e3 := ext_trans e2 hB3
        have HBV := hid hbv
        clear hbv
        go_wp2_with fail
        refine (errand_x A n wc S pn pc wrong H hn hc T sn sc start calls women pieces home streets _ (KE.out.ext (ext_trans hW0 e3)) HMK.out).mono ?_
        rintro e w4 ⟨A4, wc4, S4, pc4, H4, hc4, T4, sc4, rfl, hE4, hB4⟩
        have e4 := ext_trans e3 hB4
        have HE4 := hid hE4
        clear hE4
        go_wp2_with fail
        refine (fewest_c A4 n wc4 S4 pn pc4 wrong H4 hn hc4 T4 sn sc4 start calls women pieces home streets _ HE4.out).mono ?_
        rintro e w5 ⟨rfl, hB5⟩
        rw [HERR.out, HFW.out]
        have e5 := ext_trans e4 hB5
        go_wp2_with fail
        refine (walkedW_c A n wc (.slice S pn pc) wrong (.slice H hn hc) (.slice T sn sc) start calls hnb _ us _ (KU.out.ext (ext_trans hW0 e5))).mono ?_
        rintro e w6 ⟨V, vc, rfl, hI, hB6, hcap⟩
        rw [HWALK.out, HWN.out] at hI
        rw [HWALK.out, HWN.out] at hcap
        rw [HWALK.out, HWN.out]
        have e6 : Ext W0 w6 := ext_trans e5 hB6
        have HI := hid hI
        clear hI
        go_wp2_with fail
        refine (errand_x A n wc S pn pc wrong H hn hc T sn sc start calls women pieces home streets _ (KE.out.ext (ext_trans hW0 e6)) HMK.out).mono ?_
        rintro e w7 ⟨A7, wc7, S7, pc7, H7, hc7, T7, sc7, rfl, hE7, hB7⟩
        have e7 := ext_trans e6 hB7
        have HE7 := hid hE7
        clear hE7
        go_wp2_with fail
        refine (list_x (.slice V wn vc) walk wn _ (HI.out.ext hB7) HWN (by omega)).mono ?_
        rintro e w8 ⟨V8, vc8, rfl, hI8, hB8⟩
        have e8 := ext_trans e7 hB8
        have HI8 := hid hI8
        clear hI8
        go_wp2_with fail
        refine (prove_x A7 n wc7 S7 pn pc7 wrong H7 hn hc7 T7 sn sc7 start calls women pieces home streets (by omega) _ (HE7.out.ext hB8) _ walk HI8.out (wn : Int) _ HPB).mono ?_
        rintro e w9 ⟨rfl, hB9⟩
        have e9 := ext_trans e8 hB9
        go_wp2_with fail
        refine (errand_x A n wc S pn pc wrong H hn hc T sn sc start calls women pieces home streets _ (KE.out.ext (ext_trans hW0 e9)) HMK.out).mono ?_
        rintro e w10 ⟨A10, wc10, S10, pc10, H10, hc10, T10, sc10, rfl, hE10, hB10⟩
        have e10 := ext_trans e9 hB10
        have HE10 := hid hE10
        clear hE10
        go_wp2_with fail
        refine (list_x (.slice V wn vc) walk wn _ (HI.out.ext (ext_trans hB7 (ext_trans hB8 (ext_trans hB9 hB10)))) HWN (by omega)).mono ?_
        rintro e w11 ⟨V11, vc11, rfl, hI11, hB11⟩
        have e11 := ext_trans e10 hB11
        have HI11 := hid hI11
        clear hI11
        go_wp2_with fail
        refine (comes_x A10 n wc10 S10 pn pc10 wrong H10 hn hc10 T10 sn sc10 start calls women pieces home streets (by omega) _ (HE10.out.ext hB11) _ walk HI11.out C1 wn _ HC1 HC1N HC).mono ?_
        rintro e w12 ⟨LV12, lvc12, rfl, hL12, hB12⟩
        have e12 := ext_trans e11 hB12
        have HCC := hid hL12
        clear hL12
        have HWL := hid (HI.out.ext (ext_trans hB7 (ext_trans hB8 (ext_trans hB9 (ext_trans hB10 (ext_trans hB11 hB12))))))
        have HBB := hid (HBV.out.ext (ext_trans hB4 (ext_trans hB5 (ext_trans hB6 (ext_trans hB7 (ext_trans hB8 (ext_trans hB9 (ext_trans hB10 (ext_trans hB11 hB12)))))))))
        have HE12 := hid e12
        clear hB1 hB2 hB3 hB4 hB5 hB6 hB7 hB8 hB9 hB10 hB11 hB12 e1 e2 e3 e4 e5 e6 e7 e8 e9 e10 e11
        go_wp2_with fail
        refine (errand_x A n wc S pn pc wrong H hn hc T sn sc start calls women pieces home streets _ (KE.out.ext (ext_trans hW0 e12)) HMK.out).mono ?_
        rintro e w13 ⟨A13, wc13, S13, pc13, H13, hc13, T13, sc13, rfl, hE13, hB13⟩
        have e13 := ext_trans e12 hB13
        have HE13 := hid hE13
        clear hE13
        go_wp2_with fail
        refine (list_x (.slice BV bn bvc) bl bn _ (HBB.out.ext hB13) HBN (by omega)).mono ?_
        rintro e w14 ⟨V14, vc14, rfl, hI14, hB14⟩
        have e14 := ext_trans e13 hB14
        have HI14 := hid hI14
        clear hI14
        go_wp2_with fail
        refine (prove_x A13 n wc13 S13 pn pc13 wrong H13 hn hc13 T13 sn sc13 start calls women pieces home streets (by omega) _ (HE13.out.ext hB14) _ bl HI14.out (bn : Int) _ HPB2).mono ?_
        rintro e w15 ⟨rfl, hB15⟩
        have e15 := ext_trans e14 hB15
        go_wp2_with fail
        refine (betterR_c _ _ walk bl start be _ (HWL.out.ext (ext_trans hB13 (ext_trans hB14 hB15))) (HBB.out.ext (ext_trans hB13 (ext_trans hB14 hB15))) false HBT).mono ?_
        rintro e w16 ⟨rfl, hB16⟩
        have e16 := ext_trans e15 hB16
        go_wp2_with fail
        refine (awake_c _).mono ?_
        rintro e wa ⟨rfl, hBa⟩
        go_wp2
        go_ret
        exact ⟨rfl, ext_trans hW0 (ext_trans e16 hBa)⟩
      · skip
        obtain ⟨W0, hWd⟩ : ∃ W0, w.alloc (.cells #[.slice A n wc, .slice S pn pc, .int .i64 wrong, .slice H hn hc, .slice T sn sc, .int .i64 start, .int .i64 calls] 28) = W0 := ⟨_, rfl⟩
        have hW0 : Ext w W0 := by rw [← hWd]; go_grown
        have b1 : W0.heap[w.heap.size]? = some (.cells #[.slice A n wc, .slice S pn pc, .int .i64 wrong, .slice H hn hc, .slice T sn sc, .int .i64 start, .int .i64 calls] 28 (0, 0)) := by rw [← hWd]; exact (by repeat (first | exact heap_alloc_at _ _ (by simp) | refine heap_alloc_keep ?_))
        have f1 := ext_blk b1
        have HW0 := hid hWd
        have e0 : Ext W0 W0 := ext_refl W0
        clear hWd b1
        go_enter Tryz.func17, Tryz.ntmps17
        go_wp2_with fail
        rw [HW0.out]
        go_wp2_with fail
        refine (ready_x A n wc S pn pc wrong H hn hc T sn sc start calls women pieces home streets _ (KI.out.ext (ext_trans hW0 e0)) _ HSH).mono ?_
        rintro e w1 ⟨rfl, hB1⟩
        have e1 : Ext W0 w1 := ext_trans e0 hB1
        go_wp2_with fail
        refine (errand_x A n wc S pn pc wrong H hn hc T sn sc start calls women pieces home streets _ (KE.out.ext (ext_trans hW0 e1)) HMK.out).mono ?_
        rintro e w2 ⟨A2, wc2, S2, pc2, H2, hc2, T2, sc2, rfl, hE2, hB2⟩
        have e2 := ext_trans e1 hB2
        have HE2 := hid hE2
        clear hE2
        go_wp2_with fail
        refine (best_x A2 n wc2 S2 pn pc2 wrong H2 hn hc2 T2 sn sc2 start calls women pieces home streets _ HE2.out).mono ?_
        rintro e w3 ⟨bv, rfl, hbv, hB3⟩
        rw [HBL.out] at hbv
        obtain ⟨BV, bvc, rfl⟩ := hbv.val
        rw [HBN.out] at hbv
        rw [HBN.out, HBE.out, HBC.out]
        have e3 := ext_trans e2 hB3
        have HBV := hid hbv
        clear hbv
        go_wp2_with fail
        refine (errand_x A n wc S pn pc wrong H hn hc T sn sc start calls women pieces home streets _ (KE.out.ext (ext_trans hW0 e3)) HMK.out).mono ?_
        rintro e w4 ⟨A4, wc4, S4, pc4, H4, hc4, T4, sc4, rfl, hE4, hB4⟩
        have e4 := ext_trans e3 hB4
        have HE4 := hid hE4
        clear hE4
        go_wp2_with fail
        refine (fewest_c A4 n wc4 S4 pn pc4 wrong H4 hn hc4 T4 sn sc4 start calls women pieces home streets _ HE4.out).mono ?_
        rintro e w5 ⟨rfl, hB5⟩
        rw [HERR.out, HFW.out]
        have e5 := ext_trans e4 hB5
        go_wp2_with fail
        refine (walkedW_c A n wc (.slice S pn pc) wrong (.slice H hn hc) (.slice T sn sc) start calls hnb _ us _ (KU.out.ext (ext_trans hW0 e5))).mono ?_
        rintro e w6 ⟨V, vc, rfl, hI, hB6, hcap⟩
        rw [HWALK.out, HWN.out] at hI
        rw [HWALK.out, HWN.out] at hcap
        rw [HWALK.out, HWN.out]
        have e6 : Ext W0 w6 := ext_trans e5 hB6
        have HI := hid hI
        clear hI
        go_wp2_with fail
        refine (errand_x A n wc S pn pc wrong H hn hc T sn sc start calls women pieces home streets _ (KE.out.ext (ext_trans hW0 e6)) HMK.out).mono ?_
        rintro e w7 ⟨A7, wc7, S7, pc7, H7, hc7, T7, sc7, rfl, hE7, hB7⟩
        have e7 := ext_trans e6 hB7
        have HE7 := hid hE7
        clear hE7
        go_wp2_with fail
        refine (list_x (.slice V wn vc) walk wn _ (HI.out.ext hB7) HWN (by omega)).mono ?_
        rintro e w8 ⟨V8, vc8, rfl, hI8, hB8⟩
        have e8 := ext_trans e7 hB8
        have HI8 := hid hI8
        clear hI8
        go_wp2_with fail
        refine (prove_x A7 n wc7 S7 pn pc7 wrong H7 hn hc7 T7 sn sc7 start calls women pieces home streets (by omega) _ (HE7.out.ext hB8) _ walk HI8.out (wn : Int) _ HPB).mono ?_
        rintro e w9 ⟨rfl, hB9⟩
        have e9 := ext_trans e8 hB9
        go_wp2_with fail
        refine (errand_x A n wc S pn pc wrong H hn hc T sn sc start calls women pieces home streets _ (KE.out.ext (ext_trans hW0 e9)) HMK.out).mono ?_
        rintro e w10 ⟨A10, wc10, S10, pc10, H10, hc10, T10, sc10, rfl, hE10, hB10⟩
        have e10 := ext_trans e9 hB10
        have HE10 := hid hE10
        clear hE10
        go_wp2_with fail
        refine (list_x (.slice V wn vc) walk wn _ (HI.out.ext (ext_trans hB7 (ext_trans hB8 (ext_trans hB9 hB10)))) HWN (by omega)).mono ?_
        rintro e w11 ⟨V11, vc11, rfl, hI11, hB11⟩
        have e11 := ext_trans e10 hB11
        have HI11 := hid hI11
        clear hI11
        go_wp2_with fail
        refine (comes_x A10 n wc10 S10 pn pc10 wrong H10 hn hc10 T10 sn sc10 start calls women pieces home streets (by omega) _ (HE10.out.ext hB11) _ walk HI11.out C1 wn _ HC1 HC1N HC).mono ?_
        rintro e w12 ⟨LV12, lvc12, rfl, hL12, hB12⟩
        have e12 := ext_trans e11 hB12
        have HCC := hid hL12
        clear hL12
        have HWL := hid (HI.out.ext (ext_trans hB7 (ext_trans hB8 (ext_trans hB9 (ext_trans hB10 (ext_trans hB11 hB12))))))
        have HBB := hid (HBV.out.ext (ext_trans hB4 (ext_trans hB5 (ext_trans hB6 (ext_trans hB7 (ext_trans hB8 (ext_trans hB9 (ext_trans hB10 (ext_trans hB11 hB12)))))))))
        have HE12 := hid e12
        clear hB1 hB2 hB3 hB4 hB5 hB6 hB7 hB8 hB9 hB10 hB11 hB12 e1 e2 e3 e4 e5 e6 e7 e8 e9 e10 e11
        obtain ⟨cb, co, hV, hcc⟩ := HCC.out.at (by omega)
        subst hV
        obtain ⟨g1, g2⟩ := hcc (wn - 1) (by omega)
        rw [HEW.out.2 (by omega)] at g2
        have hkk : IntKind.i64.wrap ((wn : Int) - 1) = (wn : Int) - 1 := IntWalk.i64_in _ (by omega)
        have hk3 : (0 : Int) ≤ (wn : Int) - 1 := by omega
        have hk4 : (wn : Int) - 1 < (wn : Int) := by omega
        have hk5 : (0 : Int) < (wn : Int) := by omega
        have hkn : ((wn : Int) - 1).toNat = wn - 1 := by omega
        clear hcc
        go_wp2_with fail
        refine (errand_x A n wc S pn pc wrong H hn hc T sn sc start calls women pieces home streets _ (KE.out.ext (ext_trans hW0 e12)) HMK.out).mono ?_
        rintro e w13 ⟨A13, wc13, S13, pc13, H13, hc13, T13, sc13, rfl, hE13, hB13⟩
        have e13 := ext_trans e12 hB13
        have HE13 := hid hE13
        clear hE13
        go_wp2_with fail
        refine (list_x (.slice BV bn bvc) bl bn _ (HBB.out.ext hB13) HBN (by omega)).mono ?_
        rintro e w14 ⟨V14, vc14, rfl, hI14, hB14⟩
        have e14 := ext_trans e13 hB14
        have HI14 := hid hI14
        clear hI14
        go_wp2_with fail
        refine (prove_x A13 n wc13 S13 pn pc13 wrong H13 hn hc13 T13 sn sc13 start calls women pieces home streets (by omega) _ (HE13.out.ext hB14) _ bl HI14.out (bn : Int) _ HPB2).mono ?_
        rintro e w15 ⟨rfl, hB15⟩
        have e15 := ext_trans e14 hB15
        go_wp2_with fail
        refine (betterR_c _ _ walk bl ew be _ (HWL.out.ext (ext_trans hB13 (ext_trans hB14 hB15))) (HBB.out.ext (ext_trans hB13 (ext_trans hB14 hB15))) false HBT).mono ?_
        rintro e w16 ⟨rfl, hB16⟩
        have e16 := ext_trans e15 hB16
        go_wp2_with fail
        refine (awake_c _).mono ?_
        rintro e wa ⟨rfl, hBa⟩
        go_wp2
        go_ret
        exact ⟨rfl, ext_trans hW0 (ext_trans e16 hBa)⟩
  · obtain ⟨z1, z2⟩ := best_ten he (by rw [hbc]; exact hbc0) hwo
    obtain rfl : bc = 10 := by rw [← hbc, z1]
    obtain rfl : pb = false := by rw [hpo, z2]
    clear hsh hsh2 hat hmk he hnl htl hwo hbc hbl hbn hbe hfw hpb hC1 hew hC1' hpo z1 z2 hbc0
    obtain ⟨W0, hWd⟩ : ∃ W0, w.alloc (.cells #[.slice A n wc, .slice S pn pc, .int .i64 wrong, .slice H hn hc, .slice T sn sc, .int .i64 start, .int .i64 calls] 28) = W0 := ⟨_, rfl⟩
    have hW0 : Ext w W0 := by rw [← hWd]; go_grown
    have b1 : W0.heap[w.heap.size]? = some (.cells #[.slice A n wc, .slice S pn pc, .int .i64 wrong, .slice H hn hc, .slice T sn sc, .int .i64 start, .int .i64 calls] 28 (0, 0)) := by rw [← hWd]; exact (by repeat (first | exact heap_alloc_at _ _ (by simp) | refine heap_alloc_keep ?_))
    have f1 := ext_blk b1
    have HW0 := hid hWd
    have e0 : Ext W0 W0 := ext_refl W0
    clear hWd b1
    go_enter Tryz.func17, Tryz.ntmps17
    go_wp2_with fail
    rw [HW0.out]
    go_wp2_with fail
    refine (ready_x A n wc S pn pc wrong H hn hc T sn sc start calls women pieces home streets _ (KI.out.ext (ext_trans hW0 e0)) _ HSH).mono ?_
    rintro e w1 ⟨rfl, hB1⟩
    have e1 : Ext W0 w1 := ext_trans e0 hB1
    go_wp2_with fail
    refine (errand_x A n wc S pn pc wrong H hn hc T sn sc start calls women pieces home streets _ (KE.out.ext (ext_trans hW0 e1)) HMK.out).mono ?_
    rintro e w2 ⟨A2, wc2, S2, pc2, H2, hc2, T2, sc2, rfl, hE2, hB2⟩
    have e2 := ext_trans e1 hB2
    have HE2 := hid hE2
    clear hE2
    go_wp2_with fail
    refine (best_x A2 n wc2 S2 pn pc2 wrong H2 hn hc2 T2 sn sc2 start calls women pieces home streets _ HE2.out).mono ?_
    rintro e w3 ⟨bv, rfl, hbv, hB3⟩
    rw [HBL.out] at hbv
    obtain ⟨BV, bvc, rfl⟩ := hbv.val
    rw [HBN.out] at hbv
    rw [HBN.out, HBE.out, HBC.out]
    have e3 := ext_trans e2 hB3
    have HBV := hid hbv
    clear hbv
    go_wp2_with fail
    refine (errand_x A n wc S pn pc wrong H hn hc T sn sc start calls women pieces home streets _ (KE.out.ext (ext_trans hW0 e3)) HMK.out).mono ?_
    rintro e w4 ⟨A4, wc4, S4, pc4, H4, hc4, T4, sc4, rfl, hE4, hB4⟩
    have e4 := ext_trans e3 hB4
    have HE4 := hid hE4
    clear hE4
    go_wp2_with fail
    refine (fewest_c A4 n wc4 S4 pn pc4 wrong H4 hn hc4 T4 sn sc4 start calls women pieces home streets _ HE4.out).mono ?_
    rintro e w5 ⟨rfl, hB5⟩
    rw [HERR.out, HFW.out]
    have e5 := ext_trans e4 hB5
    go_wp2_with fail
    refine (walkedW_c A n wc (.slice S pn pc) wrong (.slice H hn hc) (.slice T sn sc) start calls hnb _ us _ (KU.out.ext (ext_trans hW0 e5))).mono ?_
    rintro e w6 ⟨V, vc, rfl, hI, hB6, hcap⟩
    rw [HWALK.out, HWN.out] at hI
    rw [HWALK.out, HWN.out] at hcap
    rw [HWALK.out, HWN.out]
    have e6 : Ext W0 w6 := ext_trans e5 hB6
    have HI := hid hI
    clear hI
    go_wp2_with fail
    refine (errand_x A n wc S pn pc wrong H hn hc T sn sc start calls women pieces home streets _ (KE.out.ext (ext_trans hW0 e6)) HMK.out).mono ?_
    rintro e w7 ⟨A7, wc7, S7, pc7, H7, hc7, T7, sc7, rfl, hE7, hB7⟩
    have e7 := ext_trans e6 hB7
    have HE7 := hid hE7
    clear hE7
    go_wp2_with fail
    refine (list_x (.slice V wn vc) walk wn _ (HI.out.ext hB7) HWN (by omega)).mono ?_
    rintro e w8 ⟨V8, vc8, rfl, hI8, hB8⟩
    have e8 := ext_trans e7 hB8
    have HI8 := hid hI8
    clear hI8
    go_wp2_with fail
    refine (prove_x A7 n wc7 S7 pn pc7 wrong H7 hn hc7 T7 sn sc7 start calls women pieces home streets (by omega) _ (HE7.out.ext hB8) _ walk HI8.out (wn : Int) _ HPB).mono ?_
    rintro e w9 ⟨rfl, hB9⟩
    have e9 := ext_trans e8 hB9
    go_wp2_with fail
    refine (errand_x A n wc S pn pc wrong H hn hc T sn sc start calls women pieces home streets _ (KE.out.ext (ext_trans hW0 e9)) HMK.out).mono ?_
    rintro e w10 ⟨A10, wc10, S10, pc10, H10, hc10, T10, sc10, rfl, hE10, hB10⟩
    have e10 := ext_trans e9 hB10
    have HE10 := hid hE10
    clear hE10
    go_wp2_with fail
    refine (list_x (.slice V wn vc) walk wn _ (HI.out.ext (ext_trans hB7 (ext_trans hB8 (ext_trans hB9 hB10)))) HWN (by omega)).mono ?_
    rintro e w11 ⟨V11, vc11, rfl, hI11, hB11⟩
    have e11 := ext_trans e10 hB11
    have HI11 := hid hI11
    clear hI11
    go_wp2_with fail
    refine (comes_x A10 n wc10 S10 pn pc10 wrong H10 hn hc10 T10 sn sc10 start calls women pieces home streets (by omega) _ (HE10.out.ext hB11) _ walk HI11.out C1 wn _ HC1 HC1N HC).mono ?_
    rintro e w12 ⟨LV12, lvc12, rfl, hL12, hB12⟩
    have e12 := ext_trans e11 hB12
    have HCC := hid hL12
    clear hL12
    have HWL := hid (HI.out.ext (ext_trans hB7 (ext_trans hB8 (ext_trans hB9 (ext_trans hB10 (ext_trans hB11 hB12))))))
    have HBB := hid (HBV.out.ext (ext_trans hB4 (ext_trans hB5 (ext_trans hB6 (ext_trans hB7 (ext_trans hB8 (ext_trans hB9 (ext_trans hB10 (ext_trans hB11 hB12)))))))))
    have HE12 := hid e12
    clear hB1 hB2 hB3 hB4 hB5 hB6 hB7 hB8 hB9 hB10 hB11 hB12 e1 e2 e3 e4 e5 e6 e7 e8 e9 e10 e11
    go_wp2_with fail
    refine (awake_c _).mono ?_
    rintro e wa ⟨rfl, hBa⟩
    go_wp2
    go_ret
    exact ⟨rfl, ext_trans hW0 (ext_trans e12 hBa)⟩
end
end Go.Proofs.YtlcakmbejjlmeaaGreat
/- The statement ErrandNoBetter, for every input: the row over its walk. -/
set_option linter.unusedVariables false
namespace Go.Proofs.YtlcakmbejjlmeaaGreat.ErrandNoBetterRow
open Go.ChangeShapes Go.WideShapes Go.ChangeAt Go.RowKit
theorem own : ownKnob Tryz.prog.godebug = none := by kernel_rfl
theorem laidOut : laidOutB Tryz.prog = true := by kernel_rfl
set_option maxRecDepth 100000 in
theorem lifted (os : Os) (started : os.Started) (H : Type) (enc : TypeId × Value → H) :
    ReturnsInHanded {} Tryz.checked os 17 .any (Rows.errandNoBetterSpec.pre6 enc Tryz.prog Tryz.f17 Rows.errandNoBetterRow.domain false) (Rows.errandNoBetterSpec.post enc Tryz.prog Tryz.f17 false true false false) := by
  refine returnsInHanded_of_change_sized (C := Tryz.checked) own started (by kernel_rfl) Tryz.func17
    (ChangeSpec.witness6 (enc := enc) (C := Tryz.checked) false ⟨#[], #[.agg #[.slice none 0 0, .slice none 0 0, .int .i64 0, .slice none 0 0, .slice none 0 0, .int .i64 0, .int .i64 0], .slice none 0 0], []⟩ 8 (by kernel_rfl) (by kernel_rfl) (by kernel_rfl) (by kernel_rfl)) ?_
  intro W base args ds gs before hval0 hW hcnd hsz0 _
  have hsz : (DataW.weightsEach Tryz.prog (Tryz.f17.params.toList ++ Rows.errandNoBetterSpec.plain.varTypes Tryz.prog) (ds ++ gs)).all (· ≤ reachBytes) = true := hsz0
  have hval : ∀ (j : Nat) t v, Tryz.f17.params[j]? = some t → args[j]? = some v → Value.okWide Tryz.prog W .any base t v := hval0
  have hW' := hW
  obtain ⟨p, q, hA0, hV, rfl, hfz, hnd⟩ := hW
  have hA : DataW.TrodAll enc Tryz.prog W 0 (fun _ => true) true Tryz.f17.params.toList args.toList ds p := hA0
  rw [Tryz.params17] at hA hval hsz
  obtain ⟨v0, vs0, d0, ds0, p0, q0, hargs, rfl, rfl, h0, r0⟩ := trodAll_cons hA
  obtain ⟨v1, vs1, d1, ds1, p1, q1, rfl, rfl, rfl, h1, r1⟩ := trodAll_cons r0
  obtain ⟨rfl, rfl, rfl⟩ := trodAll_nil r1
  obtain rfl : args = #[v0, v1] := by cases args; simp_all
  obtain ⟨rfl, rfl⟩ := trodVars_none hV
  have k0 := h0
  have lt0 : ∀ x ∈ p0, x.block < W.heap.size := by obtain ⟨m, hm⟩ := k0; exact DataW.trod_lt m _ _ _ hm
  have wk0 : WOk Tryz.prog 28 d0 := fun n hn => by
    have h := List.all_eq_true.1 hsz _ (DataW.weights_mem_each (j := 0) rfl rfl n hn)
    simpa using h
  obtain ⟨A0, n0, wc0, S0, pn0, pc0, wrong0, T0, hn0, hc0, U0, sn0, sc0, start0, calls0, women0, pieces0, home0, streets0, rfl, hW0, hwl0, hP0, hpl0, hH0, hhl0, hS0, hsl0, ws0, wcl0, wwr0⟩ := open_errW (hval 0 28 v0 rfl rfl) h0 wk0
  have k1 := h1
  have lt1 : ∀ x ∈ p1, x.block < W.heap.size := by obtain ⟨m, hm⟩ := k1; exact DataW.trod_lt m _ _ _ hm
  have wk1 : WOk Tryz.prog 69 d1 := fun n hn => by
    have h := List.all_eq_true.1 hsz _ (DataW.weights_mem_each (j := 1) rfl rfl n hn)
    simpa using h
  obtain ⟨a1, len1, cap1, rfl⟩ := okWide_slice Tryz.underlying69 (hval 1 69 v1 rfl rfl)
  obtain ⟨fuel1, hf1⟩ := h1
  obtain ⟨b1, m1, c1, xs1, hv1, hI1, hl1⟩ := open_u16W (by simpa [Value.cells] using hf1) wk1
  clear hA0 hval0 hsz0 hsz
  refine (nobetter_w A0 n0 wc0 S0 pn0 pc0 wrong0 T0 hn0 hc0 U0 sn0 sc0 start0 calls0 women0 pieces0 home0 streets0 W ⟨hW0, hwl0, hP0, hpl0, hH0, hhl0, hS0, hsl0⟩ _ xs1 hI1).mono fun e W' ⟨he, bel⟩ => ?_
  subst he
  exact ⟨_, rfl, _, _, _, [], _, [], hW', trodAll_mk1 (shut_bool Tryz.underlying4 _), (trodAll_cons_mk (Below.trod laidOut (by kernel_rfl) (of_decide_eq_true (by kernel_rfl)) k0 bel lt0) (trodAll_cons_mk (Below.trod laidOut (by kernel_rfl) (of_decide_eq_true (by kernel_rfl)) k1 bel lt1) trodAll_mk0)), rfl, bel.frame _, fun h => by cases h⟩
theorem over : Rows.errandNoBetterRow.holds Tryz.pinned (OpenSpec.ofChange Rows.errandNoBetterSpec) :=
  OpenClaim.holds_of_wide 17 Tryz.f17 rfl rfl rfl rfl rfl rfl rfl ⟨rfl, rfl, rfl, rfl, rfl⟩ rfl rfl rfl rfl rfl (by kernel_rfl) Tryz.func17 (by kernel_rfl)
    (of_decide_eq_true (by kernel_rfl)) (by unfold Func.isWrapper; rw [if_neg (of_decide_eq_false (by kernel_rfl))]; exact ⟨rfl, rfl⟩)
    (fun os started H enc _ => lifted os started H enc)
end Go.Proofs.YtlcakmbejjlmeaaGreat.ErrandNoBetterRow
namespace Go.Proofs.YtlcakmbejjlmeaaGreat
/-- ErrandNoBetter, for every input. -/
theorem errandNoBetter_holds : Rows.ErrandNoBetterSaid := ErrandNoBetterRow.over
#print axioms errandNoBetter_holds
end Go.Proofs.YtlcakmbejjlmeaaGreat
