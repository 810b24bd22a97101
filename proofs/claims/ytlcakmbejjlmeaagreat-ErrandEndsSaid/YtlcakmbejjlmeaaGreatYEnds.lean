/- The statement ErrandEnds: its body answers true. -/
import Derived.Test.YtlcakmbejjlmeaaGreatK13
import Derived.Test.YtlcakmbejjlmeaaGreatRows
import Derived.WalkKit
import Derived.ProofKit
import Derived.OpenShut
import Derived.ShutString
import Derived.ChangeOld
import Derived.Below
import Derived.SizedLaws
set_option linter.unusedVariables false
set_option linter.unusedSimpArgs false
namespace Go.Proofs.YtlcakmbejjlmeaaGreat
open Go.RowKit
theorem bnd_truth {streets : List Rng} (h : bndT 60 streets = true) : isTruthF streets (loL streets streets.length) = true ∧ isTruthF streets (hiL streets streets.length) = true := by
  have h1 : ∀ k, k < streets.length → rLo streets k ≤ rHi streets k := fun k hk => by
    rw [bndT, allT_iff] at h
    have h2 := h k hk
    rw [bndOk, Bool.and_eq_true, Bool.and_eq_true, decide_eq_true_eq, decide_eq_true_eq] at h2
    exact h2.1.2
  rw [isTruthF_iff, isTruthF_iff]
  refine ⟨⟨loL_len _ _, fun k hk => ?_⟩, hiL_len _ _, fun k hk => ?_⟩
  · rw [loL_at _ hk]; exact ⟨Int.le_refl _, h1 k hk⟩
  · rw [hiL_at _ hk]; exact ⟨h1 k hk, Int.le_refl _⟩
section
variable (A : Option Addr) (n wc : Nat) (S : Option Addr) (pn pc : Nat) (wrong : Int) (H : Option Addr) (hn hc : Nat) (T : Option Addr) (sn sc : Nat) (start calls : Int) (women : List Wom) (pieces : List Pce) (home streets : List Rng)
set_option maxHeartbeats 6400000 in
set_option maxRecDepth 100000 in
theorem ends_w (w : World) (h : ErrIn w A n wc S pn pc H hn hc T sn sc women pieces home streets) (uv : Value) (us : List Int) (hU : IsU16s w uv us) :
    Calls Tryz.prog 9 #[.agg #[.slice A n wc, .slice S pn pc, .int .i64 wrong, .slice H hn hc, .slice T sn sc, .int .i64 start, .int .i64 calls], uv] w
      fun e w' => e = .returned (.bool true) ∧ Ext w w' := by
  have KI := hid h
  have KU := hid hU
  obtain ⟨U, uc, rfl⟩ := hU.val
  obtain ⟨un, hun⟩ : ∃ x, us.length = x := ⟨_, rfl⟩
  rw [hun] at KU ⊢
  have hnb : n ≤ 140737488355328 := by have := h.W.1; rw [h.wl] at this; exact this
  obtain ⟨walk, hwalk⟩ : ∃ x, walkW n us = x := ⟨_, rfl⟩
  obtain ⟨wn, hwn⟩ : ∃ x, walk.length = x := ⟨_, rfl⟩
  have HWALK := hid hwalk
  have HWN := hid hwn
  have hok6 := walkW_ok n us
  rw [hwalk] at hok6
  have hw6 : wn ≤ 6 := by rw [← hwn]; exact hok6.len
  have HOK := hid hok6.ok
  obtain ⟨sh, hsh⟩ : ∃ x, readyF women pieces wrong home streets start calls = x := ⟨_, rfl⟩
  have HSH := hid hsh
  clear h hU hun hwalk hwn hok6
  cases sh
  · clear hsh
    obtain ⟨W0, hWd⟩ : ∃ W0, w.alloc (.cells #[.slice A n wc, .slice S pn pc, .int .i64 wrong, .slice H hn hc, .slice T sn sc, .int .i64 start, .int .i64 calls] 28) = W0 := ⟨_, rfl⟩
    have hW0 : Ext w W0 := by rw [← hWd]; go_grown
    have b1 : W0.heap[w.heap.size]? = some (.cells #[.slice A n wc, .slice S pn pc, .int .i64 wrong, .slice H hn hc, .slice T sn sc, .int .i64 start, .int .i64 calls] 28 (0, 0)) := by rw [← hWd]; exact (by repeat (first | exact heap_alloc_at _ _ (by simp) | refine heap_alloc_keep ?_))
    have f1 := ext_blk b1
    have HW0 := hid hWd
    have e0 : Ext W0 W0 := ext_refl W0
    clear hWd b1
    go_enter Tryz.func9, Tryz.ntmps9
    go_wp2_with fail
    rw [HW0.out]
    go_wp2_with fail
    refine (ready_x A n wc S pn pc wrong H hn hc T sn sc start calls women pieces home streets _ (KI.out.ext (ext_trans hW0 e0)) _ HSH).mono ?_
    rintro e w1 ⟨rfl, hB1⟩
    have e1 : Ext W0 w1 := ext_trans e0 hB1
    go_wp2_with fail
    refine (awake_c _).mono ?_
    rintro e wa ⟨rfl, hBa⟩
    go_wp2
    go_ret
    exact ⟨rfl, ext_trans hW0 (ext_trans e1 hBa)⟩
  have hsh2 := hsh
  rw [readyF, Bool.and_eq_true, decide_eq_true_eq] at hsh2
  obtain ⟨hat, hn30, hmk⟩ := KI.out.at (thinF_short hsh2.1)
  have KE := hid hat
  have HMK := hid hmk
  have he := hsh2.2
  obtain ⟨hnn, hok⟩ := errOk_of KE.out he
  have hz := errE_zero he
  have hnn' : n = hn := hnn.symm
  subst hnn'
  have hnl : women.length = n := hat.wl
  have KO := hid hok
  have HSN : Hid (sn = n * (n + 1) / 2) := hid (by rw [← KE.out.tl, hz.2.2.2.2.2.1, KE.out.wl])
  have htl : streets.length = sn := hat.tl
  have HC : Hid (walkC women pieces wrong home streets start calls walk = 0) := hid (walkC_zero he (by rw [hnl]; exact HOK.out))
  have hT := bnd_truth hz.2.2.2.2.2.2.2.2.2
  have HP0 : Hid (playC women pieces wrong home streets start calls (loL streets sn) walk = 0) := hid (by rw [playC, he, (isWalkF_iff _ _).2 (by rw [hnl]; exact HOK.out), ← htl, hT.1]; rfl)
  have HP1 : Hid (playC women pieces wrong home streets start calls (hiL streets sn) walk = 0) := hid (by rw [playC, he, (isWalkF_iff _ _).2 (by rw [hnl]; exact HOK.out), ← htl, hT.2]; rfl)
  obtain ⟨R0, hR0⟩ : ∃ x, playL women pieces wrong home streets start calls (loL streets sn) walk = x := ⟨_, rfl⟩
  obtain ⟨R1, hR1⟩ : ∃ x, playL women pieces wrong home streets start calls (hiL streets sn) walk = x := ⟨_, rfl⟩
  obtain ⟨C1, hC1⟩ : ∃ x, comesL women pieces wrong home streets start calls walk = x := ⟨_, rfl⟩
  have HR0 := hid hR0
  have HR1 := hid hR1
  have HC1 := hid hC1
  have hR0' : R0 = callsL n (rLo home) (rngM (rLo streets) sn) start walk := by
    rw [← hR0, playL, if_pos HP0.out, hnl, rngM_self, loL_fun]
  have hR1' : R1 = callsL n (rLo home) (rngM (rHi streets) sn) start walk := by
    rw [← hR1, playL, if_pos HP1.out, hnl, rngM_self, hiL_fun]
  have hC1' : C1 = comesK n home streets start walk wn := by rw [← hC1, comesL, if_pos HC.out, hnl, HWN.out]
  have HR0N : Hid (R0.length = wn) := hid (by rw [hR0', callsL_len, HWN.out])
  have HR1N : Hid (R1.length = wn) := hid (by rw [hR1', callsL_len, HWN.out])
  have HC1N : Hid (C1.length = wn) := hid (by rw [hC1', comesK_len])
  have HEQ : Hid (∀ k, k < wn → at0 R0 k = rLo C1 k ∧ at0 R1 k = rHi C1 k) := hid (fun k hk => by
    rw [hR0', hR1', hC1', (comesK_at _ _ _ _ _ hk).1, (comesK_at _ _ _ _ _ hk).2, callsL_at _ _ _ _ _ (by rw [HWN.out]; exact hk), callsL_at _ _ _ _ _ (by rw [HWN.out]; exact hk), htl]
    exact ⟨rfl, rfl⟩)
  have hs10 : sn ≤ 10 := by have := KO.out.s10; omega
  clear hsh hsh2 hat hmk he hnn hok hz hnl htl hT hR0 hR1 hC1 hR0' hR1' hC1'
  obtain ⟨W0, hWd⟩ : ∃ W0, w.alloc (.cells #[.slice A n wc, .slice S pn pc, .int .i64 wrong, .slice H n hc, .slice T sn sc, .int .i64 start, .int .i64 calls] 28) = W0 := ⟨_, rfl⟩
  have hW0 : Ext w W0 := by rw [← hWd]; go_grown
  have b1 : W0.heap[w.heap.size]? = some (.cells #[.slice A n wc, .slice S pn pc, .int .i64 wrong, .slice H n hc, .slice T sn sc, .int .i64 start, .int .i64 calls] 28 (0, 0)) := by rw [← hWd]; exact (by repeat (first | exact heap_alloc_at _ _ (by simp) | refine heap_alloc_keep ?_))
  have f1 := ext_blk b1
  have HW0 := hid hWd
  have e0 : Ext W0 W0 := ext_refl W0
  clear hWd b1
  go_enter Tryz.func9, Tryz.ntmps9
  go_wp2_with fail
  rw [HW0.out]
  go_wp2_with fail
  refine (ready_x A n wc S pn pc wrong H n hc T sn sc start calls women pieces home streets _ (KI.out.ext (ext_trans hW0 e0)) _ HSH).mono ?_
  rintro e w1 ⟨rfl, hB1⟩
  have e1 : Ext W0 w1 := ext_trans e0 hB1
  go_wp2_with fail
  refine (walkedW_c A n wc (.slice S pn pc) wrong (.slice H n hc) (.slice T sn sc) start calls hnb _ us _ (KU.out.ext (ext_trans hW0 e1))).mono ?_
  rintro e w2 ⟨V, vc, rfl, hI, hB2, hcap⟩
  rw [HWALK.out, HWN.out] at hI
  rw [HWALK.out, HWN.out] at hcap
  rw [HWALK.out, HWN.out]
  have e2 : Ext W0 w2 := ext_trans e1 hB2
  have HI := hid hI
  clear hI
  have E2 := hid (ext_trans hW0 e2)
  have f2 : ∀ W, Ext w2 W → ∀ j, W.cell? ⟨w.heap.size, j, none⟩ = (#[.slice A n wc, .slice S pn pc, .int .i64 wrong, .slice H n hc, .slice T sn sc, .int .i64 start, .int .i64 calls] : Array Value)[j]? := fun W h => f1 W (ext_trans e2 h)
  go_wp2_with fail
  refine wp_cutR (fun a0 a' w' => ∃ x0 x1 x2 x3 x4 x5 x6 x7 LV3 lvc3, a' = { tmps := (((((((((((a0.tmps.setIfInBounds 21 x0).setIfInBounds 22 x1).setIfInBounds 23 x2).setIfInBounds 24 x3).setIfInBounds 25 x4).setIfInBounds 26 x5).setIfInBounds 27 x6).setIfInBounds 20 x7).setIfInBounds 28 (.slice LV3 wn lvc3)).setIfInBounds 29 (.int .i64 0)).setIfInBounds 6 (.slice LV3 wn lvc3)).setIfInBounds 7 (.int .i64 0), defers := a0.defers } ∧ IsInts w' (.slice LV3 wn lvc3) R0 ∧ Ext w2 w') ?_ ?_
  · have e0 := ext_refl w2
    go_region_held3 (fun W => Ext w2 W)
      (first | exact Below.drew (by assumption) | assumption | exact ext_trans (by assumption) (by assumption))
      (first
        | (go_at_call 23; (with_reducible refine (errand_x A n wc S pn pc wrong H n hc T sn sc start calls women pieces home streets _ (KE.out.ext (ext_trans E2.out (by first | assumption | exact Below.drew (by assumption)))) HMK.out).mono ?_); rintro e we ⟨A7, wc7, S7, pc7, H7, hc7, T7, sc7, rfl, hE7, hBe⟩; have HE7 := hid hE7; clear hE7)
        | (go_at_call 33; (with_reducible refine (least_c _ _ _ wrong start calls T sn sc streets _ (KO.out.rs.ext (ext_trans E2.out (by first | assumption | exact Below.drew (by assumption)))) (by have := KO.out.s10; omega)).mono ?_); rintro e wl ⟨lov, rfl, hlov, hBl⟩; have HLO := hid hlov; clear hlov)
        | (go_at_call 24; (with_reducible refine (list_x (.slice V wn vc) walk wn _ (HI.out.ext (by first | assumption | exact Below.drew (by assumption))) HWN (by omega)).mono ?_); rintro e wi ⟨V7, vc7, rfl, hI7, hBi⟩; have HI7 := hid hI7; clear hI7)
        | (go_at_call 22; (with_reducible refine (play_x A7 n wc7 S7 pn pc7 wrong H7 n hc7 T7 sn sc7 start calls women pieces home streets (by omega) _ (HE7.out.ext (by first | exact ext_refl _ | exact hBl | exact hBi | exact ext_trans hBl hBi | exact ext_trans hBi hBl)) lov _ (loL streets sn) walk (HLO.out.ext (by first | exact ext_refl _ | exact hBe | exact hBi | exact ext_trans hBe hBi | exact ext_trans hBi hBe)) (HI7.out.ext (by first | exact ext_refl _ | exact hBe | exact hBl | exact ext_trans hBe hBl | exact ext_trans hBl hBe)) R0 wn 0 HR0 HR0N HP0).mono ?_); rintro e wp ⟨LV, lvc, rfl, hLp, hBp⟩; have HLp := hid hLp; clear hLp))
    all_goals exact ⟨rfl, .agg #[.slice A n wc, .slice S pn pc, .int .i64 wrong, .slice H n hc, .slice T sn sc, .int .i64 start, .int .i64 calls], .agg #[.slice A7 n wc7, .slice S7 pn pc7, .int .i64 wrong, .slice H7 n hc7, .slice T7 sn sc7, .int .i64 start, .int .i64 calls], .agg #[.slice A n wc, .slice S pn pc, .int .i64 wrong, .slice H n hc, .slice T sn sc, .int .i64 start, .int .i64 calls], lov, .slice V wn vc, .slice V7 wn vc7, .tuple #[.slice LV wn lvc, .int .i64 0], .tuple #[.slice LV wn lvc, .int .i64 0], LV, lvc, by kernel_rfl, HLp.out, by assumption⟩
  rintro a' w3 ⟨x0, x1, x2, x3, x4, x5, x6, x7, LV3, lvc3, rfl, hL3, hB3⟩
  simp only [List.setIfInBounds_toArray, List.set_cons_zero, List.set_cons_succ]
  have e3 := ext_trans e2 hB3
  have HL3 := hid hL3
  clear hL3 f2
  replace HI := hid (HI.out.ext hB3)
  have E3 := hid (ext_trans hW0 e3)
  have f3 : ∀ W, Ext w3 W → ∀ j, W.cell? ⟨w.heap.size, j, none⟩ = (#[.slice A n wc, .slice S pn pc, .int .i64 wrong, .slice H n hc, .slice T sn sc, .int .i64 start, .int .i64 calls] : Array Value)[j]? := fun W h => f1 W (ext_trans e3 h)
  go_wp2_with fail
  refine wp_cutR (fun a0 a' w' => ∃ y0 y1 y2 y3 y4 y5 y6 y7 LV4 lvc4, a' = { tmps := (((((((((((a0.tmps.setIfInBounds 31 y0).setIfInBounds 32 y1).setIfInBounds 33 y2).setIfInBounds 34 y3).setIfInBounds 35 y4).setIfInBounds 36 y5).setIfInBounds 37 y6).setIfInBounds 30 y7).setIfInBounds 38 (.slice LV4 wn lvc4)).setIfInBounds 39 (.int .i64 0)).setIfInBounds 8 (.slice LV4 wn lvc4)).setIfInBounds 9 (.int .i64 0), defers := a0.defers } ∧ IsInts w' (.slice LV4 wn lvc4) R1 ∧ Ext w3 w') ?_ ?_
  · have e0 := ext_refl w3
    go_region_held3 (fun W => Ext w3 W)
      (first | exact Below.drew (by assumption) | assumption | exact ext_trans (by assumption) (by assumption))
      (first
        | (go_at_call 23; (with_reducible refine (errand_x A n wc S pn pc wrong H n hc T sn sc start calls women pieces home streets _ (KE.out.ext (ext_trans E3.out (by first | assumption | exact Below.drew (by assumption)))) HMK.out).mono ?_); rintro e we ⟨A7, wc7, S7, pc7, H7, hc7, T7, sc7, rfl, hE7, hBe⟩; have HE7 := hid hE7; clear hE7)
        | (go_at_call 34; (with_reducible refine (greatest_c _ _ _ wrong start calls T sn sc streets _ (KO.out.rs.ext (ext_trans E3.out (by first | assumption | exact Below.drew (by assumption)))) (by have := KO.out.s10; omega)).mono ?_); rintro e wl ⟨lov, rfl, hlov, hBl⟩; have HLO := hid hlov; clear hlov)
        | (go_at_call 24; (with_reducible refine (list_x (.slice V wn vc) walk wn _ (HI.out.ext (by first | assumption | exact Below.drew (by assumption))) HWN (by omega)).mono ?_); rintro e wi ⟨V7, vc7, rfl, hI7, hBi⟩; have HI7 := hid hI7; clear hI7)
        | (go_at_call 22; (with_reducible refine (play_x A7 n wc7 S7 pn pc7 wrong H7 n hc7 T7 sn sc7 start calls women pieces home streets (by omega) _ (HE7.out.ext (by first | exact ext_refl _ | exact hBl | exact hBi | exact ext_trans hBl hBi | exact ext_trans hBi hBl)) lov _ (hiL streets sn) walk (HLO.out.ext (by first | exact ext_refl _ | exact hBe | exact hBi | exact ext_trans hBe hBi | exact ext_trans hBi hBe)) (HI7.out.ext (by first | exact ext_refl _ | exact hBe | exact hBl | exact ext_trans hBe hBl | exact ext_trans hBl hBe)) R1 wn 0 HR1 HR1N HP1).mono ?_); rintro e wp ⟨LV, lvc, rfl, hLp, hBp⟩; have HLp := hid hLp; clear hLp))
    all_goals exact ⟨rfl, .agg #[.slice A n wc, .slice S pn pc, .int .i64 wrong, .slice H n hc, .slice T sn sc, .int .i64 start, .int .i64 calls], .agg #[.slice A7 n wc7, .slice S7 pn pc7, .int .i64 wrong, .slice H7 n hc7, .slice T7 sn sc7, .int .i64 start, .int .i64 calls], .agg #[.slice A n wc, .slice S pn pc, .int .i64 wrong, .slice H n hc, .slice T sn sc, .int .i64 start, .int .i64 calls], lov, .slice V wn vc, .slice V7 wn vc7, .tuple #[.slice LV wn lvc, .int .i64 0], .tuple #[.slice LV wn lvc, .int .i64 0], LV, lvc, by kernel_rfl, HLp.out, by assumption⟩
  rintro a' w4 ⟨y0, y1, y2, y3, y4, y5, y6, y7, LV4, lvc4, rfl, hL4, hB4⟩
  simp only [List.setIfInBounds_toArray, List.set_cons_zero, List.set_cons_succ]
  have e4 := ext_trans e3 hB4
  have HL4 := hid hL4
  clear hL4 f3
  replace HI := hid (HI.out.ext hB4)
  go_wp2_with fail
  refine (errand_x A n wc S pn pc wrong H n hc T sn sc start calls women pieces home streets _ (KE.out.ext (ext_trans hW0 e4)) HMK.out).mono ?_
  rintro e w5 ⟨A5, wc5, S5, pc5, H5, hc5, T5, sc5, rfl, hE5, hB5⟩
  have e5 := ext_trans e4 hB5
  have HE5 := hid hE5
  clear hE5
  go_wp2_with fail
  refine (list_x (.slice V wn vc) walk wn _ (HI.out.ext hB5) HWN (by omega)).mono ?_
  rintro e w6 ⟨V6, vc6, rfl, hI6, hB6⟩
  have e6 := ext_trans e5 hB6
  have HI6 := hid hI6
  clear hI6
  go_wp2_with fail
  refine (comes_x A5 n wc5 S5 pn pc5 wrong H5 n hc5 T5 sn sc5 start calls women pieces home streets (by omega) _ (HE5.out.ext hB6) _ walk HI6.out C1 wn _ HC1 HC1N HC).mono ?_
  rintro e w7 ⟨LV7, lvc7, rfl, hL7, hB7⟩
  have e7 := ext_trans e6 hB7
  have HCC := hid hL7
  have HLA := hid (HL3.out.ext (ext_trans hB4 (ext_trans hB5 (ext_trans hB6 hB7))))
  have HLB := hid (HL4.out.ext (ext_trans hB5 (ext_trans hB6 hB7)))
  have E7 := hid (ext_trans hW0 e7)
  clear hL7 hB1 hB2 hB3 hB4 hB5 hB6 hB7 e1 e2 e3 e4 e5 e6 e7 f1
  go_wp2_with fail
  go_loopw [12] (fun i wr => ∃ k : Nat, k ≤ wn ∧ i = .int .i64 k ∧ Ext w7 wr) (fun i _ => wn - (intOf i).toNat)
  case atStart => exact ⟨0, Nat.zero_le _, rfl, ext_refl _⟩
  case round =>
    obtain ⟨k, hk, rfl, hE⟩ := hrel
    by_cases hlt : k < wn
    · obtain ⟨cb, co, hV, hcc⟩ := (HCC.out.ext hE).at (by omega)
      subst hV
      obtain ⟨ab, ao, hV, hac⟩ := (HLA.out.ext hE).at (by omega)
      subst hV
      obtain ⟨bb, bo, hV, hbc⟩ := (HLB.out.ext hE).at (by omega)
      subst hV
      obtain ⟨g1, g2⟩ := hcc k hlt
      have g3 := hac k hlt
      have g4 := hbc k hlt
      rw [(HEQ.out k hlt).1] at g3
      rw [(HEQ.out k hlt).2] at g4
      obtain ⟨ma, hma⟩ : ∃ x, rLo C1 k = x := ⟨_, rfl⟩
      obtain ⟨mb, hmb⟩ : ∃ x, rHi C1 k = x := ⟨_, rfl⟩
      rw [hma] at g1 g3
      rw [hmb] at g2 g4
      have g5 := ext_cell g1 (ext_refl wr) (Nat.le_refl _)
      have g6 := ext_cell g2 (ext_refl wr) (Nat.le_refl _)
      have g7 := ext_cell g3 (ext_refl wr) (Nat.le_refl _)
      have g8 := ext_cell g4 (ext_refl wr) (Nat.le_refl _)
      have hi0 : (0 : Int) ≤ (k : Int) := by omega
      have hi1 : (k : Int) < (wn : Int) := by omega
      have e0 := ext_refl wr
      clear hcc hac hbc g1 g2 g3 g4 hma hmb
      go_wp2
      go_region_held3 (fun W => Ext wr W)
        (first | exact Below.drew (by assumption) | assumption | exact ext_trans (by assumption) (by assumption))
        ((go_at_call 35; refine (between_c _ _ _).mono ?_; rintro e wt ⟨rfl, hBt⟩))
      have et : Ext wr wt := by assumption
      clear g5 g6 g7 g8
      go_wp2
      go_roundw
      case rel => exact ⟨k + 1, hlt, by go_num, ext_trans hE et⟩
      case measure => simp [intOf]; omega
    · obtain rfl : wn = k := by omega
      go_wp2_with fail
      refine (awake_c _).mono ?_
      rintro e wa ⟨rfl, hBa⟩
      go_wp2
      go_ret
      exact ⟨rfl, ext_trans E7.out (ext_trans hE hBa)⟩
end
end Go.Proofs.YtlcakmbejjlmeaaGreat
/- The statement ErrandEnds, for every input: the row over its walk. -/
set_option linter.unusedVariables false
namespace Go.Proofs.YtlcakmbejjlmeaaGreat.ErrandEndsRow
open Go.ChangeShapes Go.WideShapes Go.ChangeAt Go.RowKit
theorem own : ownKnob Tryz.prog.godebug = none := by kernel_rfl
theorem laidOut : laidOutB Tryz.prog = true := by kernel_rfl
set_option maxRecDepth 100000 in
theorem lifted (os : Os) (started : os.Started) (H : Type) (enc : TypeId × Value → H) :
    ReturnsInHanded {} Tryz.checked os 9 .any (Rows.errandEndsSpec.pre6 enc Tryz.prog Tryz.f9 Rows.errandEndsRow.domain false) (Rows.errandEndsSpec.post enc Tryz.prog Tryz.f9 false true false false) := by
  refine returnsInHanded_of_change_sized (C := Tryz.checked) own started (by kernel_rfl) Tryz.func9
    (ChangeSpec.witness6 (enc := enc) (C := Tryz.checked) false ⟨#[], #[.agg #[.slice none 0 0, .slice none 0 0, .int .i64 0, .slice none 0 0, .slice none 0 0, .int .i64 0, .int .i64 0], .slice none 0 0], []⟩ 8 (by kernel_rfl) (by kernel_rfl) (by kernel_rfl) (by kernel_rfl)) ?_
  intro W base args ds gs before hval0 hW hcnd hsz0 _
  have hsz : (DataW.weightsEach Tryz.prog (Tryz.f9.params.toList ++ Rows.errandEndsSpec.plain.varTypes Tryz.prog) (ds ++ gs)).all (· ≤ reachBytes) = true := hsz0
  have hval : ∀ (j : Nat) t v, Tryz.f9.params[j]? = some t → args[j]? = some v → Value.okWide Tryz.prog W .any base t v := hval0
  have hW' := hW
  obtain ⟨p, q, hA0, hV, rfl, hfz, hnd⟩ := hW
  have hA : DataW.TrodAll enc Tryz.prog W 0 (fun _ => true) true Tryz.f9.params.toList args.toList ds p := hA0
  rw [Tryz.params9] at hA hval hsz
  obtain ⟨v0, vs0, d0, ds0, p0, q0, hargs, rfl, rfl, h0, r0⟩ := trodAll_cons hA
  obtain ⟨v1, vs1, d1, ds1, p1, q1, rfl, rfl, rfl, h1, r1⟩ := trodAll_cons r0
  obtain ⟨rfl, rfl, rfl⟩ := trodAll_nil r1
  obtain rfl : args = #[v0, v1] := by cases args; simp_all
  obtain ⟨rfl, rfl⟩ := trodVars_none hV
  have k0 := h0
  have lt0 : ∀ x ∈ p0, x.block < W.heap.size := by obtain ⟨m, hm⟩ := k0; exact DataW.trod_lt m _ _ _ hm
  have wk0 : WOk Tryz.prog 28 d0 := fun n hn => by
    have h := List.all_eq_true.1 hsz _ (DataW.weights_mem_each (j := 0) rfl rfl n hn)
    simpa using h
  obtain ⟨A0, n0, wc0, S0, pn0, pc0, wrong0, T0, hn0, hc0, U0, sn0, sc0, start0, calls0, women0, pieces0, home0, streets0, rfl, hW0, hwl0, hP0, hpl0, hH0, hhl0, hS0, hsl0, ws0, wcl0, wwr0⟩ := open_errW (hval 0 28 v0 rfl rfl) h0 wk0
  have k1 := h1
  have lt1 : ∀ x ∈ p1, x.block < W.heap.size := by obtain ⟨m, hm⟩ := k1; exact DataW.trod_lt m _ _ _ hm
  have wk1 : WOk Tryz.prog 69 d1 := fun n hn => by
    have h := List.all_eq_true.1 hsz _ (DataW.weights_mem_each (j := 1) rfl rfl n hn)
    simpa using h
  obtain ⟨a1, len1, cap1, rfl⟩ := okWide_slice Tryz.underlying69 (hval 1 69 v1 rfl rfl)
  obtain ⟨fuel1, hf1⟩ := h1
  obtain ⟨b1, m1, c1, xs1, hv1, hI1, hl1⟩ := open_u16W (by simpa [Value.cells] using hf1) wk1
  clear hA0 hval0 hsz0 hsz
  refine (ends_w A0 n0 wc0 S0 pn0 pc0 wrong0 T0 hn0 hc0 U0 sn0 sc0 start0 calls0 women0 pieces0 home0 streets0 W ⟨hW0, hwl0, hP0, hpl0, hH0, hhl0, hS0, hsl0⟩ _ xs1 hI1).mono fun e W' ⟨he, bel⟩ => ?_
  subst he
  exact ⟨_, rfl, _, _, _, [], _, [], hW', trodAll_mk1 (shut_bool Tryz.underlying4 _), (trodAll_cons_mk (Below.trod laidOut (by kernel_rfl) (of_decide_eq_true (by kernel_rfl)) k0 bel lt0) (trodAll_cons_mk (Below.trod laidOut (by kernel_rfl) (of_decide_eq_true (by kernel_rfl)) k1 bel lt1) trodAll_mk0)), rfl, bel.frame _, fun h => by cases h⟩
theorem over : Rows.errandEndsRow.holds Tryz.pinned (OpenSpec.ofChange Rows.errandEndsSpec) :=
  OpenClaim.holds_of_wide 9 Tryz.f9 rfl rfl rfl rfl rfl rfl rfl ⟨rfl, rfl, rfl, rfl, rfl⟩ rfl rfl rfl rfl rfl (by kernel_rfl) Tryz.func9 (by kernel_rfl)
    (of_decide_eq_true (by kernel_rfl)) (by unfold Func.isWrapper; rw [if_neg (of_decide_eq_false (by kernel_rfl))]; exact ⟨rfl, rfl⟩)
    (fun os started H enc _ => lifted os started H enc)
end Go.Proofs.YtlcakmbejjlmeaaGreat.ErrandEndsRow
namespace Go.Proofs.YtlcakmbejjlmeaaGreat
/-- ErrandEnds, for every input. -/
theorem errandEnds_holds : Rows.ErrandEndsSaid := ErrandEndsRow.over
#print axioms errandEnds_holds
end Go.Proofs.YtlcakmbejjlmeaaGreat
