/- The statement ErrandPlays: its body answers true. -/
import Derived.Test.YtlcakmbejjlmeaaGreatK8
import Derived.Test.YtlcakmbejjlmeaaGreatRows
import Derived.WalkKit
import Derived.ProofKit
import Derived.OpenShut
import Derived.ShutString
import Derived.ChangeOld
import Derived.Below
import Derived.SizedLaws
set_option linter.unusedVariables false
set_option linter.unusedSimpArgs false
namespace Go.Proofs.YtlcakmbejjlmeaaGreat
open Go.RowKit

section
variable (A : Option Addr) (n wc : Nat) (S : Option Addr) (pn pc : Nat) (wrong : Int) (H : Option Addr) (hn hc : Nat) (T : Option Addr) (sn sc : Nat) (start calls : Int) (women : List Wom) (pieces : List Pce) (home streets : List Rng)
set_option maxHeartbeats 6400000 in
set_option maxRecDepth 100000 in
theorem plays_w (w : World) (h : ErrIn w A n wc S pn pc H hn hc T sn sc women pieces home streets) (tv : Value) (truth : List Int) (hT : IsInts w tv truth) (wv : Value) (walk : List Int) (hW : IsInts w wv walk) :
    Calls Tryz.prog 3 #[.agg #[.slice A n wc, .slice S pn pc, .int .i64 wrong, .slice H hn hc, .slice T sn sc, .int .i64 start, .int .i64 calls], tv, wv] w
      fun e w' => e = .returned (.bool true) ∧ Ext w w' := by
  have KI := hid h
  have KT := hid hT
  have KW := hid hW
  obtain ⟨U, uc, rfl⟩ := hT.val
  obtain ⟨V, vc, rfl⟩ := hW.val
  obtain ⟨tn, htn⟩ : ∃ x, truth.length = x := ⟨_, rfl⟩
  obtain ⟨wn, hwn⟩ : ∃ x, walk.length = x := ⟨_, rfl⟩
  have htb := hT.1
  have hwb := hW.1
  rw [htn] at KT htb ⊢
  rw [hwn] at KW hwb ⊢
  have HTN := hid htn
  have HWN := hid hwn
  obtain ⟨sh, hsh⟩ : ∃ x, shortF women pieces home streets = x := ⟨_, rfl⟩
  have HSH := hid hsh
  clear h hT hW htn hwn
  cases sh
  · clear hsh
    obtain ⟨W0, hWd⟩ : ∃ W0, w.alloc (.cells #[.slice A n wc, .slice S pn pc, .int .i64 wrong, .slice H hn hc, .slice T sn sc, .int .i64 start, .int .i64 calls] 28) = W0 := ⟨_, rfl⟩
    have hW0 : Ext w W0 := by rw [← hWd]; go_grown
    have b1 : W0.heap[w.heap.size]? = some (.cells #[.slice A n wc, .slice S pn pc, .int .i64 wrong, .slice H hn hc, .slice T sn sc, .int .i64 start, .int .i64 calls] 28 (0, 0)) := by rw [← hWd]; exact (by repeat (first | exact heap_alloc_at _ _ (by simp) | refine heap_alloc_keep ?_))
    have f1 := ext_blk b1
    have HW0 := hid hWd
    have e0 : Ext W0 W0 := ext_refl W0
    clear hWd b1
    go_enter Tryz.func3, Tryz.ntmps3
    go_wp2_with fail
    rw [HW0.out]
    refine (short_x A n wc S pn pc wrong H hn hc T sn sc start calls women pieces home streets _ (KI.out.ext hW0) _ HSH).mono ?_
    rintro e w1 ⟨rfl, hB1⟩
    have e1 : Ext W0 w1 := hB1
    clear hB1
    go_wp2_with (go_at_call 21; refine (awake_c _).mono ?_; rintro e wa ⟨rfl, hBa⟩)
    go_ret
    exact ⟨rfl, ext_trans hW0 (ext_trans e1 hBa)⟩
  obtain ⟨hat, hn30, hmk⟩ := KI.out.at hsh
  have KE := hid hat
  have HMK := hid hmk
  clear hsh hat hmk
  by_cases ht30 : 30 < tn
  · skip
    obtain ⟨W0, hWd⟩ : ∃ W0, w.alloc (.cells #[.slice A n wc, .slice S pn pc, .int .i64 wrong, .slice H hn hc, .slice T sn sc, .int .i64 start, .int .i64 calls] 28) = W0 := ⟨_, rfl⟩
    have hW0 : Ext w W0 := by rw [← hWd]; go_grown
    have b1 : W0.heap[w.heap.size]? = some (.cells #[.slice A n wc, .slice S pn pc, .int .i64 wrong, .slice H hn hc, .slice T sn sc, .int .i64 start, .int .i64 calls] 28 (0, 0)) := by rw [← hWd]; exact (by repeat (first | exact heap_alloc_at _ _ (by simp) | refine heap_alloc_keep ?_))
    have f1 := ext_blk b1
    have HW0 := hid hWd
    have e0 : Ext W0 W0 := ext_refl W0
    clear hWd b1
    go_enter Tryz.func3, Tryz.ntmps3
    go_wp2_with fail
    rw [HW0.out]
    refine (short_x A n wc S pn pc wrong H hn hc T sn sc start calls women pieces home streets _ (KI.out.ext hW0) _ HSH).mono ?_
    rintro e w1 ⟨rfl, hB1⟩
    have e1 : Ext W0 w1 := hB1
    clear hB1
    go_wp2_with (go_at_call 21; refine (awake_c _).mono ?_; rintro e wa ⟨rfl, hBa⟩)
    go_ret
    exact ⟨rfl, ext_trans hW0 (ext_trans e1 hBa)⟩
  by_cases hw30 : 30 < wn
  · skip
    obtain ⟨W0, hWd⟩ : ∃ W0, w.alloc (.cells #[.slice A n wc, .slice S pn pc, .int .i64 wrong, .slice H hn hc, .slice T sn sc, .int .i64 start, .int .i64 calls] 28) = W0 := ⟨_, rfl⟩
    have hW0 : Ext w W0 := by rw [← hWd]; go_grown
    have b1 : W0.heap[w.heap.size]? = some (.cells #[.slice A n wc, .slice S pn pc, .int .i64 wrong, .slice H hn hc, .slice T sn sc, .int .i64 start, .int .i64 calls] 28 (0, 0)) := by rw [← hWd]; exact (by repeat (first | exact heap_alloc_at _ _ (by simp) | refine heap_alloc_keep ?_))
    have f1 := ext_blk b1
    have HW0 := hid hWd
    have e0 : Ext W0 W0 := ext_refl W0
    clear hWd b1
    go_enter Tryz.func3, Tryz.ntmps3
    go_wp2_with fail
    rw [HW0.out]
    refine (short_x A n wc S pn pc wrong H hn hc T sn sc start calls women pieces home streets _ (KI.out.ext hW0) _ HSH).mono ?_
    rintro e w1 ⟨rfl, hB1⟩
    have e1 : Ext W0 w1 := hB1
    clear hB1
    go_wp2_with (go_at_call 21; refine (awake_c _).mono ?_; rintro e wa ⟨rfl, hBa⟩)
    go_ret
    exact ⟨rfl, ext_trans hW0 (ext_trans e1 hBa)⟩
  obtain ⟨pcode, hpc⟩ : ∃ x, playC women pieces wrong home streets start calls truth walk = x := ⟨_, rfl⟩
  obtain ⟨wcode, hwc⟩ : ∃ x, walkC women pieces wrong home streets start calls walk = x := ⟨_, rfl⟩
  obtain ⟨fe, hfe⟩ : ∃ x, errE women pieces wrong home streets start calls = x := ⟨_, rfl⟩
  obtain ⟨tr, htr⟩ : ∃ x, isTruthF streets truth = x := ⟨_, rfl⟩
  obtain ⟨L, hL⟩ : ∃ x, playL women pieces wrong home streets start calls truth walk = x := ⟨_, rfl⟩
  obtain ⟨ln, hln⟩ : ∃ x, L.length = x := ⟨_, rfl⟩
  have HPC := hid hpc
  have HWC := hid hwc
  have HFE := hid hfe
  have HTR := hid htr
  have HL := hid hL
  have HLN := hid hln
  have hrel : pcode = if wcode = 0 ∧ tr = false then 2 else wcode := by
    rw [← hpc, ← hwc, ← htr, playC, walkC]
    unfold wErr
    rw [hfe]
    by_cases h0 : fe = 0
    · subst h0
      cases isTruthF streets truth <;> cases isWalkF women.length walk <;> simp
    · simp [h0]
  have hnil : pcode ≠ 0 → ln = 0 := fun h => by
    rw [← hln, ← hL, playL, hpc, if_neg h]; rfl
  have HREL := hid hrel
  have HNIL := hid hnil
  clear hpc hwc hfe htr hL hln hrel hnil
  by_cases hwc0 : wcode = 0
  · subst hwc0
    cases tr
    · obtain rfl : pcode = 2 := HREL.out
      obtain rfl : ln = 0 := HNIL.out (by decide)
      obtain ⟨W0, hWd⟩ : ∃ W0, w.alloc (.cells #[.slice A n wc, .slice S pn pc, .int .i64 wrong, .slice H hn hc, .slice T sn sc, .int .i64 start, .int .i64 calls] 28) = W0 := ⟨_, rfl⟩
      have hW0 : Ext w W0 := by rw [← hWd]; go_grown
      have b1 : W0.heap[w.heap.size]? = some (.cells #[.slice A n wc, .slice S pn pc, .int .i64 wrong, .slice H hn hc, .slice T sn sc, .int .i64 start, .int .i64 calls] 28 (0, 0)) := by rw [← hWd]; exact (by repeat (first | exact heap_alloc_at _ _ (by simp) | refine heap_alloc_keep ?_))
      have f1 := ext_blk b1
      have HW0 := hid hWd
      have e0 : Ext W0 W0 := ext_refl W0
      clear hWd b1
      go_enter Tryz.func3, Tryz.ntmps3
      go_wp2_with fail
      rw [HW0.out]
      refine (short_x A n wc S pn pc wrong H hn hc T sn sc start calls women pieces home streets _ (KI.out.ext hW0) _ HSH).mono ?_
      rintro e w1 ⟨rfl, hB1⟩
      have e1 : Ext W0 w1 := hB1
      clear hB1
      go_wp2_with (first
        | (go_at_call 23; refine (errand_x A n wc S pn pc wrong H hn hc T sn sc start calls women pieces home streets _ (KE.out.ext (ext_trans hW0 e1)) HMK.out).mono ?_; rintro e w2 ⟨A2, wc2, S2, pc2, H2, hc2, T2, sc2, rfl, hE2, hB2⟩; have e2 := ext_trans e1 hB2; have HE2 := hid hE2; clear hE2)
        | (go_at_call 24; refine (list_x (.slice U tn uc) truth tn _ (KT.out.ext (ext_trans hW0 e2)) HTN (by omega)).mono ?_; rintro e w3 ⟨U3, uc3, rfl, hI3, hB3⟩; have e3 := ext_trans e2 hB3; have HI3 := hid hI3; clear hI3)
        | (go_at_call 24; refine (list_x (.slice V wn vc) walk wn _ (KW.out.ext (ext_trans hW0 e3)) HWN (by omega)).mono ?_; rintro e w4 ⟨V4, vc4, rfl, hI4, hB4⟩; have e4 := ext_trans e3 hB4; have HI4 := hid hI4; clear hI4)
        | (go_at_call 22; refine (play_x A2 n wc2 S2 pn pc2 wrong H2 hn hc2 T2 sn sc2 start calls women pieces home streets (by omega) _ (HE2.out.ext (ext_trans hB3 hB4)) _ _ truth walk (HI3.out.ext hB4) HI4.out L _ _ HL HLN HPC).mono ?_; rintro e w5 ⟨LV, lvc, rfl, hI5, hB5⟩; have e5 := ext_trans e4 hB5; have HI5 := hid hI5; clear hI5)
        | (go_at_call 25; refine (walked_c A n wc S pn pc wrong H hn hc T sn sc start calls women pieces home streets _ (KE.out.ext (ext_trans hW0 e5)) _ walk (KW.out.ext (ext_trans hW0 e5)) _ HWC).mono ?_; rintro e w6 ⟨rfl, hB6⟩; have e6 := ext_trans e5 hB6))
      have HI6 := hid (HI5.out.ext hB6)
      have f6 : ∀ W, Ext w6 W → ∀ j, W.cell? ⟨w.heap.size, j, none⟩ = (#[.slice A n wc, .slice S pn pc, .int .i64 wrong, .slice H hn hc, .slice T sn sc, .int .i64 start, .int .i64 calls] : Array Value)[j]? := fun W h => f1 W (ext_trans e6 h)
      have E6 := hid (ext_trans hW0 e6)
      have e0 := ext_refl w6
      clear hB2 hB3 hB4 hB5 hB6 e1 e2 e3 e4 e5 e6 f1
      go_region_held3 (fun W => Ext w6 W)
        (first | exact Below.drew (by assumption) | assumption | exact ext_trans (by assumption) (by assumption))
        (first
          | (go_at_call 23; refine (errand_x A n wc S pn pc wrong H hn hc T sn sc start calls women pieces home streets _ (KE.out.ext (ext_trans E6.out (by first | assumption | exact Below.drew (by assumption)))) HMK.out).mono ?_; rintro e w7 ⟨A7, wc7, S7, pc7, H7, hc7, T7, sc7, rfl, hE7, hB7⟩)
          | (go_at_call 26; refine (check_x A7 n wc7 S7 pn pc7 wrong H7 hn hc7 T7 sn sc7 start calls women pieces home streets _ (hE7.ext (by first | exact ext_refl _ | assumption)) fe HFE).mono ?_; rintro e w8 ⟨rfl, hB8⟩)
          | (go_at_call 27; refine (fault_c A n wc S pn pc wrong H hn hc T sn sc start calls women pieces home streets _ (KE.out.ext (ext_trans E6.out (by first | assumption | exact Below.drew (by assumption)))) fe HFE).mono ?_; rintro e w9 ⟨rfl, hB9⟩))
      all_goals
        go_wp2_with (first
          | (go_at_call 28; refine (isTruthE_c _ _ _ wrong start calls T sn sc streets _ (KE.out.T.ext (ext_trans E6.out (by assumption))) KE.out.tl _ truth (KT.out.ext (ext_trans E6.out (by assumption))) _ HTR).mono ?_; rintro e wb ⟨rfl, hBb⟩; have eb : Ext w6 wb := ext_trans (by assumption) hBb)
          | (go_at_call 21; refine (awake_c _).mono ?_; rintro e wa ⟨rfl, hBa⟩))
        go_ret
        exact ⟨rfl, ext_trans E6.out (ext_trans eb hBa)⟩
    · obtain rfl : pcode = 0 := HREL.out
      obtain ⟨he, _⟩ := wErr_zero HWC.out
      obtain ⟨hnn, hok⟩ := errOk_of KE.out he
      have hz := errE_zero he
      have hnn' : n = hn := hnn.symm
      subst hnn'
      have hwk := (isWalkF_iff _ _).1 (wErr_zero HWC.out).2
      rw [KE.out.wl] at hwk
      have hts := (isTruthF_iff _ _).1 HTR.out
      have HMO := hid (truth_mins HTR.out (fun j hj => hok.st j (by rw [← KE.out.tl]; exact hj)))
      have hmo := HMO.out
      rw [rngM_self] at hmo
      have HMI := hid hmo
      have htl : truth.length = n * (n + 1) / 2 := by rw [hts.1, hz.2.2.2.2.2.1, KE.out.wl]
      have HTL := hid htl
      have HLV : Hid (L = callsL n (rLo home) (at0 truth) start walk) := hid (by rw [← HL.out, playL, if_pos HPC.out, rngM_self, KE.out.wl])
      have HINT : Hid (intsF L (callsL n (rLo home) (at0 truth) start walk) = true) := hid ((intsF_iff _ _).2 HLV.out)
      have HWK := hid hwk
      have KO := hid hok
      clear he hnn hok hz hwk hts hmo htl
      obtain ⟨W0, hWd⟩ : ∃ W0, w.alloc (.cells #[.slice A n wc, .slice S pn pc, .int .i64 wrong, .slice H n hc, .slice T sn sc, .int .i64 start, .int .i64 calls] 28) = W0 := ⟨_, rfl⟩
      have hW0 : Ext w W0 := by rw [← hWd]; go_grown
      have b1 : W0.heap[w.heap.size]? = some (.cells #[.slice A n wc, .slice S pn pc, .int .i64 wrong, .slice H n hc, .slice T sn sc, .int .i64 start, .int .i64 calls] 28 (0, 0)) := by rw [← hWd]; exact (by repeat (first | exact heap_alloc_at _ _ (by simp) | refine heap_alloc_keep ?_))
      have f1 := ext_blk b1
      have HW0 := hid hWd
      have e0 : Ext W0 W0 := ext_refl W0
      clear hWd b1
      go_enter Tryz.func3, Tryz.ntmps3
      go_wp2_with fail
      rw [HW0.out]
      refine (short_x A n wc S pn pc wrong H n hc T sn sc start calls women pieces home streets _ (KI.out.ext hW0) _ HSH).mono ?_
      rintro e w1 ⟨rfl, hB1⟩
      have e1 : Ext W0 w1 := hB1
      clear hB1
      go_wp2_with (first
        | (go_at_call 23; refine (errand_x A n wc S pn pc wrong H n hc T sn sc start calls women pieces home streets _ (KE.out.ext (ext_trans hW0 e1)) HMK.out).mono ?_; rintro e w2 ⟨A2, wc2, S2, pc2, H2, hc2, T2, sc2, rfl, hE2, hB2⟩; have e2 := ext_trans e1 hB2; have HE2 := hid hE2; clear hE2)
        | (go_at_call 24; refine (list_x (.slice U tn uc) truth tn _ (KT.out.ext (ext_trans hW0 e2)) HTN (by omega)).mono ?_; rintro e w3 ⟨U3, uc3, rfl, hI3, hB3⟩; have e3 := ext_trans e2 hB3; have HI3 := hid hI3; clear hI3)
        | (go_at_call 24; refine (list_x (.slice V wn vc) walk wn _ (KW.out.ext (ext_trans hW0 e3)) HWN (by omega)).mono ?_; rintro e w4 ⟨V4, vc4, rfl, hI4, hB4⟩; have e4 := ext_trans e3 hB4; have HI4 := hid hI4; clear hI4)
        | (go_at_call 22; refine (play_x A2 n wc2 S2 pn pc2 wrong H2 n hc2 T2 sn sc2 start calls women pieces home streets (by omega) _ (HE2.out.ext (ext_trans hB3 hB4)) _ _ truth walk (HI3.out.ext hB4) HI4.out L _ _ HL HLN HPC).mono ?_; rintro e w5 ⟨LV, lvc, rfl, hI5, hB5⟩; have e5 := ext_trans e4 hB5; have HI5 := hid hI5; clear hI5)
        | (go_at_call 25; refine (walked_c A n wc S pn pc wrong H n hc T sn sc start calls women pieces home streets _ (KE.out.ext (ext_trans hW0 e5)) _ walk (KW.out.ext (ext_trans hW0 e5)) _ HWC).mono ?_; rintro e w6 ⟨rfl, hB6⟩; have e6 := ext_trans e5 hB6))
      have HI6 := hid (HI5.out.ext hB6)
      have f6 : ∀ W, Ext w6 W → ∀ j, W.cell? ⟨w.heap.size, j, none⟩ = (#[.slice A n wc, .slice S pn pc, .int .i64 wrong, .slice H n hc, .slice T sn sc, .int .i64 start, .int .i64 calls] : Array Value)[j]? := fun W h => f1 W (ext_trans e6 h)
      have E6 := hid (ext_trans hW0 e6)
      have e0 := ext_refl w6
      clear hB2 hB3 hB4 hB5 hB6 e1 e2 e3 e4 e5 e6 f1
      go_region_held3 (fun W => Ext w6 W)
        (first | exact Below.drew (by assumption) | assumption | exact ext_trans (by assumption) (by assumption))
        (first
          | (go_at_call 23; refine (errand_x A n wc S pn pc wrong H n hc T sn sc start calls women pieces home streets _ (KE.out.ext (ext_trans E6.out (by first | assumption | exact Below.drew (by assumption)))) HMK.out).mono ?_; rintro e w7 ⟨A7, wc7, S7, pc7, H7, hc7, T7, sc7, rfl, hE7, hB7⟩)
          | (go_at_call 26; refine (check_x A7 n wc7 S7 pn pc7 wrong H7 n hc7 T7 sn sc7 start calls women pieces home streets _ (hE7.ext (by first | exact ext_refl _ | assumption)) fe HFE).mono ?_; rintro e w8 ⟨rfl, hB8⟩)
          | (go_at_call 27; refine (fault_c A n wc S pn pc wrong H n hc T sn sc start calls women pieces home streets _ (KE.out.ext (ext_trans E6.out (by first | assumption | exact Below.drew (by assumption)))) fe HFE).mono ?_; rintro e w9 ⟨rfl, hB9⟩))
      all_goals
        go_wp2_with (first
          | (go_at_call 28; refine (isTruthE_c _ _ _ wrong start calls T sn sc streets _ (KE.out.T.ext (ext_trans E6.out (by assumption))) KE.out.tl _ truth (KT.out.ext (ext_trans E6.out (by assumption))) _ HTR).mono ?_; rintro e wb ⟨rfl, hBb⟩; have eb : Ext w6 wb := ext_trans (by assumption) hBb; have HI7 := hid (HI6.out.ext eb))
          | (go_at_call 30; refine (minutes_c n _ _ _ _ wrong start calls A wc KO.out.n4 H hc home truth walk _ (KO.out.rh.ext (ext_trans E6.out eb)) (KT.out.ext (ext_trans E6.out eb)) HTL.out (KW.out.ext (ext_trans E6.out eb)) HWK.out HMI.out KO.out.lo KO.out.a0 KO.out.a1).mono ?_; rintro e wc9 ⟨mv, rfl, hmv, hBc⟩; have ec : Ext w6 wc9 := ext_trans eb hBc; have HMV := hid hmv; clear hmv)
          | (go_at_call 29; refine (ints_b _ _ _ _ _ (HI7.out.ext hBc) HMV.out _ HINT).mono ?_; rintro e wd ⟨rfl, hBd⟩; have ed := ext_trans ec hBd)
          | (go_at_call 21; refine (awake_c _).mono ?_; rintro e wa ⟨rfl, hBa⟩))
        go_ret
        exact ⟨rfl, ext_trans E6.out (ext_trans ed hBa)⟩
  · obtain rfl : pcode = wcode := by have := HREL.out; rwa [if_neg (fun h => hwc0 h.1)] at this
    obtain rfl : ln = 0 := HNIL.out hwc0
    have hw1 : (pcode == 0) = false := beq_eq_false_iff_ne.2 hwc0
    have hw2 : (pcode != 0) = true := by rw [bne_iff_ne]; exact hwc0
    obtain ⟨W0, hWd⟩ : ∃ W0, w.alloc (.cells #[.slice A n wc, .slice S pn pc, .int .i64 wrong, .slice H hn hc, .slice T sn sc, .int .i64 start, .int .i64 calls] 28) = W0 := ⟨_, rfl⟩
    have hW0 : Ext w W0 := by rw [← hWd]; go_grown
    have b1 : W0.heap[w.heap.size]? = some (.cells #[.slice A n wc, .slice S pn pc, .int .i64 wrong, .slice H hn hc, .slice T sn sc, .int .i64 start, .int .i64 calls] 28 (0, 0)) := by rw [← hWd]; exact (by repeat (first | exact heap_alloc_at _ _ (by simp) | refine heap_alloc_keep ?_))
    have f1 := ext_blk b1
    have HW0 := hid hWd
    have e0 : Ext W0 W0 := ext_refl W0
    clear hWd b1
    go_enter Tryz.func3, Tryz.ntmps3
    go_wp2_with fail
    rw [HW0.out]
    refine (short_x A n wc S pn pc wrong H hn hc T sn sc start calls women pieces home streets _ (KI.out.ext hW0) _ HSH).mono ?_
    rintro e w1 ⟨rfl, hB1⟩
    have e1 : Ext W0 w1 := hB1
    clear hB1
    go_wp2_with (first
      | (go_at_call 23; refine (errand_x A n wc S pn pc wrong H hn hc T sn sc start calls women pieces home streets _ (KE.out.ext (ext_trans hW0 e1)) HMK.out).mono ?_; rintro e w2 ⟨A2, wc2, S2, pc2, H2, hc2, T2, sc2, rfl, hE2, hB2⟩; have e2 := ext_trans e1 hB2; have HE2 := hid hE2; clear hE2)
      | (go_at_call 24; refine (list_x (.slice U tn uc) truth tn _ (KT.out.ext (ext_trans hW0 e2)) HTN (by omega)).mono ?_; rintro e w3 ⟨U3, uc3, rfl, hI3, hB3⟩; have e3 := ext_trans e2 hB3; have HI3 := hid hI3; clear hI3)
      | (go_at_call 24; refine (list_x (.slice V wn vc) walk wn _ (KW.out.ext (ext_trans hW0 e3)) HWN (by omega)).mono ?_; rintro e w4 ⟨V4, vc4, rfl, hI4, hB4⟩; have e4 := ext_trans e3 hB4; have HI4 := hid hI4; clear hI4)
      | (go_at_call 22; refine (play_x A2 n wc2 S2 pn pc2 wrong H2 hn hc2 T2 sn sc2 start calls women pieces home streets (by omega) _ (HE2.out.ext (ext_trans hB3 hB4)) _ _ truth walk (HI3.out.ext hB4) HI4.out L _ _ HL HLN HPC).mono ?_; rintro e w5 ⟨LV, lvc, rfl, hI5, hB5⟩; have e5 := ext_trans e4 hB5; have HI5 := hid hI5; clear hI5)
      | (go_at_call 25; refine (walked_c A n wc S pn pc wrong H hn hc T sn sc start calls women pieces home streets _ (KE.out.ext (ext_trans hW0 e5)) _ walk (KW.out.ext (ext_trans hW0 e5)) _ HWC).mono ?_; rintro e w6 ⟨rfl, hB6⟩; have e6 := ext_trans e5 hB6))
    have HI6 := hid (HI5.out.ext hB6)
    have f6 : ∀ W, Ext w6 W → ∀ j, W.cell? ⟨w.heap.size, j, none⟩ = (#[.slice A n wc, .slice S pn pc, .int .i64 wrong, .slice H hn hc, .slice T sn sc, .int .i64 start, .int .i64 calls] : Array Value)[j]? := fun W h => f1 W (ext_trans e6 h)
    have E6 := hid (ext_trans hW0 e6)
    have e0 := ext_refl w6
    clear hB2 hB3 hB4 hB5 hB6 e1 e2 e3 e4 e5 e6 f1
    go_region_held3 (fun W => Ext w6 W)
      (first | exact Below.drew (by assumption) | assumption | exact ext_trans (by assumption) (by assumption))
      (first
        | (go_at_call 23; refine (errand_x A n wc S pn pc wrong H hn hc T sn sc start calls women pieces home streets _ (KE.out.ext (ext_trans E6.out (by first | assumption | exact Below.drew (by assumption)))) HMK.out).mono ?_; rintro e w7 ⟨A7, wc7, S7, pc7, H7, hc7, T7, sc7, rfl, hE7, hB7⟩)
        | (go_at_call 26; refine (check_x A7 n wc7 S7 pn pc7 wrong H7 hn hc7 T7 sn sc7 start calls women pieces home streets _ (hE7.ext (by first | exact ext_refl _ | assumption)) fe HFE).mono ?_; rintro e w8 ⟨rfl, hB8⟩)
        | (go_at_call 27; refine (fault_c A n wc S pn pc wrong H hn hc T sn sc start calls women pieces home streets _ (KE.out.ext (ext_trans E6.out (by first | assumption | exact Below.drew (by assumption)))) fe HFE).mono ?_; rintro e w9 ⟨rfl, hB9⟩))
    all_goals
      go_wp2_with (go_at_call 21; refine (awake_c _).mono ?_; rintro e wa ⟨rfl, hBa⟩)
      go_ret
      exact ⟨rfl, ext_trans E6.out (ext_trans (by assumption) hBa)⟩
end
end Go.Proofs.YtlcakmbejjlmeaaGreat
/- The statement ErrandPlays, for every input: the row over its walk. -/
set_option linter.unusedVariables false
namespace Go.Proofs.YtlcakmbejjlmeaaGreat.ErrandPlaysRow
open Go.ChangeShapes Go.WideShapes Go.ChangeAt Go.RowKit
theorem own : ownKnob Tryz.prog.godebug = none := by kernel_rfl
theorem laidOut : laidOutB Tryz.prog = true := by kernel_rfl
set_option maxRecDepth 100000 in
theorem lifted (os : Os) (started : os.Started) (H : Type) (enc : TypeId × Value → H) :
    ReturnsInHanded {} Tryz.checked os 3 .any (Rows.errandPlaysSpec.pre6 enc Tryz.prog Tryz.f3 Rows.errandPlaysRow.domain false) (Rows.errandPlaysSpec.post enc Tryz.prog Tryz.f3 false true false false) := by
  refine returnsInHanded_of_change_sized (C := Tryz.checked) own started (by kernel_rfl) Tryz.func3
    (ChangeSpec.witness6 (enc := enc) (C := Tryz.checked) false ⟨#[], #[.agg #[.slice none 0 0, .slice none 0 0, .int .i64 0, .slice none 0 0, .slice none 0 0, .int .i64 0, .int .i64 0], .slice none 0 0, .slice none 0 0], []⟩ 8 (by kernel_rfl) (by kernel_rfl) (by kernel_rfl) (by kernel_rfl)) ?_
  intro W base args ds gs before hval0 hW hcnd hsz0 _
  have hsz : (DataW.weightsEach Tryz.prog (Tryz.f3.params.toList ++ Rows.errandPlaysSpec.plain.varTypes Tryz.prog) (ds ++ gs)).all (· ≤ reachBytes) = true := hsz0
  have hval : ∀ (j : Nat) t v, Tryz.f3.params[j]? = some t → args[j]? = some v → Value.okWide Tryz.prog W .any base t v := hval0
  have hW' := hW
  obtain ⟨p, q, hA0, hV, rfl, hfz, hnd⟩ := hW
  have hA : DataW.TrodAll enc Tryz.prog W 0 (fun _ => true) true Tryz.f3.params.toList args.toList ds p := hA0
  rw [Tryz.params3] at hA hval hsz
  obtain ⟨v0, vs0, d0, ds0, p0, q0, hargs, rfl, rfl, h0, r0⟩ := trodAll_cons hA
  obtain ⟨v1, vs1, d1, ds1, p1, q1, rfl, rfl, rfl, h1, r1⟩ := trodAll_cons r0
  obtain ⟨v2, vs2, d2, ds2, p2, q2, rfl, rfl, rfl, h2, r2⟩ := trodAll_cons r1
  obtain ⟨rfl, rfl, rfl⟩ := trodAll_nil r2
  obtain rfl : args = #[v0, v1, v2] := by cases args; simp_all
  obtain ⟨rfl, rfl⟩ := trodVars_none hV
  have k0 := h0
  have lt0 : ∀ x ∈ p0, x.block < W.heap.size := by obtain ⟨m, hm⟩ := k0; exact DataW.trod_lt m _ _ _ hm
  have wk0 : WOk Tryz.prog 28 d0 := fun n hn => by
    have h := List.all_eq_true.1 hsz _ (DataW.weights_mem_each (j := 0) rfl rfl n hn)
    simpa using h
  obtain ⟨A0, n0, wc0, S0, pn0, pc0, wrong0, T0, hn0, hc0, U0, sn0, sc0, start0, calls0, women0, pieces0, home0, streets0, rfl, hW0, hwl0, hP0, hpl0, hH0, hhl0, hS0, hsl0, ws0, wcl0, wwr0⟩ := open_errW (hval 0 28 v0 rfl rfl) h0 wk0
  have k1 := h1
  have lt1 : ∀ x ∈ p1, x.block < W.heap.size := by obtain ⟨m, hm⟩ := k1; exact DataW.trod_lt m _ _ _ hm
  have wk1 : WOk Tryz.prog 29 d1 := fun n hn => by
    have h := List.all_eq_true.1 hsz _ (DataW.weights_mem_each (j := 1) rfl rfl n hn)
    simpa using h
  obtain ⟨a1, len1, cap1, rfl⟩ := okWide_slice Tryz.underlying29 (hval 1 29 v1 rfl rfl)
  obtain ⟨fuel1, hf1⟩ := h1
  obtain ⟨b1, m1, c1, xs1, hv1, hI1, hl1⟩ := open_intsW (by simpa [Value.cells] using hf1) wk1
  have k2 := h2
  have lt2 : ∀ x ∈ p2, x.block < W.heap.size := by obtain ⟨m, hm⟩ := k2; exact DataW.trod_lt m _ _ _ hm
  have wk2 : WOk Tryz.prog 29 d2 := fun n hn => by
    have h := List.all_eq_true.1 hsz _ (DataW.weights_mem_each (j := 2) rfl rfl n hn)
    simpa using h
  obtain ⟨a2, len2, cap2, rfl⟩ := okWide_slice Tryz.underlying29 (hval 2 29 v2 rfl rfl)
  obtain ⟨fuel2, hf2⟩ := h2
  obtain ⟨b2, m2, c2, xs2, hv2, hI2, hl2⟩ := open_intsW (by simpa [Value.cells] using hf2) wk2
  clear hA0 hval0 hsz0 hsz
  refine (plays_w A0 n0 wc0 S0 pn0 pc0 wrong0 T0 hn0 hc0 U0 sn0 sc0 start0 calls0 women0 pieces0 home0 streets0 W ⟨hW0, hwl0, hP0, hpl0, hH0, hhl0, hS0, hsl0⟩ _ xs1 hI1 _ xs2 hI2).mono fun e W' ⟨he, bel⟩ => ?_
  subst he
  exact ⟨_, rfl, _, _, _, [], _, [], hW', trodAll_mk1 (shut_bool Tryz.underlying4 _), (trodAll_cons_mk (Below.trod laidOut (by kernel_rfl) (of_decide_eq_true (by kernel_rfl)) k0 bel lt0) (trodAll_cons_mk (Below.trod laidOut (by kernel_rfl) (of_decide_eq_true (by kernel_rfl)) k1 bel lt1) (trodAll_cons_mk (Below.trod laidOut (by kernel_rfl) (of_decide_eq_true (by kernel_rfl)) k2 bel lt2) trodAll_mk0))), rfl, bel.frame _, fun h => by cases h⟩
theorem over : Rows.errandPlaysRow.holds Tryz.pinned (OpenSpec.ofChange Rows.errandPlaysSpec) :=
  OpenClaim.holds_of_wide 3 Tryz.f3 rfl rfl rfl rfl rfl rfl rfl ⟨rfl, rfl, rfl, rfl, rfl⟩ rfl rfl rfl rfl rfl (by kernel_rfl) Tryz.func3 (by kernel_rfl)
    (of_decide_eq_true (by kernel_rfl)) (by unfold Func.isWrapper; rw [if_neg (of_decide_eq_false (by kernel_rfl))]; exact ⟨rfl, rfl⟩)
    (fun os started H enc _ => lifted os started H enc)
end Go.Proofs.YtlcakmbejjlmeaaGreat.ErrandPlaysRow
namespace Go.Proofs.YtlcakmbejjlmeaaGreat
/-- ErrandPlays, for every input. -/
theorem errandPlays_holds : Rows.ErrandPlaysSaid := ErrandPlaysRow.over
#print axioms errandPlays_holds
end Go.Proofs.YtlcakmbejjlmeaaGreat
