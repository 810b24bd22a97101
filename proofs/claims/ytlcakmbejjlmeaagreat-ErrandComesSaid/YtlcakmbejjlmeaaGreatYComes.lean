/- The statement ErrandComes: its body answers true. -/
import Derived.Test.YtlcakmbejjlmeaaGreatK8
import Derived.Test.YtlcakmbejjlmeaaGreatK9
import Derived.Test.YtlcakmbejjlmeaaGreatRows
import Derived.WalkKit
import Derived.ProofKit
import Derived.OpenShut
import Derived.ShutString
import Derived.ChangeOld
import Derived.Below
import Derived.SizedLaws
set_option linter.unusedVariables false
set_option linter.unusedSimpArgs false
namespace Go.Proofs.YtlcakmbejjlmeaaGreat
open Go.RowKit

theorem comesK_lo (n : Nat) (home streets : List Rng) (start : Int) (walk : List Int) {m k : Nat} (h : k < m) : rLo (comesK n home streets start walk m) k = minAt n (rLo home) (rngM (rLo streets) streets.length) start walk (k + 1) := by simp [rLo, comesK, h]
theorem comesK_hi (n : Nat) (home streets : List Rng) (start : Int) (walk : List Int) {m k : Nat} (h : k < m) : rHi (comesK n home streets start walk m) k = minAt n (rLo home) (rngM (rHi streets) streets.length) start walk (k + 1) := by simp [rHi, comesK, h]
section
variable (A : Option Addr) (n wc : Nat) (S : Option Addr) (pn pc : Nat) (wrong : Int) (H : Option Addr) (hn hc : Nat) (T : Option Addr) (sn sc : Nat) (start calls : Int) (women : List Wom) (pieces : List Pce) (home streets : List Rng)
set_option maxHeartbeats 6400000 in
set_option maxRecDepth 100000 in
theorem comes_w (w : World) (h : ErrIn w A n wc S pn pc H hn hc T sn sc women pieces home streets) (wv : Value) (walk : List Int) (hW : IsInts w wv walk) :
    Calls Tryz.prog 4 #[.agg #[.slice A n wc, .slice S pn pc, .int .i64 wrong, .slice H hn hc, .slice T sn sc, .int .i64 start, .int .i64 calls], wv] w
      fun e w' => e = .returned (.bool true) ∧ Ext w w' := by
  have KI := hid h
  have KW := hid hW
  obtain ⟨V, vc, rfl⟩ := hW.val
  obtain ⟨wn, hwn⟩ : ∃ x, walk.length = x := ⟨_, rfl⟩
  have hwb := hW.1
  rw [hwn] at KW hwb ⊢
  have HWN := hid hwn
  obtain ⟨sh, hsh⟩ : ∃ x, shortF women pieces home streets = x := ⟨_, rfl⟩
  have HSH := hid hsh
  have TK1 : True := trivial
  have TK2 : True := trivial
  clear h hW hwn
  cases sh
  · clear hsh
    obtain ⟨W0, hWd⟩ : ∃ W0, w.alloc (.cells #[.slice A n wc, .slice S pn pc, .int .i64 wrong, .slice H hn hc, .slice T sn sc, .int .i64 start, .int .i64 calls] 28) = W0 := ⟨_, rfl⟩
    have hW0 : Ext w W0 := by rw [← hWd]; go_grown
    have b1 : W0.heap[w.heap.size]? = some (.cells #[.slice A n wc, .slice S pn pc, .int .i64 wrong, .slice H hn hc, .slice T sn sc, .int .i64 start, .int .i64 calls] 28 (0, 0)) := by rw [← hWd]; exact (by repeat (first | exact heap_alloc_at _ _ (by simp) | refine heap_alloc_keep ?_))
    have f1 := ext_blk b1
    have HW0 := hid hWd
    have e0 : Ext W0 W0 := ext_refl W0
    clear hWd b1
    go_enter Tryz.func4, Tryz.ntmps4
    go_wp2_with fail
    rw [HW0.out]
    refine (short_x A n wc S pn pc wrong H hn hc T sn sc start calls women pieces home streets _ (KI.out.ext hW0) _ HSH).mono ?_
    rintro e w1 ⟨rfl, hB1⟩
    have e1 : Ext W0 w1 := hB1
    clear hB1
    go_wp2_with (go_at_call 21; refine (awake_c _).mono ?_; rintro e wa ⟨rfl, hBa⟩)
    go_ret
    exact ⟨rfl, ext_trans hW0 (ext_trans e1 hBa)⟩
  obtain ⟨hat, hn30, hmk⟩ := KI.out.at hsh
  have KE := hid hat
  have HMK := hid hmk
  clear hsh hat hmk
  by_cases hw30 : 30 < wn
  · skip
    obtain ⟨W0, hWd⟩ : ∃ W0, w.alloc (.cells #[.slice A n wc, .slice S pn pc, .int .i64 wrong, .slice H hn hc, .slice T sn sc, .int .i64 start, .int .i64 calls] 28) = W0 := ⟨_, rfl⟩
    have hW0 : Ext w W0 := by rw [← hWd]; go_grown
    have b1 : W0.heap[w.heap.size]? = some (.cells #[.slice A n wc, .slice S pn pc, .int .i64 wrong, .slice H hn hc, .slice T sn sc, .int .i64 start, .int .i64 calls] 28 (0, 0)) := by rw [← hWd]; exact (by repeat (first | exact heap_alloc_at _ _ (by simp) | refine heap_alloc_keep ?_))
    have f1 := ext_blk b1
    have HW0 := hid hWd
    have e0 : Ext W0 W0 := ext_refl W0
    clear hWd b1
    go_enter Tryz.func4, Tryz.ntmps4
    go_wp2_with fail
    rw [HW0.out]
    refine (short_x A n wc S pn pc wrong H hn hc T sn sc start calls women pieces home streets _ (KI.out.ext hW0) _ HSH).mono ?_
    rintro e w1 ⟨rfl, hB1⟩
    have e1 : Ext W0 w1 := hB1
    clear hB1
    go_wp2_with (go_at_call 21; refine (awake_c _).mono ?_; rintro e wa ⟨rfl, hBa⟩)
    go_ret
    exact ⟨rfl, ext_trans hW0 (ext_trans e1 hBa)⟩
  obtain ⟨wcode, hwc⟩ : ∃ x, walkC women pieces wrong home streets start calls walk = x := ⟨_, rfl⟩
  obtain ⟨lcode, hlc⟩ : ∃ x, lateC women pieces wrong home streets start calls walk = x := ⟨_, rfl⟩
  obtain ⟨lm, hlm⟩ : ∃ x, lateN women pieces wrong home streets start calls walk = x := ⟨_, rfl⟩
  obtain ⟨L, hL⟩ : ∃ x, comesL women pieces wrong home streets start calls walk = x := ⟨_, rfl⟩
  obtain ⟨ln, hln⟩ : ∃ x, L.length = x := ⟨_, rfl⟩
  have HWC := hid hwc
  have HLC := hid hlc
  have HLM := hid hlm
  have HL := hid hL
  have HLN := hid hln
  by_cases hwc0 : wcode = 0
  · subst hwc0
    obtain ⟨he, hwk⟩ := wErr_zero hwc
    obtain ⟨hnn, hok⟩ := errOk_of KE.out he
    have hz := errE_zero he
    have hnn' : n = hn := hnn.symm
    subst hnn'
    replace hwk := (isWalkF_iff _ _).1 hwk
    rw [KE.out.wl] at hwk
    have HWK := hid hwk
    have KO := hid hok
    have HSN : Hid (sn = n * (n + 1) / 2) := hid (by rw [← KE.out.tl, hz.2.2.2.2.2.1, KE.out.wl])
    have hL2 : L = comesK n home streets start walk wn := by rw [← hL, comesL, if_pos hwc, KE.out.wl, HWN.out]
    obtain rfl : wn = ln := by rw [← hln, hL2, comesK_len]
    have HL2 := hid hL2
    obtain ⟨d, hd⟩ : ∃ d, lateR n home streets start walk = d := ⟨_, rfl⟩
    have HD := hid hd
    have hdl : (0 ≤ d ∧ lcode = 0 ∧ lm = d) ∨ (d < 0 ∧ lcode = 7 ∧ lm = 0) := by
      rw [← hd, ← hlc, ← hlm, lateR, lateN, lateC, if_pos hwc, KE.out.wl]
      by_cases hx : lateF n home streets start walk = walk.length
      · right; simp [hx]
      · left; simp [hx]
    have HDL := hid hdl
    clear hwc hlc hlm hL hln he hnn hok hz hwk hL2 hd hdl
    obtain ⟨W0, hWd⟩ : ∃ W0, w.alloc (.cells #[.slice A n wc, .slice S pn pc, .int .i64 wrong, .slice H n hc, .slice T sn sc, .int .i64 start, .int .i64 calls] 28) = W0 := ⟨_, rfl⟩
    have hW0 : Ext w W0 := by rw [← hWd]; go_grown
    have b1 : W0.heap[w.heap.size]? = some (.cells #[.slice A n wc, .slice S pn pc, .int .i64 wrong, .slice H n hc, .slice T sn sc, .int .i64 start, .int .i64 calls] 28 (0, 0)) := by rw [← hWd]; exact (by repeat (first | exact heap_alloc_at _ _ (by simp) | refine heap_alloc_keep ?_))
    have f1 := ext_blk b1
    have HW0 := hid hWd
    have e0 : Ext W0 W0 := ext_refl W0
    clear hWd b1
    go_enter Tryz.func4, Tryz.ntmps4
    go_wp2_with fail
    rw [HW0.out]
    refine (short_x A n wc S pn pc wrong H n hc T sn sc start calls women pieces home streets _ (KI.out.ext hW0) _ HSH).mono ?_
    rintro e w1 ⟨rfl, hB1⟩
    have e1 : Ext W0 w1 := hB1
    clear hB1
    go_wp2_with (first
      | (go_at_call 23; have tok1 := TK1; clear TK1; refine (errand_x A n wc S pn pc wrong H n hc T sn sc start calls women pieces home streets _ (KE.out.ext (ext_trans hW0 e1)) HMK.out).mono ?_; rintro e w2 ⟨A2, wc2, S2, pc2, H2, hc2, T2, sc2, rfl, hE2, hB2⟩; have e2 := ext_trans e1 hB2; have HE2 := hid hE2; clear hE2)
      | (go_at_call 24; have tok2 := TK2; clear TK2; refine (list_x (.slice V wn vc) walk wn _ (KW.out.ext (ext_trans hW0 e2)) HWN (by omega)).mono ?_; rintro e w3 ⟨V3, vc3, rfl, hI3, hB3⟩; have e3 := ext_trans e2 hB3; have HI3 := hid hI3; clear hI3)
      | (go_at_call 31; refine (comes_x A2 n wc2 S2 pn pc2 wrong H2 n hc2 T2 sn sc2 start calls women pieces home streets (by omega) _ (HE2.out.ext hB3) _ walk HI3.out L _ _ HL HLN HWC).mono ?_; rintro e w4 ⟨LV, lvc, rfl, hI4, hB4⟩; have e4 := ext_trans e3 hB4; have HI4 := hid hI4; clear hI4)
      | (go_at_call 23; refine (errand_x A n wc S pn pc wrong H n hc T sn sc start calls women pieces home streets _ (KE.out.ext (ext_trans hW0 e4)) HMK.out).mono ?_; rintro e w5 ⟨A5, wc5, S5, pc5, H5, hc5, T5, sc5, rfl, hE5, hB5⟩; have e5 := ext_trans e4 hB5; have HE5 := hid hE5; clear hE5)
      | (go_at_call 24; refine (list_x (.slice V wn vc) walk wn _ (KW.out.ext (ext_trans hW0 e5)) HWN (by omega)).mono ?_; rintro e w6 ⟨V6, vc6, rfl, hI6, hB6⟩; have e6 := ext_trans e5 hB6; have HI6 := hid hI6; clear hI6)
      | (go_at_call 32; refine (late_x A5 n wc5 S5 pn pc5 wrong H5 n hc5 T5 sn sc5 start calls women pieces home streets (by omega) _ (HE5.out.ext hB6) _ walk HI6.out _ _ HLM HLC).mono ?_; rintro e w7 ⟨rfl, hB7⟩; have e7 := ext_trans e6 hB7)
      | (go_at_call 25; refine (walked_c A n wc S pn pc wrong H n hc T sn sc start calls women pieces home streets _ (KE.out.ext (ext_trans hW0 e7)) _ walk (KW.out.ext (ext_trans hW0 e7)) _ HWC).mono ?_; rintro e w8 ⟨rfl, hB8⟩; have e8 := ext_trans e7 hB8)
      | fail)
    have HC := hid (HI4.out.ext (ext_trans hB5 (ext_trans hB6 (ext_trans hB7 hB8))))
    have E8 := hid (ext_trans hW0 e8)
    have f8 : ∀ W, Ext w8 W → ∀ j, W.cell? ⟨w.heap.size, j, none⟩ = (#[.slice A n wc, .slice S pn pc, .int .i64 wrong, .slice H n hc, .slice T sn sc, .int .i64 start, .int .i64 calls] : Array Value)[j]? := fun W h => f1 W (ext_trans e8 h)
    have F8 := hid f8
    have e0 := ext_refl w8
    clear hB2 hB3 hB4 hB5 hB6 hB7 hB8 e1 e2 e3 e4 e5 e6 e7 e8 f1
    go_region_held3 (fun W => Ext w8 W)
      (first | exact Below.drew (by assumption) | assumption | exact ext_trans (by assumption) (by assumption))
      (first
        | (go_at_call 33; refine (least_c _ _ _ wrong start calls T sn sc streets _ (KO.out.rs.ext (ext_trans E8.out (by first | assumption | exact Below.drew (by assumption)))) (by have := KO.out.s10; omega)).mono ?_; rintro e wl ⟨lov, rfl, hlov, hBl⟩; have HLO := hid hlov; clear hlov)
        | (go_at_call 34; refine (greatest_c _ _ _ wrong start calls T sn sc streets _ (KO.out.rs.ext (ext_trans E8.out (by first | assumption | exact Below.drew (by assumption)))) (by have := KO.out.s10; omega)).mono ?_; rintro e wg ⟨hiv, rfl, hhiv, hBg⟩; have HHI := hid hhiv; clear hhiv)
        | (go_at_call 30; (with_reducible refine (minutesLo_c (KO.out.ext (ext_trans E8.out (by first | assumption | exact Below.drew (by assumption)))) HSN.out _ lov _ wrong calls A wc walk (HLO.out.ext (by first | exact ext_refl _ | exact hBg | exact hBb | exact ext_trans hBg hBb)) (KW.out.ext (ext_trans E8.out (by first | assumption | exact Below.drew (by assumption)))) HWK.out).mono ?_); rintro e wa ⟨av, rfl, hav, hBa⟩; obtain ⟨LA, lac, rfl⟩ := hav.val; rw [callsL_len, HWN.out] at hav ⊢; have HAV := hid hav; clear hav)
        | (go_at_call 30; (with_reducible refine (minutesHi_c (KO.out.ext (ext_trans E8.out (by first | assumption | exact Below.drew (by assumption)))) HSN.out _ hiv _ wrong calls A wc walk (HHI.out.ext (by first | exact ext_refl _ | exact hBl | exact hBa | exact ext_trans hBl hBa)) (KW.out.ext (ext_trans E8.out (by first | assumption | exact Below.drew (by assumption)))) HWK.out).mono ?_); rintro e wb ⟨bv, rfl, hbv, hBb⟩; obtain ⟨LB, lbc, rfl⟩ := hbv.val; rw [callsL_len, HWN.out] at hbv ⊢; have HBV := hid hbv; clear hbv))
    all_goals
      go_wp2
      refine wp_gen ?_
      intro Wz hWz
      have hez : Ext w8 Wz := by rw [hWz]; assumption
      have HLA : Hid (IsInts Wz (.slice LA wn lac) (callsL n (rLo home) (rngM (rLo streets) sn) start walk)) := hid (by rw [hWz]; first | exact HAV.out.ext (ext_trans hBg hBb) | exact HAV.out.ext hBb | exact HAV.out)
      have HLB : Hid (IsInts Wz (.slice LB wn lbc) (callsL n (rLo home) (rngM (rHi streets) sn) start walk)) := hid (by rw [hWz]; first | exact HBV.out.ext (ext_trans hBl hBa) | exact HBV.out.ext hBa | exact HBV.out)
      have HEZ := hid hez
      clear hWz hez hBl hBg hBa hBb f8
      go_loopw [12] (fun i wr => ∃ k : Nat, k ≤ wn ∧ i = .int .i64 k ∧ Ext Wz wr) (fun i _ => wn - (intOf i).toNat)
      case atStart => exact ⟨0, Nat.zero_le _, rfl, ext_refl _⟩
      case round =>
        obtain ⟨k, hk, rfl, hE⟩ := hrel
        by_cases hlt : k < wn
        · obtain ⟨cb, co, hV, hcc⟩ := (HC.out.ext (ext_trans HEZ.out hE)).at (by omega)
          subst hV
          obtain ⟨ab, ao, hV, hac⟩ := (HLA.out.ext hE).at (by omega)
          subst hV
          obtain ⟨bb, bo, hV, hbc⟩ := (HLB.out.ext hE).at (by omega)
          subst hV
          obtain ⟨g1, g2⟩ := hcc k hlt
          have g3 := hac k hlt
          have g4 := hbc k hlt
          rw [HL2.out, comesK_lo _ _ _ _ _ hlt, KE.out.tl] at g1
          rw [HL2.out, comesK_hi _ _ _ _ _ hlt, KE.out.tl] at g2
          rw [callsL_at _ _ _ _ _ (by have := HWN.out; omega)] at g3 g4
          obtain ⟨ma, hma⟩ : ∃ x, minAt n (rLo home) (rngM (rLo streets) sn) start walk (k + 1) = x := ⟨_, rfl⟩
          obtain ⟨mb, hmb⟩ : ∃ x, minAt n (rLo home) (rngM (rHi streets) sn) start walk (k + 1) = x := ⟨_, rfl⟩
          rw [hma] at g1 g3
          rw [hmb] at g2 g4
          have g5 := ext_cell g1 (ext_refl wr) (Nat.le_refl _)
          have g6 := ext_cell g2 (ext_refl wr) (Nat.le_refl _)
          have g7 := ext_cell g3 (ext_refl wr) (Nat.le_refl _)
          have g8 := ext_cell g4 (ext_refl wr) (Nat.le_refl _)
          have hi0 : (0 : Int) ≤ (k : Int) := by omega
          have hi1 : (k : Int) < (wn : Int) := by omega
          have e0 := ext_refl wr
          clear hcc hac hbc g1 g2 g3 g4 hma hmb
          go_wp2
          go_region_held3 (fun W => Ext wr W)
            (first | exact Below.drew (by assumption) | assumption | exact ext_trans (by assumption) (by assumption))
            ((go_at_call 35; refine (between_c _ _ _).mono ?_; rintro e wt ⟨rfl, hBt⟩))
          have et : Ext wr wt := by assumption
          clear g5 g6 g7 g8
          go_wp2
          go_roundw
          case rel => exact ⟨k + 1, hlt, by go_num, ext_trans hE et⟩
          case measure => simp [intOf]; omega
        · obtain rfl : wn = k := by omega
          have c9 := F8.out wr (ext_trans HEZ.out hE)
          have hew := ext_trans E8.out (ext_trans HEZ.out hE)
          rcases HDL.out with ⟨hd0, hlc0, hlm0⟩ | ⟨hd0, hlc0, hlm0⟩
          · subst hlc0
            subst hlm0
            go_wp2_with (first
              | (go_at_call 36; refine (lateR_c (KO.out.ext hew) HSN.out _ _ wrong calls A wc walk (KW.out.ext hew) HWK.out _ HD).mono ?_; rintro e w9 ⟨rfl, hB9⟩)
              | (go_at_call 21; refine (awake_c _).mono ?_; rintro e wa ⟨rfl, hBa⟩))
            go_ret
            exact ⟨rfl, ext_trans hew (ext_trans hB9 hBa)⟩
          · subst hlc0
            subst hlm0
            go_wp2_with (first
              | (go_at_call 36; refine (lateR_c (KO.out.ext hew) HSN.out _ _ wrong calls A wc walk (KW.out.ext hew) HWK.out _ HD).mono ?_; rintro e w9 ⟨rfl, hB9⟩)
              | (go_at_call 21; refine (awake_c _).mono ?_; rintro e wa ⟨rfl, hBa⟩))
            go_ret
            exact ⟨rfl, ext_trans hew (ext_trans hB9 hBa)⟩
  · have hlc2 : lcode = wcode := by rw [← hlc, lateC, if_neg (by rw [hwc]; exact hwc0), hwc]
    have hlm2 : lm = 0 := by rw [← hlm, lateN, hlc, hlc2, if_neg hwc0]
    obtain rfl : ln = 0 := by rw [← hln, ← hL, comesL, if_neg (by rw [hwc]; exact hwc0)]; rfl
    have hw1 : (wcode == 0) = false := beq_eq_false_iff_ne.2 hwc0
    have hw2 : (wcode != 0) = true := by rw [bne_iff_ne]; exact hwc0
    subst hlc2
    subst hlm2
    clear hwc hlc hlm hL hln
    obtain ⟨W0, hWd⟩ : ∃ W0, w.alloc (.cells #[.slice A n wc, .slice S pn pc, .int .i64 wrong, .slice H hn hc, .slice T sn sc, .int .i64 start, .int .i64 calls] 28) = W0 := ⟨_, rfl⟩
    have hW0 : Ext w W0 := by rw [← hWd]; go_grown
    have b1 : W0.heap[w.heap.size]? = some (.cells #[.slice A n wc, .slice S pn pc, .int .i64 wrong, .slice H hn hc, .slice T sn sc, .int .i64 start, .int .i64 calls] 28 (0, 0)) := by rw [← hWd]; exact (by repeat (first | exact heap_alloc_at _ _ (by simp) | refine heap_alloc_keep ?_))
    have f1 := ext_blk b1
    have HW0 := hid hWd
    have e0 : Ext W0 W0 := ext_refl W0
    clear hWd b1
    go_enter Tryz.func4, Tryz.ntmps4
    go_wp2_with fail
    rw [HW0.out]
    refine (short_x A n wc S pn pc wrong H hn hc T sn sc start calls women pieces home streets _ (KI.out.ext hW0) _ HSH).mono ?_
    rintro e w1 ⟨rfl, hB1⟩
    have e1 : Ext W0 w1 := hB1
    clear hB1
    go_wp2_with (first
      | (go_at_call 23; have tok1 := TK1; clear TK1; refine (errand_x A n wc S pn pc wrong H hn hc T sn sc start calls women pieces home streets _ (KE.out.ext (ext_trans hW0 e1)) HMK.out).mono ?_; rintro e w2 ⟨A2, wc2, S2, pc2, H2, hc2, T2, sc2, rfl, hE2, hB2⟩; have e2 := ext_trans e1 hB2; have HE2 := hid hE2; clear hE2)
      | (go_at_call 24; have tok2 := TK2; clear TK2; refine (list_x (.slice V wn vc) walk wn _ (KW.out.ext (ext_trans hW0 e2)) HWN (by omega)).mono ?_; rintro e w3 ⟨V3, vc3, rfl, hI3, hB3⟩; have e3 := ext_trans e2 hB3; have HI3 := hid hI3; clear hI3)
      | (go_at_call 31; refine (comes_x A2 n wc2 S2 pn pc2 wrong H2 hn hc2 T2 sn sc2 start calls women pieces home streets (by omega) _ (HE2.out.ext hB3) _ walk HI3.out L _ _ HL HLN HWC).mono ?_; rintro e w4 ⟨LV, lvc, rfl, hI4, hB4⟩; have e4 := ext_trans e3 hB4; have HI4 := hid hI4; clear hI4)
      | (go_at_call 23; refine (errand_x A n wc S pn pc wrong H hn hc T sn sc start calls women pieces home streets _ (KE.out.ext (ext_trans hW0 e4)) HMK.out).mono ?_; rintro e w5 ⟨A5, wc5, S5, pc5, H5, hc5, T5, sc5, rfl, hE5, hB5⟩; have e5 := ext_trans e4 hB5; have HE5 := hid hE5; clear hE5)
      | (go_at_call 24; refine (list_x (.slice V wn vc) walk wn _ (KW.out.ext (ext_trans hW0 e5)) HWN (by omega)).mono ?_; rintro e w6 ⟨V6, vc6, rfl, hI6, hB6⟩; have e6 := ext_trans e5 hB6; have HI6 := hid hI6; clear hI6)
      | (go_at_call 32; refine (late_x A5 n wc5 S5 pn pc5 wrong H5 hn hc5 T5 sn sc5 start calls women pieces home streets (by omega) _ (HE5.out.ext hB6) _ walk HI6.out _ _ HLM HLC).mono ?_; rintro e w7 ⟨rfl, hB7⟩; have e7 := ext_trans e6 hB7)
      | (go_at_call 25; refine (walked_c A n wc S pn pc wrong H hn hc T sn sc start calls women pieces home streets _ (KE.out.ext (ext_trans hW0 e7)) _ walk (KW.out.ext (ext_trans hW0 e7)) _ HWC).mono ?_; rintro e w8 ⟨rfl, hB8⟩; have e8 := ext_trans e7 hB8)
      | (go_at_call 21; refine (awake_c _).mono ?_; rintro e wa ⟨rfl, hBa⟩))
    go_ret
    exact ⟨rfl, ext_trans hW0 (ext_trans e8 hBa)⟩
end
end Go.Proofs.YtlcakmbejjlmeaaGreat
/- The statement ErrandComes, for every input: the row over its walk. -/
set_option linter.unusedVariables false
namespace Go.Proofs.YtlcakmbejjlmeaaGreat.ErrandComesRow
open Go.ChangeShapes Go.WideShapes Go.ChangeAt Go.RowKit
theorem own : ownKnob Tryz.prog.godebug = none := by kernel_rfl
theorem laidOut : laidOutB Tryz.prog = true := by kernel_rfl
set_option maxRecDepth 100000 in
theorem lifted (os : Os) (started : os.Started) (H : Type) (enc : TypeId × Value → H) :
    ReturnsInHanded {} Tryz.checked os 4 .any (Rows.errandComesSpec.pre6 enc Tryz.prog Tryz.f4 Rows.errandComesRow.domain false) (Rows.errandComesSpec.post enc Tryz.prog Tryz.f4 false true false false) := by
  refine returnsInHanded_of_change_sized (C := Tryz.checked) own started (by kernel_rfl) Tryz.func4
    (ChangeSpec.witness6 (enc := enc) (C := Tryz.checked) false ⟨#[], #[.agg #[.slice none 0 0, .slice none 0 0, .int .i64 0, .slice none 0 0, .slice none 0 0, .int .i64 0, .int .i64 0], .slice none 0 0], []⟩ 8 (by kernel_rfl) (by kernel_rfl) (by kernel_rfl) (by kernel_rfl)) ?_
  intro W base args ds gs before hval0 hW hcnd hsz0 _
  have hsz : (DataW.weightsEach Tryz.prog (Tryz.f4.params.toList ++ Rows.errandComesSpec.plain.varTypes Tryz.prog) (ds ++ gs)).all (· ≤ reachBytes) = true := hsz0
  have hval : ∀ (j : Nat) t v, Tryz.f4.params[j]? = some t → args[j]? = some v → Value.okWide Tryz.prog W .any base t v := hval0
  have hW' := hW
  obtain ⟨p, q, hA0, hV, rfl, hfz, hnd⟩ := hW
  have hA : DataW.TrodAll enc Tryz.prog W 0 (fun _ => true) true Tryz.f4.params.toList args.toList ds p := hA0
  rw [Tryz.params4] at hA hval hsz
  obtain ⟨v0, vs0, d0, ds0, p0, q0, hargs, rfl, rfl, h0, r0⟩ := trodAll_cons hA
  obtain ⟨v1, vs1, d1, ds1, p1, q1, rfl, rfl, rfl, h1, r1⟩ := trodAll_cons r0
  obtain ⟨rfl, rfl, rfl⟩ := trodAll_nil r1
  obtain rfl : args = #[v0, v1] := by cases args; simp_all
  obtain ⟨rfl, rfl⟩ := trodVars_none hV
  have k0 := h0
  have lt0 : ∀ x ∈ p0, x.block < W.heap.size := by obtain ⟨m, hm⟩ := k0; exact DataW.trod_lt m _ _ _ hm
  have wk0 : WOk Tryz.prog 28 d0 := fun n hn => by
    have h := List.all_eq_true.1 hsz _ (DataW.weights_mem_each (j := 0) rfl rfl n hn)
    simpa using h
  obtain ⟨A0, n0, wc0, S0, pn0, pc0, wrong0, T0, hn0, hc0, U0, sn0, sc0, start0, calls0, women0, pieces0, home0, streets0, rfl, hW0, hwl0, hP0, hpl0, hH0, hhl0, hS0, hsl0, ws0, wcl0, wwr0⟩ := open_errW (hval 0 28 v0 rfl rfl) h0 wk0
  have k1 := h1
  have lt1 : ∀ x ∈ p1, x.block < W.heap.size := by obtain ⟨m, hm⟩ := k1; exact DataW.trod_lt m _ _ _ hm
  have wk1 : WOk Tryz.prog 29 d1 := fun n hn => by
    have h := List.all_eq_true.1 hsz _ (DataW.weights_mem_each (j := 1) rfl rfl n hn)
    simpa using h
  obtain ⟨a1, len1, cap1, rfl⟩ := okWide_slice Tryz.underlying29 (hval 1 29 v1 rfl rfl)
  obtain ⟨fuel1, hf1⟩ := h1
  obtain ⟨b1, m1, c1, xs1, hv1, hI1, hl1⟩ := open_intsW (by simpa [Value.cells] using hf1) wk1
  clear hA0 hval0 hsz0 hsz
  refine (comes_w A0 n0 wc0 S0 pn0 pc0 wrong0 T0 hn0 hc0 U0 sn0 sc0 start0 calls0 women0 pieces0 home0 streets0 W ⟨hW0, hwl0, hP0, hpl0, hH0, hhl0, hS0, hsl0⟩ _ xs1 hI1).mono fun e W' ⟨he, bel⟩ => ?_
  subst he
  exact ⟨_, rfl, _, _, _, [], _, [], hW', trodAll_mk1 (shut_bool Tryz.underlying4 _), (trodAll_cons_mk (Below.trod laidOut (by kernel_rfl) (of_decide_eq_true (by kernel_rfl)) k0 bel lt0) (trodAll_cons_mk (Below.trod laidOut (by kernel_rfl) (of_decide_eq_true (by kernel_rfl)) k1 bel lt1) trodAll_mk0)), rfl, bel.frame _, fun h => by cases h⟩
theorem over : Rows.errandComesRow.holds Tryz.pinned (OpenSpec.ofChange Rows.errandComesSpec) :=
  OpenClaim.holds_of_wide 4 Tryz.f4 rfl rfl rfl rfl rfl rfl rfl ⟨rfl, rfl, rfl, rfl, rfl⟩ rfl rfl rfl rfl rfl (by kernel_rfl) Tryz.func4 (by kernel_rfl)
    (of_decide_eq_true (by kernel_rfl)) (by unfold Func.isWrapper; rw [if_neg (of_decide_eq_false (by kernel_rfl))]; exact ⟨rfl, rfl⟩)
    (fun os started H enc _ => lifted os started H enc)
end Go.Proofs.YtlcakmbejjlmeaaGreat.ErrandComesRow
namespace Go.Proofs.YtlcakmbejjlmeaaGreat
/-- ErrandComes, for every input. -/
theorem errandComes_holds : Rows.ErrandComesSaid := ErrandComesRow.over
#print axioms errandComes_holds
end Go.Proofs.YtlcakmbejjlmeaaGreat
