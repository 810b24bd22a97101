/- The statement ErrandOnward: its body answers true. -/
import Derived.Test.YtlcakmbejjlmeaaGreatK13
import Derived.Test.YtlcakmbejjlmeaaGreatRows
import Derived.WalkKit
import Derived.ProofKit
import Derived.OpenShut
import Derived.ShutString
import Derived.ChangeOld
import Derived.Below
import Derived.SizedLaws
set_option linter.unusedVariables false
set_option linter.unusedSimpArgs false
namespace Go.Proofs.YtlcakmbejjlmeaaGreat
open Go.RowKit
section
variable (A : Option Addr) (n wc : Nat) (S : Option Addr) (pn pc : Nat) (wrong : Int) (H : Option Addr) (hn hc : Nat) (T : Option Addr) (sn sc : Nat) (start calls : Int) (women : List Wom) (pieces : List Pce) (home streets : List Rng)
set_option maxHeartbeats 6400000 in
set_option maxRecDepth 100000 in
theorem onward_w (w : World) (h : ErrIn w A n wc S pn pc H hn hc T sn sc women pieces home streets) (uv : Value) (us : List Int) (hU : IsU16s w uv us) :
    Calls Tryz.prog 11 #[.agg #[.slice A n wc, .slice S pn pc, .int .i64 wrong, .slice H hn hc, .slice T sn sc, .int .i64 start, .int .i64 calls], uv] w
      fun e w' => e = .returned (.bool true) ∧ Ext w w' := by
  have KI := hid h
  have KU := hid hU
  obtain ⟨U, uc, rfl⟩ := hU.val
  obtain ⟨un, hun⟩ : ∃ x, us.length = x := ⟨_, rfl⟩
  rw [hun] at KU ⊢
  have hnb : n ≤ 140737488355328 := by have := h.W.1; rw [h.wl] at this; exact this
  obtain ⟨walk, hwalk⟩ : ∃ x, walkW n us = x := ⟨_, rfl⟩
  obtain ⟨wn, hwn⟩ : ∃ x, walk.length = x := ⟨_, rfl⟩
  have HWALK := hid hwalk
  have HWN := hid hwn
  have hok6 := walkW_ok n us
  rw [hwalk] at hok6
  have hw6 : wn ≤ 6 := by rw [← hwn]; exact hok6.len
  have HOK := hid hok6.ok
  obtain ⟨sh, hsh⟩ : ∃ x, readyF women pieces wrong home streets start calls = x := ⟨_, rfl⟩
  have HSH := hid hsh
  clear h hU hun hwalk hwn hok6
  cases sh
  · clear hsh
    obtain ⟨W0, hWd⟩ : ∃ W0, w.alloc (.cells #[.slice A n wc, .slice S pn pc, .int .i64 wrong, .slice H hn hc, .slice T sn sc, .int .i64 start, .int .i64 calls] 28) = W0 := ⟨_, rfl⟩
    have hW0 : Ext w W0 := by rw [← hWd]; go_grown
    have b1 : W0.heap[w.heap.size]? = some (.cells #[.slice A n wc, .slice S pn pc, .int .i64 wrong, .slice H hn hc, .slice T sn sc, .int .i64 start, .int .i64 calls] 28 (0, 0)) := by rw [← hWd]; exact (by repeat (first | exact heap_alloc_at _ _ (by simp) | refine heap_alloc_keep ?_))
    have f1 := ext_blk b1
    have HW0 := hid hWd
    have e0 : Ext W0 W0 := ext_refl W0
    clear hWd b1
    go_enter Tryz.func11, Tryz.ntmps11
    go_wp2_with fail
    rw [HW0.out]
    go_wp2_with fail
    refine (walkedW_c A n wc (.slice S pn pc) wrong (.slice H hn hc) (.slice T sn sc) start calls hnb _ us _ (KU.out.ext (ext_trans hW0 e0))).mono ?_
    rintro e w1 ⟨V, vc, rfl, hI, hB1, hcap⟩
    rw [HWALK.out, HWN.out] at hI
    rw [HWALK.out, HWN.out] at hcap
    rw [HWALK.out, HWN.out]
    have e1 : Ext W0 w1 := ext_trans e0 hB1
    have HI := hid hI
    clear hI
    go_wp2_with fail
    refine (ready_x A n wc S pn pc wrong H hn hc T sn sc start calls women pieces home streets _ (KI.out.ext (ext_trans hW0 e1)) _ HSH).mono ?_
    rintro e w2 ⟨rfl, hB2⟩
    have e2 : Ext W0 w2 := ext_trans e1 hB2
    go_wp2_with fail
    refine (awake_c _).mono ?_
    rintro e wa ⟨rfl, hBa⟩
    go_wp2
    go_ret
    exact ⟨rfl, ext_trans hW0 (ext_trans e2 hBa)⟩
  have hsh2 := hsh
  rw [readyF, Bool.and_eq_true, decide_eq_true_eq] at hsh2
  obtain ⟨hat, hn30, hmk⟩ := KI.out.at (thinF_short hsh2.1)
  have KE := hid hat
  have HMK := hid hmk
  obtain ⟨hz, hzz⟩ : ∃ q, q = hsh2.2 := ⟨_, rfl⟩
  have HERR := hid hsh2.2
  by_cases hw0 : wn = 0
  · have hw1 : ((wn : Int) == 0) = true := by rw [hw0]; rfl
    have HW0' := hid hw0
    clear hsh hsh2 hat hmk hw0 hzz hz
    obtain ⟨W0, hWd⟩ : ∃ W0, w.alloc (.cells #[.slice A n wc, .slice S pn pc, .int .i64 wrong, .slice H hn hc, .slice T sn sc, .int .i64 start, .int .i64 calls] 28) = W0 := ⟨_, rfl⟩
    have hW0 : Ext w W0 := by rw [← hWd]; go_grown
    have b1 : W0.heap[w.heap.size]? = some (.cells #[.slice A n wc, .slice S pn pc, .int .i64 wrong, .slice H hn hc, .slice T sn sc, .int .i64 start, .int .i64 calls] 28 (0, 0)) := by rw [← hWd]; exact (by repeat (first | exact heap_alloc_at _ _ (by simp) | refine heap_alloc_keep ?_))
    have f1 := ext_blk b1
    have HW0 := hid hWd
    have e0 : Ext W0 W0 := ext_refl W0
    clear hWd b1
    go_enter Tryz.func11, Tryz.ntmps11
    go_wp2_with fail
    rw [HW0.out]
    go_wp2_with fail
    refine (walkedW_c A n wc (.slice S pn pc) wrong (.slice H hn hc) (.slice T sn sc) start calls hnb _ us _ (KU.out.ext (ext_trans hW0 e0))).mono ?_
    rintro e w1 ⟨V, vc, rfl, hI, hB1, hcap⟩
    rw [HWALK.out, HWN.out] at hI
    rw [HWALK.out, HWN.out] at hcap
    rw [HWALK.out, HWN.out]
    have e1 : Ext W0 w1 := ext_trans e0 hB1
    have HI := hid hI
    clear hI
    go_wp2_with fail
    refine (ready_x A n wc S pn pc wrong H hn hc T sn sc start calls women pieces home streets _ (KI.out.ext (ext_trans hW0 e1)) _ HSH).mono ?_
    rintro e w2 ⟨rfl, hB2⟩
    have e2 : Ext W0 w2 := ext_trans e1 hB2
    go_wp2_with fail
    refine (awake_c _).mono ?_
    rintro e wa ⟨rfl, hBa⟩
    go_wp2
    go_ret
    exact ⟨rfl, ext_trans hW0 (ext_trans e2 hBa)⟩
  have hw1 : ((wn : Int) == 0) = false := by rw [beq_eq_false_iff_ne]; omega
  obtain ⟨m, hm⟩ : ∃ m, wn = m + 1 := ⟨wn - 1, by omega⟩
  have hkk : IntKind.i64.wrap ((wn : Int) - 1) = (m : Int) := by rw [show (wn : Int) - 1 = (m : Int) from by omega]; exact IntWalk.i64_in _ (by omega)
  have hmm : (m : Int) ≤ (wn : Int) := by omega
  obtain ⟨walk0, hwalk0⟩ : ∃ x, walk.take m = x := ⟨_, rfl⟩
  have HW0L : Hid (walk0.length = m) := hid (by rw [← hwalk0, List.length_take, HWN.out]; omega)
  have hnl : women.length = n := hat.wl
  have HC : Hid (walkC women pieces wrong home streets start calls walk = 0) := hid (walkC_zero hsh2.2 (by rw [hnl]; exact HOK.out))
  have HC0 : Hid (walkC women pieces wrong home streets start calls walk0 = 0) := hid (walkC_zero hsh2.2 (by rw [hnl, ← hwalk0]; exact HOK.out.take m))
  obtain ⟨R0, hR0⟩ : ∃ x, bringsL women pieces wrong home streets start calls walk0 = x := ⟨_, rfl⟩
  obtain ⟨r0, hr0⟩ : ∃ x, R0.length = x := ⟨_, rfl⟩
  obtain ⟨R1, hR1⟩ : ∃ x, bringsL women pieces wrong home streets start calls walk = x := ⟨_, rfl⟩
  obtain ⟨r1, hr1⟩ : ∃ x, R1.length = x := ⟨_, rfl⟩
  have HR0 := hid hR0
  have Hr0 := hid hr0
  have HR1 := hid hR1
  have Hr1 := hid hr1
  have HHAS : Hid (∀ k, k < r0 → hasF R1 (at0 R0 k) = true) := hid (fun k hk => by
    have h := bringsL_take (l := walk) (m := m) (by rw [hwalk0]; exact HC0.out) HC.out (k := k) (by rw [hwalk0, hR0, hr0]; exact hk)
    rw [hwalk0, hR0, hR1] at h
    exact h)
  obtain ⟨C0, hC0⟩ : ∃ x, comesL women pieces wrong home streets start calls walk0 = x := ⟨_, rfl⟩
  obtain ⟨C1, hC1⟩ : ∃ x, comesL women pieces wrong home streets start calls walk = x := ⟨_, rfl⟩
  have HC0L := hid hC0
  have HC1L := hid hC1
  have hC0' : C0 = comesK n home streets start walk0 m := by rw [← hC0, comesL, if_pos HC0.out, hnl, HW0L.out]
  have hC1' : C1 = comesK n home streets start walk wn := by rw [← hC1, comesL, if_pos HC.out, hnl, HWN.out]
  have HC0N : Hid (C0.length = m) := hid (by rw [hC0', comesK_len])
  have HC1N : Hid (C1.length = wn) := hid (by rw [hC1', comesK_len])
  have HCE : Hid (∀ k, k < m → rLo C0 k = rLo C1 k ∧ rHi C0 k = rHi C1 k) := hid (fun k hk => by
    rw [hC0', hC1', (comesK_at _ _ _ _ _ hk).1, (comesK_at _ _ _ _ _ hk).2, (comesK_at _ _ _ _ _ (show k < wn by omega)).1, (comesK_at _ _ _ _ _ (show k < wn by omega)).2, ← hwalk0, minAt_take _ _ _ _ _ _ (by omega), minAt_take _ _ _ _ _ _ (by omega)]
    exact ⟨rfl, rfl⟩)
  have HWT := hid hwalk0
  have HM := hid hm
  have hw0' : 0 < wn := by omega
  clear hsh hsh2 hat hmk hw0 hzz hz hm hwalk0 hnl hR0 hr0 hR1 hr1 hC0 hC1 hC0' hC1'
  obtain ⟨W0, hWd⟩ : ∃ W0, w.alloc (.cells #[.slice A n wc, .slice S pn pc, .int .i64 wrong, .slice H hn hc, .slice T sn sc, .int .i64 start, .int .i64 calls] 28) = W0 := ⟨_, rfl⟩
  have hW0 : Ext w W0 := by rw [← hWd]; go_grown
  have b1 : W0.heap[w.heap.size]? = some (.cells #[.slice A n wc, .slice S pn pc, .int .i64 wrong, .slice H hn hc, .slice T sn sc, .int .i64 start, .int .i64 calls] 28 (0, 0)) := by rw [← hWd]; exact (by repeat (first | exact heap_alloc_at _ _ (by simp) | refine heap_alloc_keep ?_))
  have f1 := ext_blk b1
  have HW0 := hid hWd
  have e0 : Ext W0 W0 := ext_refl W0
  clear hWd b1
  go_enter Tryz.func11, Tryz.ntmps11
  go_wp2_with fail
  rw [HW0.out]
  go_wp2_with fail
  refine (walkedW_c A n wc (.slice S pn pc) wrong (.slice H hn hc) (.slice T sn sc) start calls hnb _ us _ (KU.out.ext (ext_trans hW0 e0))).mono ?_
  rintro e w1 ⟨V, vc, rfl, hI, hB1, hcap⟩
  rw [HWALK.out, HWN.out] at hI
  rw [HWALK.out, HWN.out] at hcap
  rw [HWALK.out, HWN.out]
  have e1 : Ext W0 w1 := ext_trans e0 hB1
  have HI := hid hI
  clear hI
  obtain ⟨vb, vo, hV, _⟩ := HI.out.at hw0'
  subst hV
  have HI0 : Hid (IsInts w1 (.slice (some ⟨vb, vo, none⟩) m vc) walk0) := hid (by rw [← HWT.out]; exact ints_take HI.out HWN.out (by omega) hw0')
  have hmc : (m : Int) ≤ (vc : Int) := by omega
  go_wp2_with fail
  refine (ready_x A n wc S pn pc wrong H hn hc T sn sc start calls women pieces home streets _ (KI.out.ext (ext_trans hW0 e1)) _ HSH).mono ?_
  rintro e w2 ⟨rfl, hB2⟩
  have e2 : Ext W0 w2 := ext_trans e1 hB2
  replace HI := hid (HI.out.ext hB2)
  replace HI0 := hid (HI0.out.ext hB2)
  go_wp2_with fail
  refine (errand_x A n wc S pn pc wrong H hn hc T sn sc start calls women pieces home streets _ (KE.out.ext (ext_trans hW0 e2)) HMK.out).mono ?_
  rintro e w3 ⟨A3, wc3, S3, pc3, H3, hc3, T3, sc3, rfl, hE3, hB3⟩
  have e3 := ext_trans e2 hB3
  have HE3 := hid hE3
  clear hE3
  replace HI := hid (HI.out.ext hB3)
  replace HI0 := hid (HI0.out.ext hB3)
  go_wp2_with fail
  refine (list_x (.slice (some ⟨vb, vo, none⟩) m vc) walk0 m _ HI0.out HW0L (by omega)).mono ?_
  rintro e w4 ⟨V4, vc4, rfl, hI4, hB4⟩
  have e4 := ext_trans e3 hB4
  have HI4 := hid hI4
  clear hI4
  replace HI := hid (HI.out.ext hB4)
  replace HI0 := hid (HI0.out.ext hB4)
  go_wp2_with fail
  refine (brings_x A3 n wc3 S3 pn pc3 wrong H3 hn hc3 T3 sn sc3 start calls women pieces home streets (by omega) _ (HE3.out.ext hB4) _ walk0 HI4.out R0 r0 _ HR0 Hr0 HC0).mono ?_
  rintro e w5 ⟨LV5, lvc5, rfl, hL5, hB5⟩
  have e5 := ext_trans e4 hB5
  have HL5 := hid hL5
  clear hL5
  replace HI := hid (HI.out.ext hB5)
  replace HI0 := hid (HI0.out.ext hB5)
  go_wp2_with fail
  refine (errand_x A n wc S pn pc wrong H hn hc T sn sc start calls women pieces home streets _ (KE.out.ext (ext_trans hW0 e5)) HMK.out).mono ?_
  rintro e w6 ⟨A6, wc6, S6, pc6, H6, hc6, T6, sc6, rfl, hE6, hB6⟩
  have e6 := ext_trans e5 hB6
  have HE6 := hid hE6
  clear hE6
  replace HI := hid (HI.out.ext hB6)
  replace HI0 := hid (HI0.out.ext hB6)
  go_wp2_with fail
  refine (list_x (.slice (some ⟨vb, vo, none⟩) wn vc) walk wn _ HI.out HWN (by omega)).mono ?_
  rintro e w7 ⟨V7, vc7, rfl, hI7, hB7⟩
  have e7 := ext_trans e6 hB7
  have HI7 := hid hI7
  clear hI7
  replace HI := hid (HI.out.ext hB7)
  replace HI0 := hid (HI0.out.ext hB7)
  go_wp2_with fail
  refine (brings_x A6 n wc6 S6 pn pc6 wrong H6 hn hc6 T6 sn sc6 start calls women pieces home streets (by omega) _ (HE6.out.ext hB7) _ walk HI7.out R1 r1 _ HR1 Hr1 HC).mono ?_
  rintro e w8 ⟨LV8, lvc8, rfl, hL8, hB8⟩
  have e8 := ext_trans e7 hB8
  have HL8 := hid hL8
  clear hL8
  replace HI := hid (HI.out.ext hB8)
  replace HI0 := hid (HI0.out.ext hB8)
  go_wp2_with fail
  refine (errand_x A n wc S pn pc wrong H hn hc T sn sc start calls women pieces home streets _ (KE.out.ext (ext_trans hW0 e8)) HMK.out).mono ?_
  rintro e w9 ⟨A9, wc9, S9, pc9, H9, hc9, T9, sc9, rfl, hE9, hB9⟩
  have e9 := ext_trans e8 hB9
  have HE9 := hid hE9
  clear hE9
  replace HI := hid (HI.out.ext hB9)
  replace HI0 := hid (HI0.out.ext hB9)
  go_wp2_with fail
  refine (list_x (.slice (some ⟨vb, vo, none⟩) m vc) walk0 m _ HI0.out HW0L (by omega)).mono ?_
  rintro e w10 ⟨V10, vc10, rfl, hI10, hB10⟩
  have e10 := ext_trans e9 hB10
  have HI10 := hid hI10
  clear hI10
  replace HI := hid (HI.out.ext hB10)
  replace HI0 := hid (HI0.out.ext hB10)
  go_wp2_with fail
  refine (comes_x A9 n wc9 S9 pn pc9 wrong H9 hn hc9 T9 sn sc9 start calls women pieces home streets (by omega) _ (HE9.out.ext hB10) _ walk0 HI10.out C0 m _ HC0L HC0N HC0).mono ?_
  rintro e w11 ⟨LV11, lvc11, rfl, hL11, hB11⟩
  have e11 := ext_trans e10 hB11
  have HL11 := hid hL11
  clear hL11
  replace HI := hid (HI.out.ext hB11)
  replace HI0 := hid (HI0.out.ext hB11)
  go_wp2_with fail
  refine (errand_x A n wc S pn pc wrong H hn hc T sn sc start calls women pieces home streets _ (KE.out.ext (ext_trans hW0 e11)) HMK.out).mono ?_
  rintro e w12 ⟨A12, wc12, S12, pc12, H12, hc12, T12, sc12, rfl, hE12, hB12⟩
  have e12 := ext_trans e11 hB12
  have HE12 := hid hE12
  clear hE12
  replace HI := hid (HI.out.ext hB12)
  replace HI0 := hid (HI0.out.ext hB12)
  go_wp2_with fail
  refine (list_x (.slice (some ⟨vb, vo, none⟩) wn vc) walk wn _ HI.out HWN (by omega)).mono ?_
  rintro e w13 ⟨V13, vc13, rfl, hI13, hB13⟩
  have e13 := ext_trans e12 hB13
  have HI13 := hid hI13
  clear hI13
  replace HI := hid (HI.out.ext hB13)
  replace HI0 := hid (HI0.out.ext hB13)
  go_wp2_with fail
  refine (comes_x A12 n wc12 S12 pn pc12 wrong H12 hn hc12 T12 sn sc12 start calls women pieces home streets (by omega) _ (HE12.out.ext hB13) _ walk HI13.out C1 wn _ HC1L HC1N HC).mono ?_
  rintro e w14 ⟨LV14, lvc14, rfl, hL14, hB14⟩
  have e14 := ext_trans e13 hB14
  have HL14 := hid hL14
  clear hL14
  replace HI := hid (HI.out.ext hB14)
  replace HI0 := hid (HI0.out.ext hB14)
  have HB0 := hid (HL5.out.ext (ext_trans hB6 (ext_trans hB7 (ext_trans hB8 (ext_trans hB9 (ext_trans hB10 (ext_trans hB11 (ext_trans hB12 (ext_trans hB13 hB14)))))))))
  have HB1 := hid (HL8.out.ext (ext_trans hB9 (ext_trans hB10 (ext_trans hB11 (ext_trans hB12 (ext_trans hB13 hB14))))))
  have HD0 := hid (HL11.out.ext (ext_trans hB12 (ext_trans hB13 hB14)))
  have HD1 := HL14
  have hr0b := HB0.out.1
  rw [Hr0.out] at hr0b
  have E14 := hid (ext_trans hW0 e14)
  clear hB1 hB2 hB3 hB4 hB5 hB6 hB7 hB8 hB9 hB10 hB11 hB12 hB13 hB14 e1 e2 e3 e4 e5 e6 e7 e8 e9 e10 e11 e12 e13 e14 f1
  go_wp2_with fail
  go_loopw [15] (fun i wr => ∃ k : Nat, k ≤ r0 ∧ i = .int .i64 k ∧ Ext w14 wr) (fun i _ => r0 - (intOf i).toNat)
  case atStart => exact ⟨0, Nat.zero_le _, rfl, ext_refl _⟩
  case round =>
    obtain ⟨k, hk, rfl, hE⟩ := hrel
    by_cases hlt : k < r0
    · obtain ⟨cb, co, hV, hcc⟩ := (HB0.out.ext hE).at (by omega)
      subst hV
      have g1 := hcc k hlt
      obtain ⟨x, hx⟩ : ∃ x, at0 R0 k = x := ⟨_, rfl⟩
      have HH : Hid (hasF R1 x = true) := hid (by rw [← hx]; exact HHAS.out k hlt)
      rw [hx] at g1
      have hi0 : (0 : Int) ≤ (k : Int) := by omega
      have hi1 : (k : Int) < (r0 : Int) := by omega
      clear hcc hx
      go_wp2_with (go_at_call 49; refine (hasR_b _ R1 x true HH _ (HB1.out.ext hE)).mono ?_; rintro e wt ⟨rfl, rfl⟩)
      go_roundw
      case rel => exact ⟨k + 1, hlt, by go_num, hE⟩
      case measure => simp [intOf]; omega
    · obtain rfl : r0 = k := by omega
      go_wp2
      obtain ⟨wz, hwz⟩ : ∃ x, wr = x := ⟨_, rfl⟩
      go_loopw [16] (fun i wq => ∃ k : Nat, k ≤ m ∧ i = .int .i64 k ∧ Ext w14 wq) (fun i _ => m - (intOf i).toNat)
      case atStart => exact ⟨0, Nat.zero_le _, rfl, hE⟩
      case round =>
        obtain ⟨k, hk, rfl, hE⟩ := hrel
        by_cases hlt : k < m
        · obtain ⟨cb, co, hV, hcc⟩ := (HD0.out.ext hE).at (by omega)
          subst hV
          obtain ⟨db, d0, hV, hdd⟩ := (HD1.out.ext hE).at (by omega)
          subst hV
          obtain ⟨g1, g2⟩ := hcc k hlt
          obtain ⟨g3, g4⟩ := hdd k (by omega)
          obtain ⟨q1, q2⟩ := HCE.out k hlt
          rw [← q1] at g3
          rw [← q2] at g4
          obtain ⟨ma, hma⟩ : ∃ x, rLo C0 k = x := ⟨_, rfl⟩
          obtain ⟨mb, hmb⟩ : ∃ x, rHi C0 k = x := ⟨_, rfl⟩
          rw [hma] at g1 g3
          rw [hmb] at g2 g4
          have g5 := ext_cell g1 (ext_refl _) (Nat.le_refl _)
          have g6 := ext_cell g2 (ext_refl _) (Nat.le_refl _)
          have g7 := ext_cell g3 (ext_refl _) (Nat.le_refl _)
          have g8 := ext_cell g4 (ext_refl _) (Nat.le_refl _)
          have hi0 : (0 : Int) ≤ (k : Int) := by omega
          have hi1 : (k : Int) < (m : Int) := by omega
          have hi2 : (k : Int) < (wn : Int) := by omega
          clear hcc hdd g1 g2 g3 g4 hma hmb q1 q2
          have e0 := ext_refl wr
          go_wp2
          go_region_held3 (fun W => Ext wr W)
            (first | exact Below.drew (by assumption) | assumption | exact ext_trans (by assumption) (by assumption))
            (fail)
          have et : Ext wr wr.drew := (ext_refl wr).drew
          clear g5 g6 g7 g8
          go_wp2
          go_roundw
          case rel => exact ⟨k + 1, hlt, by go_num, ext_trans hE (by first | exact et | assumption)⟩
          case measure => simp [intOf]; omega
        · obtain rfl : m = k := by omega
          go_wp2_with fail
          refine (awake_c _).mono ?_
          rintro e wa ⟨rfl, hBa⟩
          go_wp2
          go_ret
          exact ⟨rfl, ext_trans E14.out (ext_trans hE hBa)⟩
end
end Go.Proofs.YtlcakmbejjlmeaaGreat
/- The statement ErrandOnward, for every input: the row over its walk. -/
set_option linter.unusedVariables false
namespace Go.Proofs.YtlcakmbejjlmeaaGreat.ErrandOnwardRow
open Go.ChangeShapes Go.WideShapes Go.ChangeAt Go.RowKit
theorem own : ownKnob Tryz.prog.godebug = none := by kernel_rfl
theorem laidOut : laidOutB Tryz.prog = true := by kernel_rfl
set_option maxRecDepth 100000 in
theorem lifted (os : Os) (started : os.Started) (H : Type) (enc : TypeId × Value → H) :
    ReturnsInHanded {} Tryz.checked os 11 .any (Rows.errandOnwardSpec.pre6 enc Tryz.prog Tryz.f11 Rows.errandOnwardRow.domain false) (Rows.errandOnwardSpec.post enc Tryz.prog Tryz.f11 false true false false) := by
  refine returnsInHanded_of_change_sized (C := Tryz.checked) own started (by kernel_rfl) Tryz.func11
    (ChangeSpec.witness6 (enc := enc) (C := Tryz.checked) false ⟨#[], #[.agg #[.slice none 0 0, .slice none 0 0, .int .i64 0, .slice none 0 0, .slice none 0 0, .int .i64 0, .int .i64 0], .slice none 0 0], []⟩ 8 (by kernel_rfl) (by kernel_rfl) (by kernel_rfl) (by kernel_rfl)) ?_
  intro W base args ds gs before hval0 hW hcnd hsz0 _
  have hsz : (DataW.weightsEach Tryz.prog (Tryz.f11.params.toList ++ Rows.errandOnwardSpec.plain.varTypes Tryz.prog) (ds ++ gs)).all (· ≤ reachBytes) = true := hsz0
  have hval : ∀ (j : Nat) t v, Tryz.f11.params[j]? = some t → args[j]? = some v → Value.okWide Tryz.prog W .any base t v := hval0
  have hW' := hW
  obtain ⟨p, q, hA0, hV, rfl, hfz, hnd⟩ := hW
  have hA : DataW.TrodAll enc Tryz.prog W 0 (fun _ => true) true Tryz.f11.params.toList args.toList ds p := hA0
  rw [Tryz.params11] at hA hval hsz
  obtain ⟨v0, vs0, d0, ds0, p0, q0, hargs, rfl, rfl, h0, r0⟩ := trodAll_cons hA
  obtain ⟨v1, vs1, d1, ds1, p1, q1, rfl, rfl, rfl, h1, r1⟩ := trodAll_cons r0
  obtain ⟨rfl, rfl, rfl⟩ := trodAll_nil r1
  obtain rfl : args = #[v0, v1] := by cases args; simp_all
  obtain ⟨rfl, rfl⟩ := trodVars_none hV
  have k0 := h0
  have lt0 : ∀ x ∈ p0, x.block < W.heap.size := by obtain ⟨m, hm⟩ := k0; exact DataW.trod_lt m _ _ _ hm
  have wk0 : WOk Tryz.prog 28 d0 := fun n hn => by
    have h := List.all_eq_true.1 hsz _ (DataW.weights_mem_each (j := 0) rfl rfl n hn)
    simpa using h
  obtain ⟨A0, n0, wc0, S0, pn0, pc0, wrong0, T0, hn0, hc0, U0, sn0, sc0, start0, calls0, women0, pieces0, home0, streets0, rfl, hW0, hwl0, hP0, hpl0, hH0, hhl0, hS0, hsl0, ws0, wcl0, wwr0⟩ := open_errW (hval 0 28 v0 rfl rfl) h0 wk0
  have k1 := h1
  have lt1 : ∀ x ∈ p1, x.block < W.heap.size := by obtain ⟨m, hm⟩ := k1; exact DataW.trod_lt m _ _ _ hm
  have wk1 : WOk Tryz.prog 69 d1 := fun n hn => by
    have h := List.all_eq_true.1 hsz _ (DataW.weights_mem_each (j := 1) rfl rfl n hn)
    simpa using h
  obtain ⟨a1, len1, cap1, rfl⟩ := okWide_slice Tryz.underlying69 (hval 1 69 v1 rfl rfl)
  obtain ⟨fuel1, hf1⟩ := h1
  obtain ⟨b1, m1, c1, xs1, hv1, hI1, hl1⟩ := open_u16W (by simpa [Value.cells] using hf1) wk1
  clear hA0 hval0 hsz0 hsz
  refine (onward_w A0 n0 wc0 S0 pn0 pc0 wrong0 T0 hn0 hc0 U0 sn0 sc0 start0 calls0 women0 pieces0 home0 streets0 W ⟨hW0, hwl0, hP0, hpl0, hH0, hhl0, hS0, hsl0⟩ _ xs1 hI1).mono fun e W' ⟨he, bel⟩ => ?_
  subst he
  exact ⟨_, rfl, _, _, _, [], _, [], hW', trodAll_mk1 (shut_bool Tryz.underlying4 _), (trodAll_cons_mk (Below.trod laidOut (by kernel_rfl) (of_decide_eq_true (by kernel_rfl)) k0 bel lt0) (trodAll_cons_mk (Below.trod laidOut (by kernel_rfl) (of_decide_eq_true (by kernel_rfl)) k1 bel lt1) trodAll_mk0)), rfl, bel.frame _, fun h => by cases h⟩
theorem over : Rows.errandOnwardRow.holds Tryz.pinned (OpenSpec.ofChange Rows.errandOnwardSpec) :=
  OpenClaim.holds_of_wide 11 Tryz.f11 rfl rfl rfl rfl rfl rfl rfl ⟨rfl, rfl, rfl, rfl, rfl⟩ rfl rfl rfl rfl rfl (by kernel_rfl) Tryz.func11 (by kernel_rfl)
    (of_decide_eq_true (by kernel_rfl)) (by unfold Func.isWrapper; rw [if_neg (of_decide_eq_false (by kernel_rfl))]; exact ⟨rfl, rfl⟩)
    (fun os started H enc _ => lifted os started H enc)
end Go.Proofs.YtlcakmbejjlmeaaGreat.ErrandOnwardRow
namespace Go.Proofs.YtlcakmbejjlmeaaGreat
/-- ErrandOnward, for every input. -/
theorem errandOnward_holds : Rows.ErrandOnwardSaid := ErrandOnwardRow.over
#print axioms errandOnward_holds
end Go.Proofs.YtlcakmbejjlmeaaGreat
