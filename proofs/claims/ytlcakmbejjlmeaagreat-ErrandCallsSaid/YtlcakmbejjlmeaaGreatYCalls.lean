/- The statement ErrandCalls: its body answers true. -/
import Derived.Test.YtlcakmbejjlmeaaGreatK16
import Derived.Test.YtlcakmbejjlmeaaGreatRows
import Derived.Test.YtlcakmbejjlmeaaGreatK8
import Derived.WalkKit
import Derived.ProofKit
import Derived.OpenShut
import Derived.ShutString
import Derived.ChangeOld
import Derived.Below
import Derived.SizedLaws
set_option linter.unusedVariables false
set_option linter.unusedSimpArgs false
namespace Go.Proofs.YtlcakmbejjlmeaaGreat
open Go.RowKit
section
variable (A : Option Addr) (n wc : Nat) (S : Option Addr) (pn pc : Nat) (wrong : Int) (H : Option Addr) (hn hc : Nat) (T : Option Addr) (sn sc : Nat) (start calls : Int) (women : List Wom) (pieces : List Pce) (home streets : List Rng)
set_option maxHeartbeats 6400000 in
set_option maxRecDepth 100000 in
theorem calls_w (w : World) (h : ErrIn w A n wc S pn pc H hn hc T sn sc women pieces home streets) :
    Calls Tryz.prog 12 #[.agg #[.slice A n wc, .slice S pn pc, .int .i64 wrong, .slice H hn hc, .slice T sn sc, .int .i64 start, .int .i64 calls]] w
      fun e w' => e = .returned (.bool true) ∧ Ext w w' := by
  have KI := hid h
  obtain ⟨sh, hsh⟩ : ∃ x, readyF women pieces wrong home streets start calls = x := ⟨_, rfl⟩
  have HSH := hid hsh
  clear h
  cases sh
  · clear hsh
    obtain ⟨W0, hWd⟩ : ∃ W0, w.alloc (.cells #[.slice A n wc, .slice S pn pc, .int .i64 wrong, .slice H hn hc, .slice T sn sc, .int .i64 start, .int .i64 calls] 28) = W0 := ⟨_, rfl⟩
    have hW0 : Ext w W0 := by rw [← hWd]; go_grown
    have b1 : W0.heap[w.heap.size]? = some (.cells #[.slice A n wc, .slice S pn pc, .int .i64 wrong, .slice H hn hc, .slice T sn sc, .int .i64 start, .int .i64 calls] 28 (0, 0)) := by rw [← hWd]; exact (by repeat (first | exact heap_alloc_at _ _ (by simp) | refine heap_alloc_keep ?_))
    have f1 := ext_blk b1
    have HW0 := hid hWd
    have e0 : Ext W0 W0 := ext_refl W0
    clear hWd b1
    go_enter Tryz.func12, Tryz.ntmps12
    go_wp2_with fail
    rw [HW0.out]
    go_wp2_with fail
    refine (ready_x A n wc S pn pc wrong H hn hc T sn sc start calls women pieces home streets _ (KI.out.ext (ext_trans hW0 e0)) _ HSH).mono ?_
    rintro e w1 ⟨rfl, hB1⟩
    have e1 : Ext W0 w1 := ext_trans e0 hB1
    go_wp2_with fail
    refine (awake_c _).mono ?_
    rintro e wa ⟨rfl, hBa⟩
    go_wp2
    go_ret
    exact ⟨rfl, ext_trans hW0 (ext_trans e1 hBa)⟩
  have hsh2 := hsh
  rw [readyF, Bool.and_eq_true, decide_eq_true_eq] at hsh2
  obtain ⟨hat, hn30, hmk⟩ := KI.out.at (thinF_short hsh2.1)
  have KE := hid hat
  have HMK := hid hmk
  have he := hsh2.2
  have HERR := hid he
  have hz := errE_zero he
  have HAE := hid hz.1
  have hnl : women.length = n := hat.wl
  have hn4 : n ≤ 4 := by rw [← hnl]; exact hz.2.1
  obtain ⟨bc, hbc⟩ : ∃ x, bestC women pieces wrong home streets start calls = x := ⟨_, rfl⟩
  obtain ⟨bl, hbl⟩ : ∃ x, bestL women pieces wrong home streets start calls = x := ⟨_, rfl⟩
  obtain ⟨bn, hbn⟩ : ∃ x, bl.length = x := ⟨_, rfl⟩
  obtain ⟨be, hbe⟩ : ∃ x, bestN women pieces wrong home streets start calls = x := ⟨_, rfl⟩
  obtain ⟨fw, hfw⟩ : ∃ x, fewestN women pieces wrong home streets start calls = x := ⟨_, rfl⟩
  obtain ⟨moves, hmv⟩ : ∃ x, movesF women pieces wrong = x := ⟨_, rfl⟩
  obtain ⟨mn, hmn⟩ : ∃ x, moves.length = x := ⟨_, rfl⟩
  have HBC := hid hbc
  have HBL := hid hbl
  have HBN := hid hbn
  have HBE := hid hbe
  have HFW := hid hfw
  have HMV := hid hmv
  have HMN := hid hmn
  have hm7 : mn ≤ 7 := by rw [← hmn, ← hmv]; have := movesF_len women pieces wrong; have := (askedE_zero hz.1).2.2.2.1; omega
  by_cases hm0 : mn = 0
  · obtain ⟨z1, z2, z3, z4⟩ := calls_none he (by rw [hmv]; exact List.eq_nil_of_length_eq_zero (by omega))
    obtain rfl : fw = 0 := by rw [← hfw, z1]
    obtain rfl : bc = 0 := by rw [← hbc, z2]
    obtain rfl : bn = 0 := by rw [← hbn, ← hbl, z3]; rfl
    rw [z4] at hbe
    subst hbe
    have hm1 : ((mn : Int) == 0) = true := by rw [hm0]; rfl
    clear hsh hsh2 hat hmk he hz hnl hbc hbl hbn hfw hmv hmn z1 z2 z3 z4 hm0
    obtain ⟨W0, hWd⟩ : ∃ W0, w.alloc (.cells #[.slice A n wc, .slice S pn pc, .int .i64 wrong, .slice H hn hc, .slice T sn sc, .int .i64 start, .int .i64 calls] 28) = W0 := ⟨_, rfl⟩
    have hW0 : Ext w W0 := by rw [← hWd]; go_grown
    have b1 : W0.heap[w.heap.size]? = some (.cells #[.slice A n wc, .slice S pn pc, .int .i64 wrong, .slice H hn hc, .slice T sn sc, .int .i64 start, .int .i64 calls] 28 (0, 0)) := by rw [← hWd]; exact (by repeat (first | exact heap_alloc_at _ _ (by simp) | refine heap_alloc_keep ?_))
    have f1 := ext_blk b1
    have HW0 := hid hWd
    have e0 : Ext W0 W0 := ext_refl W0
    clear hWd b1
    go_enter Tryz.func12, Tryz.ntmps12
    go_wp2_with fail
    rw [HW0.out]
    go_wp2_with fail
    refine (ready_x A n wc S pn pc wrong H hn hc T sn sc start calls women pieces home streets _ (KI.out.ext (ext_trans hW0 e0)) _ HSH).mono ?_
    rintro e w1 ⟨rfl, hB1⟩
    have e1 : Ext W0 w1 := ext_trans e0 hB1
    go_wp2_with fail
    refine (errand_x A n wc S pn pc wrong H hn hc T sn sc start calls women pieces home streets _ (KE.out.ext (ext_trans hW0 e1)) HMK.out).mono ?_
    rintro e w2 ⟨A2, wc2, S2, pc2, H2, hc2, T2, sc2, rfl, hE2, hB2⟩
    have e2 := ext_trans e1 hB2
    have HE2 := hid hE2
    clear hE2
    go_wp2_with fail
    refine (fewest_c A2 n wc2 S2 pn pc2 wrong H2 hn hc2 T2 sn sc2 start calls women pieces home streets _ HE2.out).mono ?_
    rintro e w3 ⟨rfl, hB3⟩
    rw [HERR.out, HFW.out]
    have e3 := ext_trans e2 hB3
    go_wp2_with fail
    refine (table_c A n wc women S pn pc pieces wrong _ (KE.out.ext (ext_trans hW0 e3)).W KE.out.wl (KE.out.ext (ext_trans hW0 e3)).P KE.out.pl KE.out.n3 KE.out.p3 HMK.out).mono ?_
    rintro e w4 ⟨A4, wc4, S4, pc4, rfl, hW4, hP4, hB4⟩
    have e4 := ext_trans e3 hB4
    have HW4 := hid hW4
    have HP4 := hid hP4
    clear hW4 hP4
    go_wp2_with fail
    refine (moves_yes A4 n wc4 women S4 pn pc4 pieces wrong _ HW4.out KE.out.wl HP4.out KE.out.pl KE.out.n3 KE.out.p3 HAE.out).mono ?_
    rintro e w5 ⟨MV, mvc, rfl, hmv, hB5⟩
    rw [HMV.out, HMN.out] at hmv
    rw [HMV.out, HMN.out]
    have e5 := ext_trans e4 hB5
    have HMO := hid hmv
    clear hmv
    go_wp2_with fail
    refine (errand_x A n wc S pn pc wrong H hn hc T sn sc start calls women pieces home streets _ (KE.out.ext (ext_trans hW0 e5)) HMK.out).mono ?_
    rintro e w6 ⟨A6, wc6, S6, pc6, H6, hc6, T6, sc6, rfl, hE6, hB6⟩
    have e6 := ext_trans e5 hB6
    have HE6 := hid hE6
    clear hE6
    go_wp2_with fail
    refine (best_x A6 n wc6 S6 pn pc6 wrong H6 hn hc6 T6 sn sc6 start calls women pieces home streets _ HE6.out).mono ?_
    rintro e w7 ⟨bv, rfl, hbv, hB7⟩
    rw [HBL.out] at hbv
    obtain ⟨BV, bvc, rfl⟩ := hbv.val
    rw [HBN.out] at hbv
    rw [HBN.out, HBE.out, HBC.out]
    have e7 := ext_trans e6 hB7
    replace HMO := hid (HMO.out.ext (ext_trans hB6 hB7))
    go_wp2_with fail
    refine (awake_c _).mono ?_
    rintro e wa ⟨rfl, hBa⟩
    go_wp2
    go_ret
    exact ⟨rfl, ext_trans hW0 (ext_trans e7 hBa)⟩
  have hm1 : ((mn : Int) == 0) = false := by rw [beq_eq_false_iff_ne]; omega
  have hmb : ∀ i, i < moves.length → (0 ≤ mSr moves i ∧ mSr moves i < n) ∧ (0 ≤ mDs moves i ∧ mDs moves i < n) ∧ mSr moves i ≠ mDs moves i := fun i hi => by
    rw [← hmv] at hi ⊢
    rw [← hnl]
    exact movesF_bd hz.1 hi
  have hinj : PInj moves := by rw [← hmv]; exact movesF_inj _ _ _
  obtain ⟨dn, hdn⟩ : ∃ x, (namesK moves mn).length = x := ⟨_, rfl⟩
  have HDN := hid hdn
  have hlo : (dn : Int) ≤ fw := by
    have h1 := names_lower hinj hmb hn4
    rw [← hfw, fewestN, if_pos he, hnl, hmv]
    rw [hmn, hdn] at h1
    omega
  have hup : fw < 2 * (dn : Int) := by
    have h1 := names_upper hinj hmb hn4 (by omega)
    rw [← hfw, fewestN, if_pos he, hnl, hmv]
    rw [hmn, hdn] at h1
    omega
  have hdn4 : dn ≤ 4 := by
    have h1 := names_le hmb
    rw [hmn, hdn] at h1
    omega
  have hw2 : IntKind.i64.wrap (2 * (dn : Int)) = 2 * (dn : Int) := IntWalk.i64_in _ (by omega)
  clear hsh hsh2 hat hmk he hz hnl hbc hbl hbn hbe hfw hmv hmn hm0 hmb hinj hdn
  obtain ⟨W0, hWd⟩ : ∃ W0, w.alloc (.cells #[.slice A n wc, .slice S pn pc, .int .i64 wrong, .slice H hn hc, .slice T sn sc, .int .i64 start, .int .i64 calls] 28) = W0 := ⟨_, rfl⟩
  have hW0 : Ext w W0 := by rw [← hWd]; go_grown
  have b1 : W0.heap[w.heap.size]? = some (.cells #[.slice A n wc, .slice S pn pc, .int .i64 wrong, .slice H hn hc, .slice T sn sc, .int .i64 start, .int .i64 calls] 28 (0, 0)) := by rw [← hWd]; exact (by repeat (first | exact heap_alloc_at _ _ (by simp) | refine heap_alloc_keep ?_))
  have f1 := ext_blk b1
  have HW0 := hid hWd
  have e0 : Ext W0 W0 := ext_refl W0
  clear hWd b1
  go_enter Tryz.func12, Tryz.ntmps12
  go_wp2_with fail
  rw [HW0.out]
  go_wp2_with fail
  refine (ready_x A n wc S pn pc wrong H hn hc T sn sc start calls women pieces home streets _ (KI.out.ext (ext_trans hW0 e0)) _ HSH).mono ?_
  rintro e w1 ⟨rfl, hB1⟩
  have e1 : Ext W0 w1 := ext_trans e0 hB1
  go_wp2_with fail
  refine (errand_x A n wc S pn pc wrong H hn hc T sn sc start calls women pieces home streets _ (KE.out.ext (ext_trans hW0 e1)) HMK.out).mono ?_
  rintro e w2 ⟨A2, wc2, S2, pc2, H2, hc2, T2, sc2, rfl, hE2, hB2⟩
  have e2 := ext_trans e1 hB2
  have HE2 := hid hE2
  clear hE2
  go_wp2_with fail
  refine (fewest_c A2 n wc2 S2 pn pc2 wrong H2 hn hc2 T2 sn sc2 start calls women pieces home streets _ HE2.out).mono ?_
  rintro e w3 ⟨rfl, hB3⟩
  rw [HERR.out, HFW.out]
  have e3 := ext_trans e2 hB3
  go_wp2_with fail
  refine (table_c A n wc women S pn pc pieces wrong _ (KE.out.ext (ext_trans hW0 e3)).W KE.out.wl (KE.out.ext (ext_trans hW0 e3)).P KE.out.pl KE.out.n3 KE.out.p3 HMK.out).mono ?_
  rintro e w4 ⟨A4, wc4, S4, pc4, rfl, hW4, hP4, hB4⟩
  have e4 := ext_trans e3 hB4
  have HW4 := hid hW4
  have HP4 := hid hP4
  clear hW4 hP4
  go_wp2_with fail
  refine (moves_yes A4 n wc4 women S4 pn pc4 pieces wrong _ HW4.out KE.out.wl HP4.out KE.out.pl KE.out.n3 KE.out.p3 HAE.out).mono ?_
  rintro e w5 ⟨MV, mvc, rfl, hmv, hB5⟩
  rw [HMV.out, HMN.out] at hmv
  rw [HMV.out, HMN.out]
  have e5 := ext_trans e4 hB5
  have HMO := hid hmv
  clear hmv
  go_wp2_with fail
  refine (errand_x A n wc S pn pc wrong H hn hc T sn sc start calls women pieces home streets _ (KE.out.ext (ext_trans hW0 e5)) HMK.out).mono ?_
  rintro e w6 ⟨A6, wc6, S6, pc6, H6, hc6, T6, sc6, rfl, hE6, hB6⟩
  have e6 := ext_trans e5 hB6
  have HE6 := hid hE6
  clear hE6
  go_wp2_with fail
  refine (best_x A6 n wc6 S6 pn pc6 wrong H6 hn hc6 T6 sn sc6 start calls women pieces home streets _ HE6.out).mono ?_
  rintro e w7 ⟨bv, rfl, hbv, hB7⟩
  rw [HBL.out] at hbv
  obtain ⟨BV, bvc, rfl⟩ := hbv.val
  rw [HBN.out] at hbv
  rw [HBN.out, HBE.out, HBC.out]
  have e7 := ext_trans e6 hB7
  replace HMO := hid (HMO.out.ext (ext_trans hB6 hB7))
  clear hbv
  have HE7 := hid e7
  have E7 := hid (ext_trans hW0 e7)
  clear hB1 hB2 hB3 hB4 hB5 hB6 hB7 e1 e2 e3 e4 e5 e6 e7 f1
  go_wp2_with fail
  go_loopw [10, 11] (fun out i wr => ∃ k : Nat, k ≤ mn ∧ i = .int .i64 k ∧ wr.ownsRow w7.heap.size 3 1 out (namesK moves k).length ((namesK moves k).map (Value.int .i64)) ∧ Ext w7 wr) (fun _ i _ => mn - (intOf i).toNat)
  case atStart => exact ⟨0, Nat.zero_le _, rfl, own_nil _ _ _ _, ext_refl _⟩
  case round =>
    obtain ⟨k, hk, rfl, hown, hE⟩ := hrel
    have hlenk := namesK_len moves k
    have hi := own_ints hown (by omega)
    obtain ⟨OA, oc, rfl⟩ := hi.val
    by_cases hlt : k < mn
    · have hNK : namesK moves (k + 1) = addN (addN (namesK moves k) (mSr moves k)) (mDs moves k) := rfl
      obtain ⟨D, hD⟩ : ∃ x, namesK moves k = x := ⟨_, rfl⟩
      rw [hD] at hown hi hlenk hNK ⊢
      obtain ⟨ln, hln⟩ : ∃ x, D.length = x := ⟨_, rfl⟩
      have HLN := hid hln
      rw [hln] at hown hi hlenk ⊢
      have HO := hid hown
      have HI := hid hi
      obtain ⟨b, o, hV, hcell⟩ := HMO.out.at (by omega)
      subst hV
      obtain ⟨g1, g2, g3⟩ := hcell k hlt
      obtain ⟨sr, hsr⟩ : ∃ x, mSr moves k = x := ⟨_, rfl⟩
      obtain ⟨ds, hds⟩ : ∃ x, mDs moves k = x := ⟨_, rfl⟩
      rw [hsr] at g2 hNK
      rw [hds] at g3 hNK
      have HNK := hid hNK
      have H3 := hid g3
      replace g2 := cell_ext hE g2
      replace g3 := cell_ext hE g3
      have hi0 : (0 : Int) ≤ (k : Int) := by omega
      have hi1 : (k : Int) < (mn : Int) := by omega
      have hsz : w7.heap.size ≤ wr.heap.size := hE.size
      obtain ⟨x, hx⟩ : ∃ x, hasF D sr = x := ⟨_, rfl⟩
      have HX := hid hx
      clear hcell hown hi hNK hD hln hsr hds hx g1
      cases x
      · have HD1 : Hid (addN D sr = D ++ [sr]) := hid (by rw [addN, HX.out]; rfl)
        obtain ⟨z, hz⟩ : ∃ x, hasF (D ++ [sr]) ds = x := ⟨_, rfl⟩
        have HZ := hid hz
        clear hz
        go_wp2_with fail
        refine (hasR_b _ D sr false HX _ HI.out).mono ?_
        rintro e wt ⟨rfl, rfl⟩
        go_wp2_with (at_builtin; refine app_intH rfl _ _ 29 3 rfl Tryz.underlying29 info_int w7.heap.size _ ln D sr _ rfl rfl rfl (by exact HO.out) hsz (by omega) ?_; intro g2 cap2 x2 hown2 hB2 hg2 hlt2 hbg2; have g5 := cell_ext (hE.trans hB2) H3.out)
        have hE2 : Ext w7 x2 := hE.trans hB2
        have hI2 := own_ints hown2 (by rw [List.length_append, HLN.out]; simp; omega)
        cases z
        · have HD2 : Hid (namesK moves (k + 1) = D ++ [sr] ++ [ds]) := hid (by rw [HNK.out, HD1.out, addN, HZ.out]; rfl)
          refine (hasR_b _ (D ++ [sr]) ds false HZ _ hI2).mono ?_
          rintro e wt ⟨rfl, rfl⟩
          go_wp2_with (at_builtin; refine app_intH rfl _ _ 29 3 rfl Tryz.underlying29 info_int w7.heap.size _ (ln + 1) (D ++ [sr]) ds _ rfl rfl rfl (by exact hown2) hE2.size (by omega) ?_; intro g4 cap4 x4 hown4 hB4 hg4 hlt4 hbg4; have g5 := cell_ext (hE2.trans hB4) H3.out)
          go_roundw
          case rel => exact ⟨k + 1, hlt, by go_num, by rw [HD2.out]; simpa [HLN.out] using hown4, hE2.trans hB4⟩
          case measure => simp [intOf]; omega
        · have HD2 : Hid (namesK moves (k + 1) = D ++ [sr]) := hid (by rw [HNK.out, HD1.out, addN, HZ.out]; rfl)
          refine (hasR_b _ (D ++ [sr]) ds true HZ _ hI2).mono ?_
          rintro e wt ⟨rfl, rfl⟩
          go_wp2
          go_roundw
          case rel => exact ⟨k + 1, hlt, by go_num, by rw [HD2.out]; simpa [HLN.out] using hown2, hE2⟩
          case measure => simp [intOf]; omega
      · have HD1 : Hid (addN D sr = D) := hid (by rw [addN, HX.out]; rfl)
        obtain ⟨z, hz⟩ : ∃ x, hasF D ds = x := ⟨_, rfl⟩
        have HZ := hid hz
        clear hz
        go_wp2_with fail
        refine (hasR_b _ D sr true HX _ HI.out).mono ?_
        rintro e wt ⟨rfl, rfl⟩
        go_wp2_with fail
        cases z
        · have HD2 : Hid (namesK moves (k + 1) = D ++ [ds]) := hid (by rw [HNK.out, HD1.out, addN, HZ.out]; rfl)
          refine (hasR_b _ D ds false HZ _ HI.out).mono ?_
          rintro e wt ⟨rfl, rfl⟩
          go_wp2_with (at_builtin; refine app_intH rfl _ _ 29 3 rfl Tryz.underlying29 info_int w7.heap.size _ ln D ds _ rfl rfl rfl (by exact HO.out) hsz (by omega) ?_; intro g4 cap4 x4 hown4 hB4 hg4 hlt4 hbg4; have g5 := cell_ext (hE.trans hB4) H3.out)
          go_roundw
          case rel => exact ⟨k + 1, hlt, by go_num, by rw [HD2.out]; simpa [HLN.out] using hown4, hE.trans hB4⟩
          case measure => simp [intOf]; omega
        · have HD2 : Hid (namesK moves (k + 1) = D) := hid (by rw [HNK.out, HD1.out, addN, HZ.out]; rfl)
          refine (hasR_b _ D ds true HZ _ HI.out).mono ?_
          rintro e wt ⟨rfl, rfl⟩
          go_wp2
          go_roundw
          case rel => exact ⟨k + 1, hlt, by go_num, by rw [HD2.out, HLN.out]; exact HO.out, hE⟩
          case measure => simp [intOf]; omega
    · obtain rfl : mn = k := by omega
      rw [HDN.out]
      have hge : (fw : Int) ≥ (dn : Int) := hlo
      go_wp2_with fail
      refine (awake_c _).mono ?_
      rintro e wa ⟨rfl, hBa⟩
      go_wp2
      go_ret
      exact ⟨rfl, ext_trans E7.out (ext_trans hE hBa)⟩
end
end Go.Proofs.YtlcakmbejjlmeaaGreat
/- The statement ErrandCalls, for every input: the row over its walk. -/
set_option linter.unusedVariables false
namespace Go.Proofs.YtlcakmbejjlmeaaGreat.ErrandCallsRow
open Go.ChangeShapes Go.WideShapes Go.ChangeAt Go.RowKit
theorem own : ownKnob Tryz.prog.godebug = none := by kernel_rfl
theorem laidOut : laidOutB Tryz.prog = true := by kernel_rfl
set_option maxRecDepth 100000 in
theorem lifted (os : Os) (started : os.Started) (H : Type) (enc : TypeId × Value → H) :
    ReturnsInHanded {} Tryz.checked os 12 .any (Rows.errandCallsSpec.pre6 enc Tryz.prog Tryz.f12 Rows.errandCallsRow.domain false) (Rows.errandCallsSpec.post enc Tryz.prog Tryz.f12 false true false false) := by
  refine returnsInHanded_of_change_sized (C := Tryz.checked) own started (by kernel_rfl) Tryz.func12
    (ChangeSpec.witness6 (enc := enc) (C := Tryz.checked) false ⟨#[], #[.agg #[.slice none 0 0, .slice none 0 0, .int .i64 0, .slice none 0 0, .slice none 0 0, .int .i64 0, .int .i64 0]], []⟩ 8 (by kernel_rfl) (by kernel_rfl) (by kernel_rfl) (by kernel_rfl)) ?_
  intro W base args ds gs before hval0 hW hcnd hsz0 _
  have hsz : (DataW.weightsEach Tryz.prog (Tryz.f12.params.toList ++ Rows.errandCallsSpec.plain.varTypes Tryz.prog) (ds ++ gs)).all (· ≤ reachBytes) = true := hsz0
  have hval : ∀ (j : Nat) t v, Tryz.f12.params[j]? = some t → args[j]? = some v → Value.okWide Tryz.prog W .any base t v := hval0
  have hW' := hW
  obtain ⟨p, q, hA0, hV, rfl, hfz, hnd⟩ := hW
  have hA : DataW.TrodAll enc Tryz.prog W 0 (fun _ => true) true Tryz.f12.params.toList args.toList ds p := hA0
  rw [Tryz.params12] at hA hval hsz
  obtain ⟨v0, vs0, d0, ds0, p0, q0, hargs, rfl, rfl, h0, r0⟩ := trodAll_cons hA
  obtain ⟨rfl, rfl, rfl⟩ := trodAll_nil r0
  obtain rfl : args = #[v0] := by cases args; simp_all
  obtain ⟨rfl, rfl⟩ := trodVars_none hV
  have k0 := h0
  have lt0 : ∀ x ∈ p0, x.block < W.heap.size := by obtain ⟨m, hm⟩ := k0; exact DataW.trod_lt m _ _ _ hm
  have wk0 : WOk Tryz.prog 28 d0 := fun n hn => by
    have h := List.all_eq_true.1 hsz _ (DataW.weights_mem_each (j := 0) rfl rfl n hn)
    simpa using h
  obtain ⟨A0, n0, wc0, S0, pn0, pc0, wrong0, T0, hn0, hc0, U0, sn0, sc0, start0, calls0, women0, pieces0, home0, streets0, rfl, hW0, hwl0, hP0, hpl0, hH0, hhl0, hS0, hsl0, ws0, wcl0, wwr0⟩ := open_errW (hval 0 28 v0 rfl rfl) h0 wk0
  clear hA0 hval0 hsz0 hsz
  refine (calls_w A0 n0 wc0 S0 pn0 pc0 wrong0 T0 hn0 hc0 U0 sn0 sc0 start0 calls0 women0 pieces0 home0 streets0 W ⟨hW0, hwl0, hP0, hpl0, hH0, hhl0, hS0, hsl0⟩).mono fun e W' ⟨he, bel⟩ => ?_
  subst he
  exact ⟨_, rfl, _, _, _, [], _, [], hW', trodAll_mk1 (shut_bool Tryz.underlying4 _), (trodAll_cons_mk (Below.trod laidOut (by kernel_rfl) (of_decide_eq_true (by kernel_rfl)) k0 bel lt0) trodAll_mk0), rfl, bel.frame _, fun h => by cases h⟩
theorem over : Rows.errandCallsRow.holds Tryz.pinned (OpenSpec.ofChange Rows.errandCallsSpec) :=
  OpenClaim.holds_of_wide 12 Tryz.f12 rfl rfl rfl rfl rfl rfl rfl ⟨rfl, rfl, rfl, rfl, rfl⟩ rfl rfl rfl rfl rfl (by kernel_rfl) Tryz.func12 (by kernel_rfl)
    (of_decide_eq_true (by kernel_rfl)) (by unfold Func.isWrapper; rw [if_neg (of_decide_eq_false (by kernel_rfl))]; exact ⟨rfl, rfl⟩)
    (fun os started H enc _ => lifted os started H enc)
end Go.Proofs.YtlcakmbejjlmeaaGreat.ErrandCallsRow
namespace Go.Proofs.YtlcakmbejjlmeaaGreat
/-- ErrandCalls, for every input. -/
theorem errandCalls_holds : Rows.ErrandCallsSaid := ErrandCallsRow.over
#print axioms errandCalls_holds
end Go.Proofs.YtlcakmbejjlmeaaGreat
