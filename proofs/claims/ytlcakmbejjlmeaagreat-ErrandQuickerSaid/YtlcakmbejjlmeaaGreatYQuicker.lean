/- The statement ErrandQuicker: its body answers true. -/
import Derived.Test.YtlcakmbejjlmeaaGreatK17
import Derived.Test.YtlcakmbejjlmeaaGreatK13
import Derived.Test.YtlcakmbejjlmeaaGreatRows
import Derived.WalkKit
import Derived.ProofKit
import Derived.OpenShut
import Derived.ShutString
import Derived.ChangeOld
import Derived.Below
import Derived.SizedLaws
set_option linter.unusedVariables false
set_option linter.unusedSimpArgs false
namespace Go.Proofs.YtlcakmbejjlmeaaGreat
open Go.RowKit
section
variable (A : Option Addr) (n wc : Nat) (S : Option Addr) (pn pc : Nat) (wrong : Int) (H : Option Addr) (hn hc : Nat) (T : Option Addr) (sn sc : Nat) (start calls : Int) (women : List Wom) (pieces : List Pce) (home streets : List Rng)
set_option maxHeartbeats 6400000 in
set_option maxRecDepth 100000 in
theorem quicker_w (w : World) (h : ErrIn w A n wc S pn pc H hn hc T sn sc women pieces home streets) (uv : Value) (us : List Int) (hU : IsU16s w uv us) (b1 : Int) (hw1 : (Lit.int .u16 b1).wf = true) (b2 : Int) (hw2 : (Lit.int .u16 b2).wf = true) (b3 : Int) (hw3 : (Lit.int .u8 b3).wf = true) :
    Calls Tryz.prog 10 #[.agg #[.slice A n wc, .slice S pn pc, .int .i64 wrong, .slice H hn hc, .slice T sn sc, .int .i64 start, .int .i64 calls], uv, .int .u16 b1, .int .u16 b2, .int .u8 b3] w
      fun e w' => e = .returned (.bool true) ∧ Ext w w' := by
  have KI := hid h
  have KU := hid hU
  have hb1 := wf_u16 hw1
  have hb2 := wf_u16 hw2
  have hb3 := wf_u8 hw3
  obtain ⟨N1, rfl⟩ : ∃ z : Nat, b1 = (z : Int) := ⟨b1.toNat, by omega⟩
  obtain ⟨N2, rfl⟩ : ∃ z : Nat, b2 = (z : Int) := ⟨b2.toNat, by omega⟩
  obtain ⟨N3, rfl⟩ : ∃ z : Nat, b3 = (z : Int) := ⟨b3.toNat, by omega⟩
  obtain ⟨U, uc, rfl⟩ := hU.val
  obtain ⟨un, hun⟩ : ∃ x, us.length = x := ⟨_, rfl⟩
  rw [hun] at KU ⊢
  have hnb : n ≤ 140737488355328 := by have := h.W.1; rw [h.wl] at this; exact this
  obtain ⟨walk, hwalk⟩ : ∃ x, walkW n us = x := ⟨_, rfl⟩
  obtain ⟨wn, hwn⟩ : ∃ x, walk.length = x := ⟨_, rfl⟩
  have HWALK := hid hwalk
  have HWN := hid hwn
  have hok6 := walkW_ok n us
  rw [hwalk] at hok6
  have hw6 : wn ≤ 6 := by rw [← hwn]; exact hok6.len
  have HOK := hid hok6.ok
  obtain ⟨sh, hsh⟩ : ∃ x, readyF women pieces wrong home streets start calls = x := ⟨_, rfl⟩
  have HSH := hid hsh
  clear h hU hun hwalk hwn hok6 hw1 hw2 hw3
  cases sh
  · clear hsh
    obtain ⟨W0, hWd⟩ : ∃ W0, w.alloc (.cells #[.slice A n wc, .slice S pn pc, .int .i64 wrong, .slice H hn hc, .slice T sn sc, .int .i64 start, .int .i64 calls] 28) = W0 := ⟨_, rfl⟩
    have hW0 : Ext w W0 := by rw [← hWd]; go_grown
    have b1 : W0.heap[w.heap.size]? = some (.cells #[.slice A n wc, .slice S pn pc, .int .i64 wrong, .slice H hn hc, .slice T sn sc, .int .i64 start, .int .i64 calls] 28 (0, 0)) := by rw [← hWd]; exact (by repeat (first | exact heap_alloc_at _ _ (by simp) | refine heap_alloc_keep ?_))
    have f1 := ext_blk b1
    have HW0 := hid hWd
    have e0 : Ext W0 W0 := ext_refl W0
    clear hWd b1
    go_enter Tryz.func10, Tryz.ntmps10
    go_wp2_with fail
    rw [HW0.out]
    go_wp2_with fail
    refine (ready_x A n wc S pn pc wrong H hn hc T sn sc start calls women pieces home streets _ (KI.out.ext (ext_trans hW0 e0)) _ HSH).mono ?_
    rintro e w1 ⟨rfl, hB1⟩
    have e1 : Ext W0 w1 := ext_trans e0 hB1
    go_wp2_with fail
    refine (awake_c _).mono ?_
    rintro e wa ⟨rfl, hBa⟩
    go_wp2
    go_ret
    exact ⟨rfl, ext_trans hW0 (ext_trans e1 hBa)⟩
  have hsh2 := hsh
  rw [readyF, Bool.and_eq_true, decide_eq_true_eq] at hsh2
  obtain ⟨hat, hn30, hmk⟩ := KI.out.at (thinF_short hsh2.1)
  have KE := hid hat
  have HMK := hid hmk
  have he := hsh2.2
  obtain ⟨hnn, hok⟩ := errOk_of KE.out he
  have hz := errE_zero he
  have hnn' : n = hn := hnn.symm
  subst hnn'
  have hnl : women.length = n := hat.wl
  have htl : streets.length = sn := hat.tl
  have HTL := hid htl
  have KO := hid hok
  have hwo : WalkOk women.length walk := by rw [hnl]; exact HOK.out
  obtain ⟨dq, hdq⟩ : ∃ q, N3 % 9 = q := ⟨_, rfl⟩
  have hdq9 : dq < 9 := by omega
  have hdm : (N3 : Int).tmod 9 = (dq : Int) := by rw [← hdq]; rfl
  have hst0 : 0 ≤ start := KO.out.a0
  have hst1 : start ≤ 1439 := KO.out.a1
  have hsw : IntKind.i64.wrap (start - (dq : Int)) = start - (dq : Int) := IntWalk.i64_in _ (by omega)
  obtain ⟨st, hst⟩ : ∃ x, max 0 (start - (dq : Int)) = x := ⟨_, rfl⟩
  have hst2 : 0 ≤ st ∧ st ≤ start := by omega
  have HST := hid hst
  have he2 := errE_start he (st := st) (by omega) (by omega)
  have hbt := hz.2.2.2.2.2.2.2.2.2
  have HP0 : Hid (playC women pieces wrong home streets start calls (chL streets N1) walk = 0) := hid (by rw [playC, he, (isWalkF_iff _ _).2 hwo, chL_truth hbt]; rfl)
  have HP1 : Hid (playC women pieces wrong home streets st calls (qkL streets N1 N2) walk = 0) := hid (by rw [playC, he2, (isWalkF_iff _ _).2 hwo, qkL_truth hbt]; rfl)
  obtain ⟨R0, hR0⟩ : ∃ x, playL women pieces wrong home streets start calls (chL streets N1) walk = x := ⟨_, rfl⟩
  obtain ⟨R1, hR1⟩ : ∃ x, playL women pieces wrong home streets st calls (qkL streets N1 N2) walk = x := ⟨_, rfl⟩
  have HR0 := hid hR0
  have HR1 := hid hR1
  have hR0' : R0 = callsL n (rLo home) (rngM (at0 (chL streets N1)) (chL streets N1).length) start walk := by rw [← hR0, playL, if_pos HP0.out, hnl]
  have hR1' : R1 = callsL n (rLo home) (rngM (at0 (qkL streets N1 N2)) (qkL streets N1 N2).length) st walk := by rw [← hR1, playL, if_pos HP1.out, hnl]
  have HR0N : Hid (R0.length = wn) := hid (by rw [hR0', callsL_len, HWN.out])
  have HR1N : Hid (R1.length = wn) := hid (by rw [hR1', callsL_len, HWN.out])
  have HLE : Hid (∀ k, k < wn → at0 R1 k ≤ at0 R0 k) := hid (fun k hk => by
    rw [hR0', hR1', callsL_at _ _ _ _ _ (by rw [HWN.out]; exact hk), callsL_at _ _ _ _ _ (by rw [HWN.out]; exact hk)]
    exact minAt_mono2 _ _ _ _ _ _ _ (qkL_le streets N1 N2) hst2.2 _)
  have hs10 : sn ≤ 10 := KO.out.s10
  have HSB : Hid (∀ k, k < sn → 0 ≤ rLo streets k ∧ rLo streets k ≤ rHi streets k ∧ rHi streets k ≤ 60) := hid KO.out.st
  have HDM := hid hdm
  have HSW := hid hsw
  clear hsh hsh2 hat hmk he hnn hok hz hnl htl hwo he2 hbt hR0 hR1 hR0' hR1' hdq hst hdm hsw
  obtain ⟨W0, hWd⟩ : ∃ W0, w.alloc (.cells #[.slice A n wc, .slice S pn pc, .int .i64 wrong, .slice H n hc, .slice T sn sc, .int .i64 start, .int .i64 calls] 28) = W0 := ⟨_, rfl⟩
  have hW0 : Ext w W0 := by rw [← hWd]; go_grown
  have b1 : W0.heap[w.heap.size]? = some (.cells #[.slice A n wc, .slice S pn pc, .int .i64 wrong, .slice H n hc, .slice T sn sc, .int .i64 start, .int .i64 calls] 28 (0, 0)) := by rw [← hWd]; exact (by repeat (first | exact heap_alloc_at _ _ (by simp) | refine heap_alloc_keep ?_))
  have f1 := ext_blk b1
  have HW0 := hid hWd
  have e0 : Ext W0 W0 := ext_refl W0
  clear hWd b1
  go_enter Tryz.func10, Tryz.ntmps10
  go_wp2_with fail
  rw [HW0.out]
  go_wp2_with fail
  refine (ready_x A n wc S pn pc wrong H n hc T sn sc start calls women pieces home streets _ (KI.out.ext (ext_trans hW0 e0)) _ HSH).mono ?_
  rintro e w1 ⟨rfl, hB1⟩
  have e1 : Ext W0 w1 := ext_trans e0 hB1
  go_wp2_with fail
  refine (walkedW_c A n wc (.slice S pn pc) wrong (.slice H n hc) (.slice T sn sc) start calls hnb _ us _ (KU.out.ext (ext_trans hW0 e1))).mono ?_
  rintro e w2 ⟨V, vc, rfl, hI, hB2, hcap⟩
  rw [HWALK.out, HWN.out] at hI
  rw [HWALK.out, HWN.out] at hcap
  rw [HWALK.out, HWN.out]
  have e2 : Ext W0 w2 := ext_trans e1 hB2
  have HI := hid hI
  clear hI
  have E2 := hid (ext_trans hW0 e2)
  have f2 : ∀ W, Ext w2 W → ∀ j, W.cell? ⟨w.heap.size, j, none⟩ = (#[.slice A n wc, .slice S pn pc, .int .i64 wrong, .slice H n hc, .slice T sn sc, .int .i64 start, .int .i64 calls] : Array Value)[j]? := fun W h => f1 W (ext_trans e2 h)
  go_wp2_with fail
  refine wp_cutR (fun a0 a' w' => ∃ x0 x1 x2 x3 x4 x5 Ba Bb, a' = { tmps := (((((((((a0.tmps.setIfInBounds 28 x0).setIfInBounds 29 x1).setIfInBounds 30 x2).setIfInBounds 31 (.slice (some ⟨Ba, 0, none⟩) sn sn)).setIfInBounds 32 x3).setIfInBounds 33 x4).setIfInBounds 34 x5).setIfInBounds 35 (.slice (some ⟨Bb, 0, none⟩) sn sn)).setIfInBounds 12 (.slice (some ⟨Ba, 0, none⟩) sn sn)).setIfInBounds 13 (.slice (some ⟨Bb, 0, none⟩) sn sn), defers := a0.defers } ∧ w2.heap.size ≤ Ba ∧ w2.heap.size ≤ Bb ∧ Ba ≠ Bb ∧ w'.heap[Ba]? = some (.cells (rowArr (chV streets N1) sn) 3 (0, 0)) ∧ w'.heap[Bb]? = some (.cells (rowArr (chV streets N2) sn) 3 (0, 0)) ∧ Ext w2 w') ?_ ?_
  · have e0 := ext_refl w2
    have hwu1 : IntKind.i64.wrap (N1 : Int) = (N1 : Int) := IntWalk.i64_in _ (by omega)
    have hwu2 : IntKind.i64.wrap (N2 : Int) = (N2 : Int) := IntWalk.i64_in _ (by omega)
    go_region_held3 (fun W => Ext w2 W)
      (first | exact Below.drew (by assumption) | assumption | exact ext_trans (by assumption) (by assumption))
      (first
        | (go_at_call 48; (with_reducible refine (chosen_c A n wc _ wrong _ T sn sc start calls streets _ (KO.out.rs.ext (ext_trans E2.out (by first | assumption | exact Below.drew (by assumption)))) HTL.out hs10 HSB.out N1 (by omega)).mono ?_); rintro e wa ⟨Ba, rfl, hBa, hba, hEa⟩)
        | (go_at_call 48; (with_reducible refine (chosen_c A n wc _ wrong _ T sn sc start calls streets _ (KO.out.rs.ext (ext_trans E2.out (by first | assumption | exact Below.drew (by assumption)))) HTL.out hs10 HSB.out N2 (by omega)).mono ?_); rintro e wb ⟨Bb, rfl, hBb, hbb, hEb⟩))
    all_goals
      have hd := ((ext_refl w2).drew).size
      have l1 : Ba < wa.heap.size := (Array.getElem?_eq_some_iff.1 hba).1
      have l2 : Bb < wb.heap.size := (Array.getElem?_eq_some_iff.1 hbb).1
      first
        | exact ⟨rfl, .agg #[.slice A n wc, .slice S pn pc, .int .i64 wrong, .slice H n hc, .slice T sn sc, .int .i64 start, .int .i64 calls], .int .u16 (N1 : Int), .int .i64 (N1 : Int), .agg #[.slice A n wc, .slice S pn pc, .int .i64 wrong, .slice H n hc, .slice T sn sc, .int .i64 start, .int .i64 calls], .int .u16 (N2 : Int), .int .i64 (N2 : Int), Ba, Bb, by kernel_rfl, by omega, by omega, by omega, ext_blk_keep hEb hba, hbb, by assumption⟩
        | exact ⟨rfl, .agg #[.slice A n wc, .slice S pn pc, .int .i64 wrong, .slice H n hc, .slice T sn sc, .int .i64 start, .int .i64 calls], .int .u16 (N1 : Int), .int .i64 (N1 : Int), .agg #[.slice A n wc, .slice S pn pc, .int .i64 wrong, .slice H n hc, .slice T sn sc, .int .i64 start, .int .i64 calls], .int .u16 (N2 : Int), .int .i64 (N2 : Int), Ba, Bb, by kernel_rfl, by omega, by omega, by omega, hba, ext_blk_keep hEa hbb, by assumption⟩
  rintro a' w3 ⟨x0, x1, x2, x3, x4, x5, Ba, Bb, rfl, hBa, hBb, hne, hba, hbb, hB3⟩
  simp only [List.setIfInBounds_toArray, List.set_cons_zero, List.set_cons_succ]
  have e3 := ext_trans e2 hB3
  have HBA := hid hba
  have HBB := hid hbb
  have hBw : w.heap.size ≤ Bb := by have := E2.out.size; omega
  have hbw : w.heap.size < Bb := by
    have h1 := (cell_lt (f2 w2 (ext_refl _) 0))
    omega
  have lba : Ba < w3.heap.size := (Array.getElem?_eq_some_iff.1 hba).1
  have E3 := hid (ext_trans hW0 e3)
  have f3 := f1 w3 e3
  clear f2 hba hbb
  go_wp2_with fail
  go_loopw [14] (fun i wr => ∃ k : Nat, k ≤ sn ∧ i = .int .i64 k ∧ Kept (fun b => b = Bb) w3 wr ∧ wr.heap[Bb]? = some (.cells (rowArr (fun i => if i < k then qkV streets N1 N2 i else chV streets N2 i) sn) 3 (0, 0))) (fun i _ => sn - (intOf i).toNat)
  case atStart => exact ⟨0, Nat.zero_le _, rfl, Kept.refl _ _, by simpa using HBB.out⟩
  case round =>
    obtain ⟨k, hk, rfl, hK, hb⟩ := hrel
    have HB := hid hb
    have HK := hid hK
    clear hb hK
    by_cases hlt : k < sn
    · have ga : wr.cell? ⟨Ba, k, none⟩ = some (.int .i64 (chV streets N1 k)) := by
        rw [World.cell?_of_block (w := w3) (HK.out.blk Ba lba hne), blk_cell HBA.out, rowArr_at _ hlt]
      have gb : wr.cell? ⟨Bb, k, none⟩ = some (.int .i64 (chV streets N2 k)) := by
        rw [blk_cell HB.out, rowArr_at _ hlt, if_neg (by omega)]
      obtain ⟨va, hva⟩ : ∃ x, chV streets N1 k = x := ⟨_, rfl⟩
      obtain ⟨vb, hvb⟩ : ∃ x, chV streets N2 k = x := ⟨_, rfl⟩
      rw [hva] at ga
      rw [hvb] at gb
      have HQ : Hid (qkV streets N1 N2 k = min va vb) := hid (by rw [qkV, hva, hvb])
      have hi0 : (0 : Int) ≤ (k : Int) := by omega
      have hi1 : (k : Int) < (sn : Int) := by omega
      clear hva hvb
      have f5 : ∀ W, RowS Bb sn 3 wr W → W.cell? ⟨Ba, k, none⟩ = some (.int .i64 va) := fun W h => by
        rw [World.cell?_of_block (w := wr) (h.1.blk Ba (cell_lt ga) hne)]; exact ga
      go_wp2_with fail
      refine region_plainR (fun W => RowS Bb sn 3 wr W) 13 #[false, false, false, false, false, false, false, false, false, false, false, false, false] (by kernel_rfl) (by kernel_rfl) (by kernel_rfl) (fun R HR => ?_)
      obtain ⟨V0, hV0⟩ : ∃ V0, wr.drew = V0 := ⟨_, rfl⟩
      have s0 : RowS Bb sn 3 wr V0 := by rw [← hV0]; exact RowS.drew ⟨Kept.refl _ _, _, HB.out⟩
      have gb0 : V0.cell? ⟨Bb, k, none⟩ = some (.int .i64 vb) := by rw [← hV0]; exact cell_ext ((ext_refl wr).drew) gb
      have hb0 : V0.heap[Bb]? = some (.cells (rowArr (fun i => if i < k then qkV streets N1 N2 i else chV streets N2 i) sn) 3 (0, 0)) := by rw [← hV0]; exact ext_blk_keep ((ext_refl wr).drew) HB.out
      have hk0 : Kept (fun b => b = Bb) w3 V0 := by rw [← hV0]; exact HK.out.ext ((ext_refl wr).drew)
      have fz0 : V0.frozen? ⟨Bb, k, none⟩ = false := frozen_of_row V0 _ k _ _ hb0
      rw [hV0]
      clear hV0 ga gb
      refine takeR (i := 0) (oi := ?_) (v := ?_) ?_ (by kernel_rfl) (by kernel_rfl) (by kernel_rfl) ?_ ?_ (by assumption) ?_
      rotate_left 2
      · simp only [List.getElem?_toArray, List.getElem?_cons_succ, List.getElem?_cons_zero]; rfl
      · kernel_rfl
      · intro Wx hSx
        try dsimp only at hSx
        go_simp
        try with_reducible rfl
      simp only [Act.put, List.setIfInBounds_toArray, List.set_cons_zero, List.set_cons_succ]
      refine takeR (i := 1) (oi := ?_) (v := ?_) ?_ (by kernel_rfl) (by kernel_rfl) (by kernel_rfl) ?_ ?_ (by assumption) ?_
      rotate_left 2
      · simp only [List.getElem?_toArray, List.getElem?_cons_succ, List.getElem?_cons_zero]; rfl
      · kernel_rfl
      · intro Wx hSx
        try dsimp only at hSx
        go_simp
        try with_reducible rfl
      simp only [Act.put, List.setIfInBounds_toArray, List.set_cons_zero, List.set_cons_succ]
      refine takeR (i := 2) (oi := ?_) (v := ?_) ?_ (by kernel_rfl) (by kernel_rfl) (by kernel_rfl) ?_ ?_ (by assumption) ?_
      rotate_left 2
      · simp only [List.getElem?_toArray, List.getElem?_cons_succ, List.getElem?_cons_zero]; rfl
      · kernel_rfl
      · intro Wx hSx
        try dsimp only at hSx
        go_simp
        try with_reducible rfl
      simp only [Act.put, List.setIfInBounds_toArray, List.set_cons_zero, List.set_cons_succ]
      refine takeR (i := 3) (oi := ?_) (v := ?_) ?_ (by kernel_rfl) (by kernel_rfl) (by kernel_rfl) ?_ ?_ (by assumption) ?_
      rotate_left 2
      · simp only [List.getElem?_toArray, List.getElem?_cons_succ, List.getElem?_cons_zero]; rfl
      · kernel_rfl
      · intro Wx hSx
        try dsimp only at hSx
        go_simp
        try with_reducible rfl
      simp only [Act.put, List.setIfInBounds_toArray, List.set_cons_zero, List.set_cons_succ]
      refine takeR (i := 4) (oi := ?_) (v := ?_) ?_ (by kernel_rfl) (by kernel_rfl) (by kernel_rfl) ?_ ?_ (by assumption) ?_
      rotate_left 2
      · simp only [List.getElem?_toArray, List.getElem?_cons_succ, List.getElem?_cons_zero]; rfl
      · kernel_rfl
      · intro Wx hSx
        try dsimp only at hSx
        go_simp
        try with_reducible rfl
      simp only [Act.put, List.setIfInBounds_toArray, List.set_cons_zero, List.set_cons_succ]
      refine takeR (i := 5) (oi := ?_) (v := ?_) ?_ (by kernel_rfl) (by kernel_rfl) (by kernel_rfl) ?_ ?_ (by assumption) ?_
      rotate_left 2
      · simp only [List.getElem?_toArray, List.getElem?_cons_succ, List.getElem?_cons_zero]; rfl
      · kernel_rfl
      · intro Wx hSx
        try dsimp only at hSx
        go_simp
        try with_reducible rfl
      simp only [Act.put, List.setIfInBounds_toArray, List.set_cons_zero, List.set_cons_succ]
      refine takeR (i := 6) (oi := ?_) (v := ?_) ?_ (by kernel_rfl) (by kernel_rfl) (by kernel_rfl) ?_ ?_ (by assumption) ?_
      rotate_left 2
      · simp only [List.getElem?_toArray, List.getElem?_cons_succ, List.getElem?_cons_zero]; rfl
      · kernel_rfl
      · intro Wx hSx
        try dsimp only at hSx
        go_simp
        try with_reducible rfl
      simp only [Act.put, List.setIfInBounds_toArray, List.set_cons_zero, List.set_cons_succ]
      refine takeR (i := 7) (oi := ?_) (v := ?_) ?_ (by kernel_rfl) (by kernel_rfl) (by kernel_rfl) ?_ ?_ (by assumption) ?_
      rotate_left 2
      · simp only [List.getElem?_toArray, List.getElem?_cons_succ, List.getElem?_cons_zero]; rfl
      · kernel_rfl
      · intro Wx hSx
        try dsimp only at hSx
        go_simp
        try with_reducible rfl
      simp only [Act.put, List.setIfInBounds_toArray, List.set_cons_zero, List.set_cons_succ]
      refine takeR (i := 8) (oi := ?_) (v := ?_) ?_ (by kernel_rfl) (by kernel_rfl) (by kernel_rfl) ?_ ?_ (by assumption) ?_
      rotate_left 2
      · simp only [List.getElem?_toArray, List.getElem?_cons_succ, List.getElem?_cons_zero]; rfl
      · kernel_rfl
      · intro Wx hSx
        try dsimp only at hSx
        go_simp
        try with_reducible rfl
      simp only [Act.put, List.setIfInBounds_toArray, List.set_cons_zero, List.set_cons_succ]
      refine wpAnyH_ready (rs := [9]) (by kernel_rfl) (by simp) ?_
      refine AllReadyH.cons (o := ?_) ?_ (fun K hK => ?_) AllReadyH.nil
      rotate_left
      · simp only [List.getElem?_toArray, List.getElem?_cons_succ, List.getElem?_cons_zero]; rfl
      go_simp
      refine hK.out _ _ s0 (fun hHeld => ?_)
      clear hK K
      simp only [Act.put, List.setIfInBounds_toArray, List.set_cons_zero, List.set_cons_succ]
      refine takeR (i := 10) (oi := ?_) (v := ?_) ?_ (by kernel_rfl) (by kernel_rfl) (by kernel_rfl) ?_ ?_ (by assumption) ?_
      rotate_left 2
      · simp only [List.getElem?_toArray, List.getElem?_cons_succ, List.getElem?_cons_zero]; rfl
      · kernel_rfl
      · intro Wx hSx
        try dsimp only at hSx
        go_simp
        try with_reducible rfl
      simp only [Act.put, List.setIfInBounds_toArray, List.set_cons_zero, List.set_cons_succ]
      refine takeR (i := 11) (oi := ?_) (v := ?_) ?_ (by kernel_rfl) (by kernel_rfl) (by kernel_rfl) ?_ ?_ (by assumption) ?_
      rotate_left 2
      · simp only [List.getElem?_toArray, List.getElem?_cons_succ, List.getElem?_cons_zero]; rfl
      · kernel_rfl
      · intro Wx hSx
        try dsimp only at hSx
        go_simp
        try with_reducible rfl
      simp only [Act.put, List.setIfInBounds_toArray, List.set_cons_zero, List.set_cons_succ]
      refine wpAnyH_ready (rs := [12]) (by kernel_rfl) (by simp) ?_
      refine AllReadyH.cons (o := ?_) ?_ (fun K hK => ?_) AllReadyH.nil
      rotate_left
      · simp only [List.getElem?_toArray, List.getElem?_cons_succ, List.getElem?_cons_zero]; rfl
      go_simp
      refine hK.out _ _ (RowS.set s0) (fun hHeld => ?_)
      clear hK K
      simp only [Act.put, List.setIfInBounds_toArray, List.set_cons_zero, List.set_cons_succ]
      refine done_R HR (by kernel_rfl) ?_
      have hmv : (if vb < va then vb else va) = qkV streets N1 N2 k := by rw [HQ.out]; split <;> omega
      rw [hmv]
      have b2' := heap_set_at (j := k) (v := .int .i64 (qkV streets N1 N2 k)) hb0 (rowArr_set _ sn k (qkV streets N1 N2 k) (fun i => if i < k + 1 then qkV streets N1 N2 i else chV streets N2 i) (fun i => by
        by_cases e : i = k
        · subst e; rw [if_pos (by omega), if_pos rfl]
        · rw [if_neg e]
          by_cases h' : i < k
          · rw [if_pos h', if_pos (by omega)]
          · rw [if_neg h', if_neg (by omega)]))
      have B5 := hid b2'
      have HK5 : Hid (Kept (fun b => b = Bb) w3 (V0.setCell ⟨Bb, k, none⟩ (.int .i64 (qkV streets N1 N2 k)))) := hid (hk0.set _ rfl)
      clear b2' hmv f5 s0 gb0 hb0 hk0 fz0
      go_wp2
      go_roundw
      case rel => exact ⟨k + 1, hlt, by go_num, HK5.out, B5.out⟩
      case measure => simp [intOf]; omega
    · have hks : sn = k := by omega
      subst hks
      have hlw : w.heap.size < w3.heap.size := cell_lt (f3 0)
      have cw : ∀ j, wr.cell? ⟨w.heap.size, j, none⟩ = (#[.slice A n wc, .slice S pn pc, .int .i64 wrong, .slice H n hc, .slice T sn sc, .int .i64 start, .int .i64 calls] : Array Value)[j]? := fun j => by
        rw [World.cell?_of_block (w := w3) (HK.out.blk w.heap.size hlw (by omega))]; exact f3 j
      have hsw := HSW.out
      have hdm := HDM.out
      have hlw2 : w.heap.size < wr.heap.size := cell_lt (cw 0)
      have E4 := hid (kept_ext E3.out HK.out hBw)
      have HIW := hid (HI.out.ext (kept_ext hB3 HK.out hBb))
      have HIA : Hid (IsInts wr (.slice (some ⟨Ba, 0, none⟩) sn sn) (chL streets N1)) := hid (by
        have h := ints_row (f := chV streets N1) (n := sn) (B := Ba) (W := wr) (by rw [HK.out.blk Ba lba hne]; exact HBA.out) (by omega)
        rw [chL, HTL.out]; exact h)
      have HIB : Hid (IsInts wr (.slice (some ⟨Bb, 0, none⟩) sn sn) (qkL streets N1 N2)) := hid (by
        have h := ints_row (f := qkV streets N1 N2) (n := sn) (B := Bb) (W := wr) (by
          rw [HB.out]
          congr 2
          unfold rowArr
          congr 1
          apply List.map_congr_left
          intro i hi
          dsimp only
          rw [if_pos (List.mem_range.1 hi)]) (by omega)
        rw [qkL, HTL.out]; exact h)
      have HN1 : Hid ((chL streets N1).length = sn) := hid (by rw [chL_len, HTL.out])
      have HN2 : Hid ((qkL streets N1 N2).length = sn) := hid (by rw [qkL_len, HTL.out])
      have HCW := hid cw
      clear f3 hB1 hB2 hB3 e0 e1 e2 e3 f1
      go_wp2_with fail
      · obtain rfl : st = start - (dq : Int) := by have := HST.out; omega
        obtain ⟨w4, hw4⟩ : ∃ W, wr.alloc (.cells #[.slice A n wc, .slice S pn pc, .int .i64 wrong, .slice H n hc, .slice T sn sc, .int .i64 (start - (dq : Int)), .int .i64 calls] 28) = W := ⟨_, rfl⟩
        rw [hw4]
        have e4 : Ext wr w4 := by rw [← hw4]; exact ext_alloc (ext_refl _) _
        have fq := ext_blk (by rw [← hw4]; exact heap_alloc_new _ _ : w4.heap[wr.heap.size]? = some (.cells #[.slice A n wc, .slice S pn pc, .int .i64 wrong, .slice H n hc, .slice T sn sc, .int .i64 (start - (dq : Int)), .int .i64 calls] 28 (0, 0)))
        have hlt4 : wr.heap.size < w4.heap.size := by rw [← hw4]; simp
        clear hw4 cw hsw hdm
        have e0 := ext_refl w4
        refine (errand_x A n wc S pn pc wrong H n hc T sn sc start calls women pieces home streets _ (KE.out.ext (ext_trans E4.out e4)) HMK.out).mono ?_
        rintro e w5 ⟨A5, wc5, S5, pc5, H5, hc5, T5, sc5, rfl, hE5, hB5⟩
        have e5 : Ext w4 w5 := hB5
        go_wp2_with fail
        refine (list_x (.slice (some ⟨Ba, 0, none⟩) sn sn) (chL streets N1) sn _ (HIA.out.ext (ext_trans e4 e5)) HN1 (by omega)).mono ?_
        rintro e w6 ⟨V6, vc6, rfl, hI6, hB6⟩
        have e6 := ext_trans e5 hB6
        go_wp2_with fail
        refine (list_x (.slice V wn vc) walk wn _ (HIW.out.ext (ext_trans e4 e6)) HWN (by omega)).mono ?_
        rintro e w7 ⟨V7, vc7, rfl, hI7, hB7⟩
        have e7 := ext_trans e6 hB7
        go_wp2_with fail
        refine (play_x A5 n wc5 S5 pn pc5 wrong H5 n hc5 T5 sn sc5 start calls women pieces home streets (by omega) _ (hE5.ext (ext_trans hB6 hB7)) _ _ (chL streets N1) walk (hI6.ext hB7) hI7 R0 wn 0 HR0 HR0N HP0).mono ?_
        rintro e w8 ⟨LV, lvc, rfl, hL8, hB8⟩
        have e8 := ext_trans e7 hB8
        go_wp2_with fail
        refine (errand_x A n wc S pn pc wrong H n hc T sn sc ((start - (dq : Int))) calls women pieces home streets _ (KE.out.ext (ext_trans E4.out (ext_trans e4 e8))) HMK.out).mono ?_
        rintro e w9 ⟨A9, wc9, S9, pc9, H9, hc9, T9, sc9, rfl, hE9, hB9⟩
        have e9 := ext_trans e8 hB9
        go_wp2_with fail
        refine (list_x (.slice (some ⟨Bb, 0, none⟩) sn sn) (qkL streets N1 N2) sn _ (HIB.out.ext (ext_trans e4 e9)) HN2 (by omega)).mono ?_
        rintro e w10 ⟨V10, vc10, rfl, hI10, hB10⟩
        have e10 := ext_trans e9 hB10
        go_wp2_with fail
        refine (list_x (.slice V wn vc) walk wn _ (HIW.out.ext (ext_trans e4 e10)) HWN (by omega)).mono ?_
        rintro e w11 ⟨V11, vc11, rfl, hI11, hB11⟩
        have e11 := ext_trans e10 hB11
        go_wp2_with fail
        refine (play_x A9 n wc9 S9 pn pc9 wrong H9 n hc9 T9 sn sc9 ((start - (dq : Int))) calls women pieces home streets (by omega) _ (hE9.ext (ext_trans hB10 hB11)) _ _ (qkL streets N1 N2) walk (hI10.ext hB11) hI11 R1 wn 0 HR1 HR1N HP1).mono ?_
        rintro e w12 ⟨LW, lwc, rfl, hL12, hB12⟩
        have e12 := ext_trans e11 hB12
        have HL0 := hid (hL8.ext (ext_trans hB9 (ext_trans hB10 (ext_trans hB11 hB12))))
        have HL1 := hid hL12
        have E12 := hid (ext_trans E4.out (ext_trans e4 e12))
        clear hE5 hI6 hI7 hL8 hE9 hI10 hI11 hL12 hB5 hB6 hB7 hB8 hB9 hB10 hB11 hB12 e4 e5 e6 e7 e8 e9 e10 e11 e12 fq e0
        go_wp2_with fail
        go_loopw [20] (fun i wq => ∃ k : Nat, k ≤ wn ∧ i = .int .i64 k ∧ Ext w12 wq) (fun i _ => wn - (intOf i).toNat)
        case atStart => exact ⟨0, Nat.zero_le _, rfl, ext_refl _⟩
        case round =>
          obtain ⟨k, hk, rfl, hE⟩ := hrel
          by_cases hlt : k < wn
          · obtain ⟨ab, ao, hV, hac⟩ := (HL0.out.ext hE).at (by omega)
            subst hV
            obtain ⟨bb, bo, hV, hbc⟩ := (HL1.out.ext hE).at (by omega)
            subst hV
            have g1 := hac k hlt
            have g2 := hbc k hlt
            have hle := HLE.out k hlt
            obtain ⟨x, hx⟩ : ∃ x, at0 R0 k = x := ⟨_, rfl⟩
            obtain ⟨z, hz⟩ : ∃ x, at0 R1 k = x := ⟨_, rfl⟩
            rw [hx] at g1 hle
            rw [hz] at g2 hle
            have g3 := ext_cell g1 (ext_refl _) (Nat.le_refl _)
            have g4 := ext_cell g2 (ext_refl _) (Nat.le_refl _)
            have hzx : ¬ x < z := by omega
            have hi0 : (0 : Int) ≤ (k : Int) := by omega
            have hi1 : (k : Int) < (wn : Int) := by omega
            have e0 := ext_refl wr
            clear hac hbc g1 g2 hx hz
            go_wp2_with fail
            go_region_held3 (fun W => Ext wr W)
              (first | exact Below.drew (by assumption) | assumption | exact ext_trans (by assumption) (by assumption))
              (fail)
            have et : Ext wr wr.drew := (ext_refl wr).drew
            clear g3 g4
            go_wp2
            go_roundw
            case rel => exact ⟨k + 1, hlt, by go_num, ext_trans hE (by first | exact et | assumption)⟩
            case measure => simp [intOf]; omega
          · obtain rfl : wn = k := by omega
            go_wp2_with fail
            refine (awake_c _).mono ?_
            rintro e wa ⟨rfl, hBa'⟩
            go_wp2
            go_ret
            exact ⟨rfl, ext_trans E12.out (ext_trans hE hBa')⟩
      · obtain rfl : st = 0 := by have := HST.out; omega
        obtain ⟨w4, hw4⟩ : ∃ W, wr.alloc (.cells #[.slice A n wc, .slice S pn pc, .int .i64 wrong, .slice H n hc, .slice T sn sc, .int .i64 0, .int .i64 calls] 28) = W := ⟨_, rfl⟩
        rw [hw4]
        have e4 : Ext wr w4 := by rw [← hw4]; exact ext_alloc (ext_refl _) _
        have fq := ext_blk (by rw [← hw4]; exact heap_alloc_new _ _ : w4.heap[wr.heap.size]? = some (.cells #[.slice A n wc, .slice S pn pc, .int .i64 wrong, .slice H n hc, .slice T sn sc, .int .i64 0, .int .i64 calls] 28 (0, 0)))
        have hlt4 : wr.heap.size < w4.heap.size := by rw [← hw4]; simp
        clear hw4 cw hsw hdm
        have e0 := ext_refl w4
        refine (errand_x A n wc S pn pc wrong H n hc T sn sc start calls women pieces home streets _ (KE.out.ext (ext_trans E4.out e4)) HMK.out).mono ?_
        rintro e w5 ⟨A5, wc5, S5, pc5, H5, hc5, T5, sc5, rfl, hE5, hB5⟩
        have e5 : Ext w4 w5 := hB5
        go_wp2_with fail
        refine (list_x (.slice (some ⟨Ba, 0, none⟩) sn sn) (chL streets N1) sn _ (HIA.out.ext (ext_trans e4 e5)) HN1 (by omega)).mono ?_
        rintro e w6 ⟨V6, vc6, rfl, hI6, hB6⟩
        have e6 := ext_trans e5 hB6
        go_wp2_with fail
        refine (list_x (.slice V wn vc) walk wn _ (HIW.out.ext (ext_trans e4 e6)) HWN (by omega)).mono ?_
        rintro e w7 ⟨V7, vc7, rfl, hI7, hB7⟩
        have e7 := ext_trans e6 hB7
        go_wp2_with fail
        refine (play_x A5 n wc5 S5 pn pc5 wrong H5 n hc5 T5 sn sc5 start calls women pieces home streets (by omega) _ (hE5.ext (ext_trans hB6 hB7)) _ _ (chL streets N1) walk (hI6.ext hB7) hI7 R0 wn 0 HR0 HR0N HP0).mono ?_
        rintro e w8 ⟨LV, lvc, rfl, hL8, hB8⟩
        have e8 := ext_trans e7 hB8
        go_wp2_with fail
        refine (errand_x A n wc S pn pc wrong H n hc T sn sc (0) calls women pieces home streets _ (KE.out.ext (ext_trans E4.out (ext_trans e4 e8))) HMK.out).mono ?_
        rintro e w9 ⟨A9, wc9, S9, pc9, H9, hc9, T9, sc9, rfl, hE9, hB9⟩
        have e9 := ext_trans e8 hB9
        go_wp2_with fail
        refine (list_x (.slice (some ⟨Bb, 0, none⟩) sn sn) (qkL streets N1 N2) sn _ (HIB.out.ext (ext_trans e4 e9)) HN2 (by omega)).mono ?_
        rintro e w10 ⟨V10, vc10, rfl, hI10, hB10⟩
        have e10 := ext_trans e9 hB10
        go_wp2_with fail
        refine (list_x (.slice V wn vc) walk wn _ (HIW.out.ext (ext_trans e4 e10)) HWN (by omega)).mono ?_
        rintro e w11 ⟨V11, vc11, rfl, hI11, hB11⟩
        have e11 := ext_trans e10 hB11
        go_wp2_with fail
        refine (play_x A9 n wc9 S9 pn pc9 wrong H9 n hc9 T9 sn sc9 (0) calls women pieces home streets (by omega) _ (hE9.ext (ext_trans hB10 hB11)) _ _ (qkL streets N1 N2) walk (hI10.ext hB11) hI11 R1 wn 0 HR1 HR1N HP1).mono ?_
        rintro e w12 ⟨LW, lwc, rfl, hL12, hB12⟩
        have e12 := ext_trans e11 hB12
        have HL0 := hid (hL8.ext (ext_trans hB9 (ext_trans hB10 (ext_trans hB11 hB12))))
        have HL1 := hid hL12
        have E12 := hid (ext_trans E4.out (ext_trans e4 e12))
        clear hE5 hI6 hI7 hL8 hE9 hI10 hI11 hL12 hB5 hB6 hB7 hB8 hB9 hB10 hB11 hB12 e4 e5 e6 e7 e8 e9 e10 e11 e12 fq e0
        go_wp2_with fail
        go_loopw [20] (fun i wq => ∃ k : Nat, k ≤ wn ∧ i = .int .i64 k ∧ Ext w12 wq) (fun i _ => wn - (intOf i).toNat)
        case atStart => exact ⟨0, Nat.zero_le _, rfl, ext_refl _⟩
        case round =>
          obtain ⟨k, hk, rfl, hE⟩ := hrel
          by_cases hlt : k < wn
          · obtain ⟨ab, ao, hV, hac⟩ := (HL0.out.ext hE).at (by omega)
            subst hV
            obtain ⟨bb, bo, hV, hbc⟩ := (HL1.out.ext hE).at (by omega)
            subst hV
            have g1 := hac k hlt
            have g2 := hbc k hlt
            have hle := HLE.out k hlt
            obtain ⟨x, hx⟩ : ∃ x, at0 R0 k = x := ⟨_, rfl⟩
            obtain ⟨z, hz⟩ : ∃ x, at0 R1 k = x := ⟨_, rfl⟩
            rw [hx] at g1 hle
            rw [hz] at g2 hle
            have g3 := ext_cell g1 (ext_refl _) (Nat.le_refl _)
            have g4 := ext_cell g2 (ext_refl _) (Nat.le_refl _)
            have hzx : ¬ x < z := by omega
            have hi0 : (0 : Int) ≤ (k : Int) := by omega
            have hi1 : (k : Int) < (wn : Int) := by omega
            have e0 := ext_refl wr
            clear hac hbc g1 g2 hx hz
            go_wp2_with fail
            go_region_held3 (fun W => Ext wr W)
              (first | exact Below.drew (by assumption) | assumption | exact ext_trans (by assumption) (by assumption))
              (fail)
            have et : Ext wr wr.drew := (ext_refl wr).drew
            clear g3 g4
            go_wp2
            go_roundw
            case rel => exact ⟨k + 1, hlt, by go_num, ext_trans hE (by first | exact et | assumption)⟩
            case measure => simp [intOf]; omega
          · obtain rfl : wn = k := by omega
            go_wp2_with fail
            refine (awake_c _).mono ?_
            rintro e wa ⟨rfl, hBa'⟩
            go_wp2
            go_ret
            exact ⟨rfl, ext_trans E12.out (ext_trans hE hBa')⟩
end
end Go.Proofs.YtlcakmbejjlmeaaGreat
/- The statement ErrandQuicker, for every input: the row over its walk. -/
set_option linter.unusedVariables false
namespace Go.Proofs.YtlcakmbejjlmeaaGreat.ErrandQuickerRow
open Go.ChangeShapes Go.WideShapes Go.ChangeAt Go.RowKit
theorem own : ownKnob Tryz.prog.godebug = none := by kernel_rfl
theorem laidOut : laidOutB Tryz.prog = true := by kernel_rfl
set_option maxRecDepth 100000 in
theorem lifted (os : Os) (started : os.Started) (H : Type) (enc : TypeId × Value → H) :
    ReturnsInHanded {} Tryz.checked os 10 .any (Rows.errandQuickerSpec.pre6 enc Tryz.prog Tryz.f10 Rows.errandQuickerRow.domain false) (Rows.errandQuickerSpec.post enc Tryz.prog Tryz.f10 false true false false) := by
  refine returnsInHanded_of_change_sized (C := Tryz.checked) own started (by kernel_rfl) Tryz.func10
    (ChangeSpec.witness6 (enc := enc) (C := Tryz.checked) false ⟨#[], #[.agg #[.slice none 0 0, .slice none 0 0, .int .i64 0, .slice none 0 0, .slice none 0 0, .int .i64 0, .int .i64 0], .slice none 0 0, .int .u16 0, .int .u16 0, .int .u8 0], []⟩ 8 (by kernel_rfl) (by kernel_rfl) (by kernel_rfl) (by kernel_rfl)) ?_
  intro W base args ds gs before hval0 hW hcnd hsz0 _
  have hsz : (DataW.weightsEach Tryz.prog (Tryz.f10.params.toList ++ Rows.errandQuickerSpec.plain.varTypes Tryz.prog) (ds ++ gs)).all (· ≤ reachBytes) = true := hsz0
  have hval : ∀ (j : Nat) t v, Tryz.f10.params[j]? = some t → args[j]? = some v → Value.okWide Tryz.prog W .any base t v := hval0
  have hW' := hW
  obtain ⟨p, q, hA0, hV, rfl, hfz, hnd⟩ := hW
  have hA : DataW.TrodAll enc Tryz.prog W 0 (fun _ => true) true Tryz.f10.params.toList args.toList ds p := hA0
  rw [Tryz.params10] at hA hval hsz
  obtain ⟨v0, vs0, d0, ds0, p0, q0, hargs, rfl, rfl, h0, r0⟩ := trodAll_cons hA
  obtain ⟨v1, vs1, d1, ds1, p1, q1, rfl, rfl, rfl, h1, r1⟩ := trodAll_cons r0
  obtain ⟨v2, vs2, d2, ds2, p2, q2, rfl, rfl, rfl, h2, r2⟩ := trodAll_cons r1
  obtain ⟨v3, vs3, d3, ds3, p3, q3, rfl, rfl, rfl, h3, r3⟩ := trodAll_cons r2
  obtain ⟨v4, vs4, d4, ds4, p4, q4, rfl, rfl, rfl, h4, r4⟩ := trodAll_cons r3
  obtain ⟨rfl, rfl, rfl⟩ := trodAll_nil r4
  obtain rfl : args = #[v0, v1, v2, v3, v4] := by cases args; simp_all
  obtain ⟨rfl, rfl⟩ := trodVars_none hV
  have k0 := h0
  have lt0 : ∀ x ∈ p0, x.block < W.heap.size := by obtain ⟨m, hm⟩ := k0; exact DataW.trod_lt m _ _ _ hm
  have wk0 : WOk Tryz.prog 28 d0 := fun n hn => by
    have h := List.all_eq_true.1 hsz _ (DataW.weights_mem_each (j := 0) rfl rfl n hn)
    simpa using h
  obtain ⟨A0, n0, wc0, S0, pn0, pc0, wrong0, T0, hn0, hc0, U0, sn0, sc0, start0, calls0, women0, pieces0, home0, streets0, rfl, hW0, hwl0, hP0, hpl0, hH0, hhl0, hS0, hsl0, ws0, wcl0, wwr0⟩ := open_errW (hval 0 28 v0 rfl rfl) h0 wk0
  have k1 := h1
  have lt1 : ∀ x ∈ p1, x.block < W.heap.size := by obtain ⟨m, hm⟩ := k1; exact DataW.trod_lt m _ _ _ hm
  have wk1 : WOk Tryz.prog 69 d1 := fun n hn => by
    have h := List.all_eq_true.1 hsz _ (DataW.weights_mem_each (j := 1) rfl rfl n hn)
    simpa using h
  obtain ⟨a1, len1, cap1, rfl⟩ := okWide_slice Tryz.underlying69 (hval 1 69 v1 rfl rfl)
  obtain ⟨fuel1, hf1⟩ := h1
  obtain ⟨b1, m1, c1, xs1, hv1, hI1, hl1⟩ := open_u16W (by simpa [Value.cells] using hf1) wk1
  obtain ⟨a2, rfl, rfl, rfl, w2⟩ := open_int Tryz.underlying70 (hval 2 70 v2 rfl rfl) h2
  obtain ⟨a3, rfl, rfl, rfl, w3⟩ := open_int Tryz.underlying70 (hval 3 70 v3 rfl rfl) h3
  obtain ⟨a4, rfl, rfl, rfl, w4⟩ := open_int Tryz.underlying5 (hval 4 5 v4 rfl rfl) h4
  clear hA0 hval0 hsz0 hsz
  refine (quicker_w A0 n0 wc0 S0 pn0 pc0 wrong0 T0 hn0 hc0 U0 sn0 sc0 start0 calls0 women0 pieces0 home0 streets0 W ⟨hW0, hwl0, hP0, hpl0, hH0, hhl0, hS0, hsl0⟩ _ xs1 hI1 a2 w2 a3 w3 a4 w4).mono fun e W' ⟨he, bel⟩ => ?_
  subst he
  exact ⟨_, rfl, _, _, _, [], _, [], hW', trodAll_mk1 (shut_bool Tryz.underlying4 _), (trodAll_cons_mk (Below.trod laidOut (by kernel_rfl) (of_decide_eq_true (by kernel_rfl)) k0 bel lt0) (trodAll_cons_mk (Below.trod laidOut (by kernel_rfl) (of_decide_eq_true (by kernel_rfl)) k1 bel lt1) (trodAll_cons_mk (shut_int Tryz.underlying70 w2) (trodAll_cons_mk (shut_int Tryz.underlying70 w3) (trodAll_cons_mk (shut_int Tryz.underlying5 w4) trodAll_mk0))))), rfl, bel.frame _, fun h => by cases h⟩
theorem over : Rows.errandQuickerRow.holds Tryz.pinned (OpenSpec.ofChange Rows.errandQuickerSpec) :=
  OpenClaim.holds_of_wide 10 Tryz.f10 rfl rfl rfl rfl rfl rfl rfl ⟨rfl, rfl, rfl, rfl, rfl⟩ rfl rfl rfl rfl rfl (by kernel_rfl) Tryz.func10 (by kernel_rfl)
    (of_decide_eq_true (by kernel_rfl)) (by unfold Func.isWrapper; rw [if_neg (of_decide_eq_false (by kernel_rfl))]; exact ⟨rfl, rfl⟩)
    (fun os started H enc _ => lifted os started H enc)
end Go.Proofs.YtlcakmbejjlmeaaGreat.ErrandQuickerRow
namespace Go.Proofs.YtlcakmbejjlmeaaGreat
/-- ErrandQuicker, for every input. -/
theorem errandQuicker_holds : Rows.ErrandQuickerSaid := ErrandQuickerRow.over
#print axioms errandQuicker_holds
end Go.Proofs.YtlcakmbejjlmeaaGreat
