/- The contracts of the reference's Late, IsSure, Ending. -/
import Derived.Test.YtlcakmbejjlmeaaGreatK7
set_option linter.unusedVariables false
set_option linter.unusedSimpArgs false
namespace Go.Proofs.YtlcakmbejjlmeaaGreat
open Go.RowKit

theorem hiL_fun (l : List Rng) (k : Nat) : at0 (hiL l k) = rngM (rHi l) k := by
  funext i
  unfold rngM
  by_cases h : i < k
  · rw [if_pos h, hiL_at _ h]
  · rw [if_neg h]
    simp [at0, List.getD_eq_getElem?_getD, List.getElem?_eq_none (by rw [hiL_len]; omega : (hiL l k).length ≤ i)]
theorem loL_fun (l : List Rng) (k : Nat) : at0 (loL l k) = rngM (rLo l) k := by
  funext i
  unfold rngM
  by_cases h : i < k
  · rw [if_pos h, loL_at _ h]
  · rw [if_neg h]
    simp [at0, List.getD_eq_getElem?_getD, List.getElem?_eq_none (by rw [loL_len]; omega : (loL l k).length ≤ i)]
section
variable {w : World} {n : Nat} {H : Option Addr} {hcap : Nat} {S : Option Addr} {sn sc : Nat} {home streets : List Rng} {start : Int}
theorem minutesHi_c (h : ErrOk w n H hcap S sn sc home streets start) (hs : sn = n * (n + 1) / 2) (pv tv wv : Value) (wrong calls : Int) (A : Option Addr) (c : Nat) (walk : List Int) (hT : IsInts w tv (hiL streets sn)) (hW : IsInts w wv walk) (hwalk : WalkOk n walk) :
    Calls Tryz.prog 30 #[.agg #[.slice A n c, pv, .int .i64 wrong, .slice H n hcap, .slice S sn sc, .int .i64 start, .int .i64 calls], tv, wv] w
      fun e w' => ∃ v, e = .returned v ∧ IsInts w' v (callsL n (rLo home) (rngM (rHi streets) sn) start walk) ∧ Ext w w' := by
  rw [← hiL_fun]
  exact minutes_c n pv _ tv wv wrong start calls A c h.n4 H hcap home _ walk w h.rh hT (by rw [hiL_len, hs]) hW hwalk (by rw [hiL_fun]; exact h.slow) h.lo h.a0 h.a1
theorem minutesLo_c (h : ErrOk w n H hcap S sn sc home streets start) (hs : sn = n * (n + 1) / 2) (pv tv wv : Value) (wrong calls : Int) (A : Option Addr) (c : Nat) (walk : List Int) (hT : IsInts w tv (loL streets sn)) (hW : IsInts w wv walk) (hwalk : WalkOk n walk) :
    Calls Tryz.prog 30 #[.agg #[.slice A n c, pv, .int .i64 wrong, .slice H n hcap, .slice S sn sc, .int .i64 start, .int .i64 calls], tv, wv] w
      fun e w' => ∃ v, e = .returned v ∧ IsInts w' v (callsL n (rLo home) (rngM (rLo streets) sn) start walk) ∧ Ext w w' := by
  rw [← loL_fun]
  exact minutes_c n pv _ tv wv wrong start calls A c h.n4 H hcap home _ walk w h.rh hT (by rw [loL_len, hs]) hW hwalk (by rw [loL_fun]; exact h.quick) h.lo h.a0 h.a1
def lateR (n : Nat) (home streets : List Rng) (start : Int) (walk : List Int) : Int := if lateF n home streets start walk = walk.length then -1 else (lateF n home streets start walk : Int)

set_option maxHeartbeats 1600000 in
set_option maxRecDepth 100000 in
theorem lateR_c (h : ErrOk w n H hcap S sn sc home streets start) (hs : sn = n * (n + 1) / 2) (pv wv : Value) (wrong calls : Int) (A : Option Addr) (c : Nat) (walk : List Int) (hW : IsInts w wv walk) (hwalk : WalkOk n walk) (d : Int) (hd : Hid (lateR n home streets start walk = d)) :
    Calls Tryz.prog 36 #[.agg #[.slice A n c, pv, .int .i64 wrong, .slice H n hcap, .slice S sn sc, .int .i64 start, .int .i64 calls], wv] w
      fun e w' => e = .returned (.int .i64 d) ∧ Ext w w' := by
  have KE := hid h
  have KW := hid hW
  have KK := hid hwalk
  have hs10 := h.s10
  have HSL := hid h.sl
  have hwl := hwalk.len
  obtain ⟨V, vc, rfl⟩ := hW.val
  have hdd : Hid (lateR n home streets start walk = d) := hd
  have HS := hid hs
  clear h hW hwalk hs
  obtain ⟨W0, hWd⟩ : ∃ W0, w.alloc (.cells #[.slice A n c, pv, .int .i64 wrong, .slice H n hcap, .slice S sn sc, .int .i64 start, .int .i64 calls] 28) = W0 := ⟨_, rfl⟩
  have hW0 : Ext w W0 := by rw [← hWd]; go_grown
  have b1 : W0.heap[w.heap.size]? = some (.cells #[.slice A n c, pv, .int .i64 wrong, .slice H n hcap, .slice S sn sc, .int .i64 start, .int .i64 calls] 28 (0, 0)) := by rw [← hWd]; exact (by repeat (first | exact heap_alloc_at _ _ (by simp) | refine heap_alloc_keep ?_))
  have f1 := ext_blk b1
  have HW0 := hid hWd
  have B1 := hid b1
  have e0 : Ext W0 W0 := ext_refl W0
  clear hWd b1
  go_enter Tryz.func36, Tryz.ntmps36
  go_wp2
  rw [HW0.out]
  skip
  go_region_held3 (fun W => Ext W0 W)
    (first | exact Below.drew (by assumption) | assumption | exact ext_trans (by assumption) (by assumption))
    (first
      | (go_at_call 34; refine (greatest_c _ _ _ wrong start calls S sn sc streets _ (KE.out.rs.ext (ext_trans hW0 (by assumption))) (by omega)).mono ?_; rintro e w1 ⟨gv, rfl, hgv, hB1⟩; have HGV := hid hgv; clear hgv)
      | (go_at_call 30; refine (minutesHi_c (KE.out.ext (ext_trans hW0 (by assumption))) HS.out pv _ _ wrong calls A c walk (HGV.out.ext (by first | exact ext_refl _ | assumption)) (KW.out.ext (ext_trans hW0 (by assumption))) KK.out).mono ?_; rintro e w2 ⟨lv, rfl, hlv, hB2⟩; obtain ⟨LA, lc, rfl⟩ := hlv.val; rw [callsL_len] at hlv ⊢; have HLV := hid hlv; clear hlv))
  have e2 : Ext W0 w2 := by assumption
  clear f1
  have B2 := hid (ext_blk_keep e2 B1.out)
  have hE2 := ext_trans hW0 e2
  go_wp2
  go_loopw [6] (fun i wr => ∃ k : Nat, k ≤ walk.length ∧ i = .int .i64 k ∧ Hid (∀ j, j < k → lateP n home (rngM (rHi streets) sn) start walk j = false) ∧ Ext w2 wr) (fun i _ => walk.length - (intOf i).toNat)
  case atStart => exact ⟨0, Nat.zero_le _, rfl, hid (fun j hj => absurd hj (Nat.not_lt_zero j)), by first | exact ext_refl _ | exact (ext_refl _).drew⟩
  case round =>
    obtain ⟨k, hk, rfl, HN, hE⟩ := hrel
    have c1 := blk_cell (ext_blk_keep hE B2.out)
    have hew := ext_trans hE2 hE
    by_cases hlt : k < walk.length
    · obtain ⟨b, o, hV, hcell⟩ := (KW.out.ext hew).at (by omega)
      subst hV
      obtain ⟨lb, lo, hL, hlcell⟩ := (HLV.out.ext hE).at (by omega)
      subst hL
      obtain ⟨hb, ho, hH, hhc⟩ := (KE.out.rh.ext hew).at (by have := KK.out.hi k hlt; have := KK.out.lo k hlt; omega)
      subst hH
      obtain ⟨q, hq⟩ : ∃ q : Nat, at0 walk k = q := ⟨_, (Int.toNat_of_nonneg (KK.out.lo k hlt)).symm⟩
      have hqn : q < n := by have := KK.out.hi k hlt; omega
      have g1 := hcell k hlt
      rw [hq] at g1
      have g2 := (hhc q hqn).2
      have g3 := hlcell k hlt
      rw [callsL_at _ _ _ _ _ hlt] at g3
      obtain ⟨mi, hmi⟩ : ∃ x, minAt n (rLo home) (rngM (rHi streets) sn) start walk (k + 1) = x := ⟨_, rfl⟩
      obtain ⟨hi, hhi⟩ : ∃ x, rHi home q = x := ⟨_, rfl⟩
      rw [hmi] at g3
      rw [hhi] at g2
      have hlp : Hid (lateP n home (rngM (rHi streets) sn) start walk k = decide (hi < mi)) := hid (by simp only [lateP, hq, Int.toNat_natCast, hmi, hhi])
      have hk0 : (0 : Int) ≤ (k : Int) := by omega
      have hk1 : (k : Int) < (walk.length : Int) := by omega
      have hq0 : (0 : Int) ≤ (q : Int) := by omega
      have hq1 : (q : Int) < (n : Int) := by omega
      clear hcell hlcell hhc hq hmi hhi
      by_cases hl : hi < mi
      · go_wp2
        go_quiet (fail)
        clear c1
        go_wp2
        go_ret
        exact ⟨ret_int (by rw [← hdd.out, lateR, lateF, HSL.out, firstT_at (by rw [hlp.out]; simpa using hl) HN.out hlt, if_neg (by omega)]), by first | exact ext_drewN hew _ | exact hew⟩
      · go_wp2
        go_quiet (fail)
        clear c1
        go_wp2
        go_roundw
        case rel => exact ⟨k + 1, hlt, by go_num, hid (lt_or_eq_all HN.out (by rw [hlp.out]; simpa using hl)), by first | exact ext_drewN hE _ | exact hE⟩
        case measure => simp [intOf]; omega
    · obtain rfl : k = walk.length := by omega
      go_wp2
      go_ret
      exact ⟨ret_int (by rw [← hdd.out, lateR, lateF, HSL.out, firstT_none HN.out, if_pos rfl]), hew⟩
theorem sureF_late (n : Nat) (home streets : List Rng) (start calls : Int) (walk : List Int) : sureF n home streets start calls walk = (decide ((walk.length : Int) ≤ calls) && decide (lateR n home streets start walk < 0)) := by
  rw [sureF, lateR]
  congr 1
  by_cases h : lateF n home streets start walk = walk.length
  · rw [if_pos h, decide_eq_true h]; rfl
  · rw [if_neg h, decide_eq_false h, decide_eq_false (by omega)]
set_option maxHeartbeats 1600000 in
set_option maxRecDepth 100000 in
theorem isSureR_c (h : ErrOk w n H hcap S sn sc home streets start) (hs : sn = n * (n + 1) / 2) (pv wv : Value) (wrong calls : Int) (A : Option Addr) (c : Nat) (walk : List Int) (hW : IsInts w wv walk) (hwalk : WalkOk n walk) (y : Bool) (hy : Hid (sureF n home streets start calls walk = y)) :
    Calls Tryz.prog 56 #[.agg #[.slice A n c, pv, .int .i64 wrong, .slice H n hcap, .slice S sn sc, .int .i64 start, .int .i64 calls], wv] w
      fun e w' => e = .returned (.bool y) ∧ Ext w w' := by
  have KE := hid h
  have KW := hid hW
  have KK := hid hwalk
  have HS := hid hs
  obtain ⟨V, vc, rfl⟩ := hW.val
  obtain ⟨d, hd⟩ : ∃ d, lateR n home streets start walk = d := ⟨_, rfl⟩
  have HD := hid hd
  have hwl := hwalk.len
  have HY : Hid (y = (decide ((walk.length : Int) ≤ calls) && decide (d < 0))) := hid (by rw [← hy.out, sureF_late, hd])
  clear h hW hwalk hs hd
  by_cases h1 : (walk.length : Int) ≤ calls
  · by_cases h2 : d < 0
    all_goals
      go_enter Tryz.func56, Tryz.ntmps56
      go_wp2_with (go_at_call 36; refine (lateR_c (KE.out.ext (by go_grown)) HS.out pv _ wrong calls A c walk (KW.out.ext (by go_grown)) KK.out d HD).mono ?_; rintro e w1 ⟨rfl, hB1⟩)
      go_ret
      exact ⟨ret_bool (by rw [HY.out]; simp [h1] <;> omega), ext_trans (by go_grown) hB1⟩
  · go_enter Tryz.func56, Tryz.ntmps56
    go_wp2
    go_ret
    exact ⟨ret_bool (by rw [HY.out]; simp [h1] <;> omega), by go_grown⟩
set_option maxHeartbeats 1600000 in
set_option maxRecDepth 100000 in
theorem endingR_c (h : ErrOk w n H hcap S sn sc home streets start) (hs : sn = n * (n + 1) / 2) (pv wv : Value) (wrong calls : Int) (A : Option Addr) (c : Nat) (walk : List Int) (hW : IsInts w wv walk) (hwalk : WalkOk n walk) (d : Int) (hd : Hid (endF n home streets start walk = d)) :
    Calls Tryz.prog 103 #[.agg #[.slice A n c, pv, .int .i64 wrong, .slice H n hcap, .slice S sn sc, .int .i64 start, .int .i64 calls], wv] w
      fun e w' => e = .returned (.int .i64 d) ∧ Ext w w' := by
  have KE := hid h
  have KW := hid hW
  have KK := hid hwalk
  have hs10 := h.s10
  have HSL := hid h.sl
  have hwl := hwalk.len
  obtain ⟨V, vc, rfl⟩ := hW.val
  obtain ⟨len, hlen⟩ : ∃ x, walk.length = x := ⟨_, rfl⟩
  have HLEN := hid hlen
  rw [hlen] at KW hwl ⊢
  have HD : Hid (minAt n (rLo home) (rngM (rHi streets) sn) start walk len = d) := hid (by rw [← hd.out, endF, hlen, HSL.out])
  have HS := hid hs
  clear h hW hwalk hs hlen
  by_cases h0 : len = 0
  · subst h0
    go_enter Tryz.func103, Tryz.ntmps103
    go_wp2
    go_ret
    exact ⟨ret_int (by rw [← HD.out]; rfl), by go_grown⟩
  · have h0' : ((len : Int) == 0) = false := by rw [beq_eq_false_iff_ne]; omega
    have hp : 0 < len := by omega
    have hkw : IntKind.i64.wrap ((len : Int) - 1) = (len : Int) - 1 := IntWalk.i64_in _ (by omega)
    have hk1 : (0 : Int) ≤ (len : Int) - 1 := by omega
    have hk2 : (1 : Int) ≤ (len : Int) := by omega
    have hk3 : (len : Int) - 1 < (len : Int) := by omega
    have hkn : ((len : Int) - 1).toNat = len - 1 := by omega
    obtain ⟨W0, hWd⟩ : ∃ W0, w.alloc (.cells #[.slice A n c, pv, .int .i64 wrong, .slice H n hcap, .slice S sn sc, .int .i64 start, .int .i64 calls] 28) = W0 := ⟨_, rfl⟩
    have hW0 : Ext w W0 := by rw [← hWd]; go_grown
    have b1 : W0.heap[w.heap.size]? = some (.cells #[.slice A n c, pv, .int .i64 wrong, .slice H n hcap, .slice S sn sc, .int .i64 start, .int .i64 calls] 28 (0, 0)) := by rw [← hWd]; exact (by repeat (first | exact heap_alloc_at _ _ (by simp) | refine heap_alloc_keep ?_))
    have f1 := ext_blk b1
    have HW0 := hid hWd
    have B1 := hid b1
    have e0 : Ext W0 W0 := ext_refl W0
    clear hWd b1
    go_enter Tryz.func103, Tryz.ntmps103
    go_wp2
    rw [HW0.out]
    refine region_plainR (fun W => Ext W0 W) 11 #[false, false, false, false, false, false, false, false, false, false, false] (by kernel_rfl) (by kernel_rfl) (by kernel_rfl) (fun R HR => ?_)
    obtain ⟨V0, hV0⟩ : ∃ V0, W0.drew = V0 := ⟨_, rfl⟩
    rw [hV0]
    have y0 : Ext W0 V0 := by rw [← hV0]; exact e0.drew
    clear hV0
    refine takeR (i := 0) (oi := ?_) (v := ?_) ?_ (by kernel_rfl) (by kernel_rfl) (by kernel_rfl) ?_ ?_ (by assumption) ?_
    rotate_left 2
    · simp only [List.getElem?_toArray, List.getElem?_cons_succ, List.getElem?_cons_zero]; rfl
    · kernel_rfl
    · intro Wx hSx
      try dsimp only at hSx
      go_simp
      try with_reducible rfl
    simp only [Act.put, List.setIfInBounds_toArray, List.set_cons_zero, List.set_cons_succ]
    refine takeR (i := 1) (oi := ?_) (v := ?_) ?_ (by kernel_rfl) (by kernel_rfl) (by kernel_rfl) ?_ ?_ (by assumption) ?_
    rotate_left 2
    · simp only [List.getElem?_toArray, List.getElem?_cons_succ, List.getElem?_cons_zero]; rfl
    · kernel_rfl
    · intro Wx hSx
      try dsimp only at hSx
      go_simp
      try with_reducible rfl
    simp only [Act.put, List.setIfInBounds_toArray, List.set_cons_zero, List.set_cons_succ]
    refine takeR (i := 3) (oi := ?_) (v := ?_) ?_ (by kernel_rfl) (by kernel_rfl) (by kernel_rfl) ?_ ?_ (by assumption) ?_
    rotate_left 2
    · simp only [List.getElem?_toArray, List.getElem?_cons_succ, List.getElem?_cons_zero]; rfl
    · kernel_rfl
    · intro Wx hSx
      try dsimp only at hSx
      go_simp
      try with_reducible rfl
    simp only [Act.put, List.setIfInBounds_toArray, List.set_cons_zero, List.set_cons_succ]
    refine takeR (i := 5) (oi := ?_) (v := ?_) ?_ (by kernel_rfl) (by kernel_rfl) (by kernel_rfl) ?_ ?_ (by assumption) ?_
    rotate_left 2
    · simp only [List.getElem?_toArray, List.getElem?_cons_succ, List.getElem?_cons_zero]; rfl
    · kernel_rfl
    · intro Wx hSx
      try dsimp only at hSx
      go_simp
      try with_reducible rfl
    simp only [Act.put, List.setIfInBounds_toArray, List.set_cons_zero, List.set_cons_succ]
    refine takeR (i := 6) (oi := ?_) (v := ?_) ?_ (by kernel_rfl) (by kernel_rfl) (by kernel_rfl) ?_ ?_ (by assumption) ?_
    rotate_left 2
    · simp only [List.getElem?_toArray, List.getElem?_cons_succ, List.getElem?_cons_zero]; rfl
    · kernel_rfl
    · intro Wx hSx
      try dsimp only at hSx
      go_simp
      try with_reducible rfl
    simp only [Act.put, List.setIfInBounds_toArray, List.set_cons_zero, List.set_cons_succ]
    refine takeR (i := 7) (oi := ?_) (v := ?_) ?_ (by kernel_rfl) (by kernel_rfl) (by kernel_rfl) ?_ ?_ (by assumption) ?_
    rotate_left 2
    · simp only [List.getElem?_toArray, List.getElem?_cons_succ, List.getElem?_cons_zero]; rfl
    · kernel_rfl
    · intro Wx hSx
      try dsimp only at hSx
      go_simp
      try with_reducible rfl
    simp only [Act.put, List.setIfInBounds_toArray, List.set_cons_zero, List.set_cons_succ]
    refine wpAnyH_ready (rs := [2]) (by kernel_rfl) (by simp) ?_
    refine AllReadyH.cons (o := ?_) ?_ (fun K hK => ?_) AllReadyH.nil
    rotate_left
    · simp only [List.getElem?_toArray, List.getElem?_cons_succ, List.getElem?_cons_zero]; rfl
    go_simp
    refine (greatest_c _ _ _ wrong start calls S sn sc streets _ (KE.out.rs.ext (ext_trans hW0 y0)) (by omega)).mono ?_
    rintro e w1 ⟨gv, rfl, hgv, hB1⟩
    have y1 := ext_trans y0 hB1
    refine hK.out _ _ y1 (fun hHeld => ?_)
    clear hK K
    simp only [Act.put, List.setIfInBounds_toArray, List.set_cons_zero, List.set_cons_succ]
    refine wpAnyH_ready (rs := [4]) (by kernel_rfl) (by simp) ?_
    refine AllReadyH.cons (o := ?_) ?_ (fun K hK => ?_) AllReadyH.nil
    rotate_left
    · simp only [List.getElem?_toArray, List.getElem?_cons_succ, List.getElem?_cons_zero]; rfl
    go_simp
    refine (minutesHi_c (KE.out.ext (ext_trans hW0 y1)) HS.out pv _ _ wrong calls A c walk hgv (KW.out.ext (ext_trans hW0 y1)) KK.out).mono ?_
    rintro e w2 ⟨lv, rfl, hlv, hB2⟩
    have y2 := ext_trans y1 hB2
    obtain ⟨LA, lc, rfl⟩ := hlv.val
    rw [callsL_len, HLEN.out] at hlv ⊢
    obtain ⟨lb, lo, rfl, hlc⟩ := hlv.at hp
    have g9 := hlc (len - 1) (by omega)
    rw [callsL_at _ _ _ _ _ (by have := HLEN.out; omega), Nat.sub_add_cancel hp, HD.out] at g9
    clear hlc hlv
    refine hK.out _ _ y2 (fun hHeld => ?_)
    clear hK K
    simp only [Act.put, List.setIfInBounds_toArray, List.set_cons_zero, List.set_cons_succ]
    refine takeR (i := 8) (oi := ?_) (v := ?_) ?_ (by kernel_rfl) (by kernel_rfl) (by kernel_rfl) ?_ ?_ (by assumption) ?_
    rotate_left 2
    · simp only [List.getElem?_toArray, List.getElem?_cons_succ, List.getElem?_cons_zero]; rfl
    · kernel_rfl
    · intro Wx hSx
      try dsimp only at hSx
      go_simp
      try with_reducible rfl
    simp only [Act.put, List.setIfInBounds_toArray, List.set_cons_zero, List.set_cons_succ]
    refine wpAnyH_ready (rs := [9]) (by kernel_rfl) (by simp) ?_
    refine AllReadyH.cons (o := ?_) ?_ (fun K hK => ?_) AllReadyH.nil
    rotate_left
    · simp only [List.getElem?_toArray, List.getElem?_cons_succ, List.getElem?_cons_zero]; rfl
    go_simp
    refine hK.out _ _ y2 (fun hHeld => ?_)
    clear hK K
    simp only [Act.put, List.setIfInBounds_toArray, List.set_cons_zero, List.set_cons_succ]
    refine takeR (i := 10) (oi := ?_) (v := ?_) ?_ (by kernel_rfl) (by kernel_rfl) (by kernel_rfl) ?_ ?_ (by assumption) ?_
    rotate_left 2
    · simp only [List.getElem?_toArray, List.getElem?_cons_succ, List.getElem?_cons_zero]; rfl
    · kernel_rfl
    · intro Wx hSx
      try dsimp only at hSx
      go_simp
      try with_reducible rfl
    simp only [Act.put, List.setIfInBounds_toArray, List.set_cons_zero, List.set_cons_succ]
    refine done_R HR (by kernel_rfl) ?_
    clear HR f1 hkw hkn g9
    go_wp2
    go_ret
    exact ⟨rfl, ext_trans hW0 y2⟩
end
end Go.Proofs.YtlcakmbejjlmeaaGreat
/- The contracts of the reference's Astray, Fewest (the best truth). -/
set_option linter.unusedVariables false
set_option linter.unusedSimpArgs false
namespace Go.Proofs.YtlcakmbejjlmeaaGreat
open Go.RowKit

theorem lAt_owns (pn : Nat) (os : List (Nat → Int)) {i : Nat} (h : i < os.length) : lAt (os.map (ownsL pn)) i = ownsL pn (ow os i) := by
  simp [lAt, ow, List.getD_eq_getElem?_getD, h]
section
variable (A : Option Addr) (n wc : Nat) (women : List Wom) (S : Option Addr) (pn pc : Nat) (pieces : List Pce) (wrong : Int)
set_option maxHeartbeats 1600000 in
set_option maxRecDepth 100000 in
theorem astrayR_c (w : World) (h : TabAt w A n wc S pn pc women pieces) (v : Value) (o : Nat → Int) (hv : IsInts w v (ownsL pn o)) :
    Calls Tryz.prog 88 #[.agg #[.slice A n wc, .slice S pn pc, .int .i64 wrong], v] w
      fun e w' => ∃ V vc, e = .returned (.slice V (lostF pieces o) vc) ∧ IsInts w' (.slice V (lostF pieces o) vc) (astrayF pieces o) ∧ Ext w w' := by
  have KT := hid h
  have KV := hid hv
  have hpn := h.p3
  have HPL := hid h.pl
  obtain ⟨V, vc, rfl⟩ := hv.val
  clear h hv
  rw [ownsL_len] at KV ⊢
  obtain ⟨F, hF⟩ : ∃ F, selK (astP pieces o) = F := ⟨_, rfl⟩
  have HFS : Hid (∀ k, F (k + 1) = F k ++ if astP pieces o k then [(k : Int)] else []) := hid (by rw [← hF]; exact selK_succ _)
  have HFL : Hid (∀ k, (F k).length ≤ k) := hid (by rw [← hF]; exact selK_len _)
  have HF0 : Hid (F 0 = []) := hid (by rw [← hF]; rfl)
  have HFE : Hid (F pn = astrayF pieces o) := hid (by rw [← hF, astrayF, HPL.out])
  have HLO : Hid ((F pn).length = lostF pieces o) := hid (by rw [HFE.out]; rfl)
  obtain ⟨lf, hlf⟩ : ∃ x, lostF pieces o = x := ⟨_, rfl⟩
  rw [hlf] at HLO ⊢
  clear hF hlf
  go_enter Tryz.func88, Tryz.ntmps88
  go_wp2
  go_loopw [5, 6] (fun out i wr => ∃ k : Nat, k ≤ pn ∧ i = .int .i64 k ∧ wr.ownsRow (w.heap.size + 1) 3 1 out (F k).length ((F k).map (Value.int .i64)) ∧ Ext w wr ∧ wr.heap[w.heap.size]? = some (.cells #[.slice A n wc, .slice S pn pc, .int .i64 wrong] 25 (0, 0))) (fun _ i _ => pn - (intOf i).toNat)
  case atStart => exact ⟨0, Nat.zero_le _, rfl, by rw [HF0.out]; exact own_nil _ _ _ _, by go_grown, (by repeat (first | exact heap_alloc_at _ _ (by simp) | refine heap_alloc_keep ?_))⟩
  case round =>
    obtain ⟨k, hk, rfl, hown, hE, b1⟩ := hrel
    have HO := hid hown
    have B1 := hid b1
    have f1 := ext_blk b1
    have hlt0 : w.heap.size < wr.heap.size := (Array.getElem?_eq_some_iff.1 b1).1
    clear hown b1
    by_cases hlt : k < pn
    · obtain ⟨b, oo, hV, hcell⟩ := (KV.out.ext hE).at (by omega)
      subst hV
      obtain ⟨pb, po, hP, hpc⟩ := (KT.out.P.ext hE).at (by omega)
      subst hP
      obtain ⟨mv, m1, m2, m3⟩ := hpc k hlt
      have g1 := hcell k hlt
      rw [ownsL_at _ _ hlt] at g1
      have hs := HFS.out k
      have hol := HFL.out k
      obtain ⟨x, hx⟩ : ∃ x, o k = x := ⟨_, rfl⟩
      obtain ⟨bd, hbd⟩ : ∃ x, pBd pieces k = x := ⟨_, rfl⟩
      rw [hx] at g1
      rw [hbd] at m3
      have has : Hid (astP pieces o k = decide (bd ≠ x)) := hid (by rw [astP, hx, hbd])
      have f2 := ext_cell g1 (ext_refl wr) (Nat.le_refl _)
      have f3 := ext_cell m3 (ext_refl wr) (Nat.le_refl _)
      have hi0 : (0 : Int) ≤ (k : Int) := by omega
      have hi1 : (k : Int) < (pn : Int) := by omega
      have e0 := ext_refl wr
      have HS := hid hs
      clear hcell hpc g1 m1 m2 m3 hs hx hbd
      by_cases hne : bd = x
      · subst hne
        have hn1 : (bd != bd) = false := by simp
        go_wp2
        go_region_held3 (fun W => Ext wr W) (first | exact Below.drew (by assumption) | assumption) (fail)
        clear f1 f2 f3
        go_wp2
        go_roundw
        case rel => exact ⟨k + 1, hlt, by go_num, by rw [HS.out, has.out]; simpa using own_ext HO.out (Below.drew e0), Below.drew hE, B1.out⟩
        case measure => simp [intOf]; omega
      · have hn1 : (bd != x) = true := by rw [bne_iff_ne]; exact hne
        go_wp2
        go_region_held3 (fun W => Ext wr W) (first | exact Below.drew (by assumption) | assumption) (fail)
        clear f1 f2 f3
        obtain ⟨W1, hW1⟩ : ∃ W1, wr.drew = W1 := ⟨_, rfl⟩
        have hE1 : Ext wr W1 := by rw [← hW1]; exact Below.drew e0
        rw [hW1]
        clear hW1
        have hs1 := hE1.size
        go_wp2_with (at_builtin; refine app_intH rfl _ _ 29 3 rfl Tryz.underlying29 info_int (w.heap.size + 1) _ (F k).length (F k) (k : Int) _ rfl rfl (by simp) (by exact own_ext HO.out hE1) (by omega) (by omega) ?_; intro g cap w2 hown2 hB2 hg2 hlt2 hbg2)
        go_roundw
        case rel => exact ⟨k + 1, hlt, by go_num, by rw [HS.out, has.out, if_pos (by simpa using hne)]; simpa using hown2, (ext_trans hE hE1).trans (hB2.mono (by omega)), by rw [hB2.block _ (by omega)]; exact ext_blk_keep hE1 B1.out⟩
        case measure => simp [intOf]; omega
    · obtain rfl : k = pn := by omega
      obtain ⟨O, oc, rfl⟩ := own_slice HO.out
      have c1 := blk_cell B1.out
      clear f1
      go_wp2
      go_ret
      have h1 := HO.out
      rw [HFE.out] at h1
      have h2 := own_ints h1 (by have := HFL.out k; rw [HFE.out] at this; omega)
      refine ⟨O, oc, by show Ending.returned (Value.slice O (F k).length oc) = _; rw [HLO.out], ?_, hE⟩
      rw [← HLO.out, HFE.out]
      exact h2
set_option maxHeartbeats 3200000 in
set_option maxRecDepth 100000 in
theorem fewestT_c (w : World) (h : TabAt w A n wc S pn pc women pieces) (T : Option Addr) (tn tc : Nat) (os : List (Nat → Int)) (hT : IsLists w (.slice T tn tc) (os.map (ownsL pn))) (htl : os.length = tn) (htn : 0 < tn) :
    Calls Tryz.prog 86 #[.agg #[.slice A n wc, .slice S pn pc, .int .i64 wrong], .slice T tn tc] w
      fun e w' => ∃ V vc, e = .returned (.slice V pn vc) ∧ IsInts w' (.slice V pn vc) (ownsL pn (bestF pieces os)) ∧ Ext w w' := by
  have KT := hid h
  have KL := hid hT
  have HTL := hid htl
  have hpn := h.p3
  have htb := hT.1
  rw [List.length_map, htl] at htb
  obtain ⟨tb, to, hTT, htc⟩ := hT.at htn
  subst hTT
  obtain ⟨m0, hm0, hi0⟩ := htc 0 htn
  rw [lAt_owns pn os (by omega)] at hi0
  obtain ⟨B0, bc0, rfl⟩ := hi0.val
  rw [ownsL_len] at hm0 hi0
  rw [Nat.add_zero] at hm0
  have HI0 := hid hi0
  obtain ⟨bK, hbK⟩ : ∃ f, bestK pieces os = f := ⟨_, rfl⟩
  have HB0 : Hid (bK 0 = ow os 0) := hid (by rw [← hbK]; rfl)
  have HBS : Hid (∀ k, bK (k + 1) = if lostF pieces (ow os k) < lostF pieces (bK k) then ow os k else bK k) := hid (by rw [← hbK]; exact fun k => rfl)
  have HBF : Hid (bestF pieces os = bK tn) := hid (by rw [bestF, htl, hbK])
  have HTC := hid htc
  have htp : (0 : Int) < (tn : Int) := by omega
  have htbl := cell_lt hm0
  clear h hT htl htc hi0 hbK
  go_enter Tryz.func86, Tryz.ntmps86
  go_wp2
  go_loopw [5, 6] (fun best i wr => ∃ (k : Nat) (B : Option Addr) (bc : Nat), k ≤ tn ∧ i = .int .i64 k ∧ best = .slice B pn bc ∧ IsInts wr (.slice B pn bc) (ownsL pn (bK k)) ∧ Ext w wr ∧ wr.heap[w.heap.size]? = some (.cells #[.slice A n wc, .slice S pn pc, .int .i64 wrong] 25 (0, 0))) (fun _ i _ => tn - (intOf i).toNat)
  case atStart => exact ⟨0, B0, bc0, Nat.zero_le _, rfl, rfl, by rw [HB0.out]; exact HI0.out.ext (by go_grown), by go_grown, (by repeat (first | exact heap_alloc_at _ _ (by simp) | refine heap_alloc_keep ?_))⟩
  case round =>
    obtain ⟨k, B, bc, hk, rfl, rfl, hbi, hE, b1⟩ := hrel
    have HBI := hid hbi
    have B1 := hid b1
    have f1 := ext_blk b1
    clear hbi b1 hm0
    by_cases hlt : k < tn
    · obtain ⟨m, c1, hmi⟩ := HTC.out k hlt
      rw [lAt_owns pn os (by have := HTL.out; omega)] at hmi
      obtain ⟨MB, mc, rfl⟩ := hmi.val
      rw [ownsL_len] at hmi c1
      have HMI := hid hmi
      have f2 := ext_cell (cell_ext hE c1) (ext_refl wr) (Nat.le_refl _)
      obtain ⟨o1, ho1⟩ : ∃ x, ow os k = x := ⟨_, rfl⟩
      obtain ⟨o2, ho2⟩ : ∃ x, bK k = x := ⟨_, rfl⟩
      have hs := HBS.out k
      rw [ho1, ho2] at hs
      obtain ⟨l1, hl1⟩ : ∃ x, lostF pieces o1 = x := ⟨_, rfl⟩
      obtain ⟨l2, hl2⟩ : ∃ x, lostF pieces o2 = x := ⟨_, rfl⟩
      rw [hl1, hl2] at hs
      have HL1 := hid hl1
      have HL2 := hid hl2
      have HO1 := hid ho1
      have HO2 := hid ho2
      have HS := hid hs
      have hki0 : (0 : Int) ≤ (k : Int) := by omega
      have hki1 : (k : Int) < (tn : Int) := by omega
      have e0 := ext_refl wr
      clear c1 hmi ho1 ho2 hl1 hl2 hs
      go_wp2
      go_region_held3 (fun W => Ext wr W)
        (first | exact Below.drew (by assumption) | assumption | exact ext_trans (by assumption) (by assumption))
        (first
          | (go_at_call 88; (with_reducible refine (astrayR_c A n wc women S pn pc pieces wrong _ (KT.out.ext (ext_trans hE (by first | assumption | exact Below.drew (by assumption)))) (.slice MB pn mc) o1 ((by rw [← HO1.out]; exact HMI.out : IsInts w (.slice MB pn mc) (ownsL pn o1)).ext (ext_trans hE (by first | assumption | exact Below.drew (by assumption))))).mono ?_); rintro e wa ⟨V1, vc1, rfl, _, hBa⟩; rw [HL1.out])
          | (go_at_call 88; (with_reducible refine (astrayR_c A n wc women S pn pc pieces wrong _ (KT.out.ext (ext_trans hE (by first | assumption | exact Below.drew (by assumption)))) (.slice B pn bc) o2 ((by rw [← HO2.out]; exact HBI.out : IsInts wr (.slice B pn bc) (ownsL pn o2)).ext (by first | assumption | exact Below.drew (by assumption)))).mono ?_); rintro e wb ⟨V2, vc2, rfl, _, hBb⟩; rw [HL2.out]))
      all_goals
        by_cases hl : l1 < l2
        · go_wp2
          go_roundw
          case rel => exact ⟨k + 1, _, _, hlt, by go_num, rfl, by rw [HS.out, if_pos hl, ← HO1.out]; exact HMI.out.ext (ext_trans hE (by assumption)), ext_trans hE (by assumption), ext_blk_keep (by assumption) B1.out⟩
          case measure => simp [intOf]; omega
        · go_wp2
          go_roundw
          case rel => exact ⟨k + 1, _, _, hlt, by go_num, rfl, by rw [HS.out, if_neg hl, ← HO2.out]; exact HBI.out.ext (by assumption), ext_trans hE (by assumption), ext_blk_keep (by assumption) B1.out⟩
          case measure => simp [intOf]; omega
    · obtain rfl : tn = k := by omega
      clear f1
      go_wp2
      go_ret
      exact ⟨B, bc, rfl, by rw [HBF.out]; exact HBI.out, hE⟩
end
end Go.Proofs.YtlcakmbejjlmeaaGreat
