/- The contract of errand's Comes. -/
import Derived.Test.YtlcakmbejjlmeaaGreatK4
set_option linter.unusedVariables false
set_option linter.unusedSimpArgs false
namespace Go.Proofs.YtlcakmbejjlmeaaGreat
open Go.RowKit

theorem region_plainR {P : Program} {id : Nat} {ops : Array Oper} {Q : Exit → Act → World → Prop} (S : World → Prop) (N : Nat) (ls : Array Bool) {a : Act} {w : World} (hm : P.follows .mixedOrders = true) (hN : ops.size = N) (hls : Array.replicate N false = ls)
    (h : ∀ R : Act → World → Prop, Hid (∀ a w, Q .normal a w → R a w) → wpAnyH P .any ops (onlyN R) S N ls a w.drew) : (Code.region id ops true).wp P Q a w := by
  subst hN
  subst hls
  exact wp_mono (wp_region_held (S := S) hm (h _ (fun _ _ h => h))) (fun e a w h => by cases e <;> first | exact h | exact h.elim)
theorem any_gen {P : Program} {md : Region.Mode} {ops : Array Oper} {Q : Exit → Act → World → Prop} {S : World → Prop} {fuel : Nat} {listed : Array Bool} {a : Act} {w : World} (h : ∀ W0, W0 = w → wpAnyH P md ops Q S fuel listed a W0) : wpAnyH P md ops Q S fuel listed a w := h w rfl
/-- Cut behind a piece of code: what it leaves is said by 'F'. -/
theorem wp_cutR {P : Program} {c : Code} {Q : Exit → Act → World → Prop} {a : Act} {w : World} (F : Act → Act → World → Prop) (h1 : c.wp P (fun e a' w' => e = .normal ∧ F a a' w') a w) (h2 : ∀ a' w', F a a' w' → Q .normal a' w') : c.wp P Q a w :=
  wp_mono h1 fun e a' w' ⟨he, hf⟩ => he ▸ h2 a' w' hf
theorem minAt_congr {n : Nat} {lo : Nat → Int} {m m' : Nat → Int} {start : Int} {walk : List Int} (hn : n ≤ 4) (hw : WalkOk n walk) (h : ∀ j, j < 10 → m j = m' j) : ∀ k, k ≤ walk.length → minAt n lo m start walk k = minAt n lo m' start walk k
  | 0, _ => rfl
  | k + 1, hk => by
    have a := hw.hi k (by omega)
    have b := hw.lo k (by omega)
    have d := sIdx_lt hn (plAt_le hw k (by omega)) (q := (at0 walk k).toNat) (by omega) (plAt_ne hw k (by omega))
    rw [minAt, minAt, minAt_congr hn hw h k (by omega), h _ d]
theorem callsL_congr {n : Nat} {lo : Nat → Int} {m m' : Nat → Int} {start : Int} {walk : List Int} (hn : n ≤ 4) (hw : WalkOk n walk) (h : ∀ j, j < 10 → m j = m' j) : callsL n lo m start walk = callsL n lo m' start walk := by
  unfold callsL
  refine List.map_congr_left fun k hk => ?_
  have := List.mem_range.1 hk
  exact minAt_congr hn hw h (k + 1) (by omega)
theorem callsL_at (n : Nat) (lo : Nat → Int) (m : Nat → Int) (start : Int) (walk : List Int) {k : Nat} (h : k < walk.length) : at0 (callsL n lo m start walk) k = minAt n lo m start walk (k + 1) := by
  simp [at0, callsL, List.getD_eq_getElem?_getD, h]

def rngRow (m : Rng) : List Value := [.int .i64 m.lo, .int .i64 m.hi]
def rngCells (l : List Rng) : List Value := l.flatMap rngRow
theorem rngCells_at : ∀ (l : List Rng) (i : Nat), i < l.length → (rngCells l)[i * 2]? = some (.int .i64 (rLo l i)) ∧ (rngCells l)[i * 2 + 1]? = some (.int .i64 (rHi l i))
  | [], i, hi => absurd hi (Nat.not_lt_zero i)
  | m :: l, 0, _ => by simp [rngCells, rngRow, rLo, rHi]
  | m :: l, i + 1, hi => by
    have ih := rngCells_at l i (by simpa using hi)
    have h1 : rngCells (m :: l) = rngRow m ++ rngCells l := by simp [rngCells]
    have h2 : ∀ j, (rngCells (m :: l))[(i + 1) * 2 + j]? = (rngCells l)[i * 2 + j]? := fun j => by
      rw [h1, List.getElem?_append_right (by simp [rngRow]; omega)]
      congr 1
      simp [rngRow]; omega
    have h3 := h2 0
    simp only [Nat.add_zero] at h3
    rw [h3, h2 1]
    simpa [rLo, rHi] using ih
theorem own_rngs {W : World} {base : Nat} {v : Value} {l : List Rng} {n : Nat} {e : TypeId} (hn : l.length = n) (h : W.ownsRow base e 2 v n (rngCells l)) (hl : n ≤ 1000000) : IsRngs W v l := by
  subst hn
  obtain ⟨h1, h2⟩ := h
  refine ⟨by omega, ?_⟩
  rcases h2 with ⟨rfl, h0⟩ | ⟨g, cap, cur, rfl, hg, hc, hcap, hmax, hsz, htk⟩
  · exact ⟨none, 0, by rw [h0], fun h => by omega⟩
  · refine ⟨_, cap, rfl, fun _ => ⟨g, 0, rfl, fun i hi => ?_⟩⟩
    have h3 := rngCells_at l i hi
    rw [← htk] at h3
    rw [List.getElem?_take_of_lt (by omega), List.getElem?_take_of_lt (by omega)] at h3
    rw [blk_cell hc, blk_cell hc, Nat.zero_add]
    simpa using h3
theorem rngCells_append (a b : List Rng) : rngCells (a ++ b) = rngCells a ++ rngCells b := by simp [rngCells]
def comesK (n : Nat) (home streets : List Rng) (start : Int) (walk : List Int) (k : Nat) : List Rng :=
  (List.range k).map fun i => ⟨minAt n (rLo home) (rngM (rLo streets) streets.length) start walk (i + 1), minAt n (rLo home) (rngM (rHi streets) streets.length) start walk (i + 1)⟩
theorem comesK_succ (n : Nat) (home streets : List Rng) (start : Int) (walk : List Int) (k : Nat) : comesK n home streets start walk (k + 1) = comesK n home streets start walk k ++ [⟨minAt n (rLo home) (rngM (rLo streets) streets.length) start walk (k + 1), minAt n (rLo home) (rngM (rHi streets) streets.length) start walk (k + 1)⟩] := by
  rw [comesK, List.range_succ, List.map_append]; rfl
theorem comesK_len (n : Nat) (home streets : List Rng) (start : Int) (walk : List Int) (k : Nat) : (comesK n home streets start walk k).length = k := by simp [comesK]
def comesL (women : List Wom) (pieces : List Pce) (wrong : Int) (home streets : List Rng) (start calls : Int) (walk : List Int) : List Rng :=
  if walkC women pieces wrong home streets start calls walk = 0 then comesK women.length home streets start walk walk.length else []
section
variable (A : Option Addr) (n wc : Nat) (S : Option Addr) (pn pc : Nat) (wrong : Int) (H : Option Addr) (hn hc : Nat) (T : Option Addr) (sn sc : Nat) (start calls : Int) (women : List Wom) (pieces : List Pce) (home streets : List Rng)
set_option maxHeartbeats 6400000 in
set_option maxRecDepth 100000 in
theorem comes_c (hn1 : n ≤ 100) (w : World) (h : ErrAt w A n wc S pn pc H hn hc T sn sc women pieces home streets) (wv : Value) (walk : List Int) (hW : IsInts w wv walk) :
    Calls Tryz.prog 31 #[.agg #[.slice A n wc, .slice S pn pc, .int .i64 wrong, .slice H hn hc, .slice T sn sc, .int .i64 start, .int .i64 calls], wv] w
      fun e w' => ∃ v, e = .returned (.tuple #[v, .int .i64 (walkC women pieces wrong home streets start calls walk)]) ∧ IsRngs w' v (comesL women pieces wrong home streets start calls walk) ∧ Ext w w' := by
  have KE := hid h
  have KW := hid hW
  obtain ⟨V, vc, rfl⟩ := hW.val
  clear h hW
  obtain ⟨code, hcd⟩ : ∃ code, walkC women pieces wrong home streets start calls walk = code := ⟨_, rfl⟩
  have HCD := hid hcd
  obtain ⟨b, hb⟩ : ∃ b, isWalkF n walk = b := ⟨_, rfl⟩
  have HB := hid hb
  have HCB : Hid (wErr (errE women pieces wrong home streets start calls) b = code) := hid (by rw [← hb, ← hcd, walkC, KE.out.wl])
  have hcall : Hid (∀ W, Ext ((w.alloc (.cells #[.slice A n wc, .slice S pn pc, .int .i64 wrong, .slice H hn hc, .slice T sn sc, .int .i64 start, .int .i64 calls] 41)).alloc (.cells #[.slice V walk.length vc] 29)) W →
      Calls Tryz.prog 79 #[.pointer (some ⟨w.heap.size, 0, none⟩), .pointer (some ⟨w.heap.size + 1, 0, none⟩)] W fun e w' => e = .returned (.bool b) ∧ Ext W w') := hid fun W hE => by
    have e1 : Ext w W := ext_trans (by go_grown) hE
    rw [← hb]
    exact clo_comes A n wc S pn pc wrong H hn hc T sn sc start calls w.heap.size (w.heap.size + 1) _ walk W (ext_blk_keep hE (by repeat (first | exact heap_alloc_at _ _ (by simp) | refine heap_alloc_keep ?_))) (ext_blk_keep hE (heap_alloc_at _ _ (by simp))) hn1 (KW.out.ext e1)
  clear hcd hb
  have HNL := hid KE.out.wl
  rw [HCD.out]
  by_cases h0 : code = 0
  · skip
    subst h0
    obtain ⟨he, hbt⟩ := wErr_zero HCB.out
    subst hbt
    obtain ⟨hnn, hok⟩ := errOk_of KE.out he
    have hnn' : n = hn := hnn.symm
    subst hnn'
    have HWK := hid ((isWalkF_iff _ _).1 HB.out)
    have KO := hid hok
    have HE := hid he
    clear hnn hok he
    have hwl7 := HWK.out.len
    go_enter Tryz.func31, Tryz.ntmps31
    go_wp2_with (go_at_call 66; refine (wask_yes_comes A n wc S pn pc wrong H n hc T sn sc start calls women pieces home streets _ _ _ (KE.out.ext (by go_grown)) hcall HE.out).mono ?_; unfold WaskOk; rintro e w1 ⟨q, M, mn, mc, rfl, hq, hmn, hwork, hB1⟩; have b1 := ext_blk_keep hB1 (heap_alloc_keep (heap_alloc_new w (.cells #[.slice A n wc, .slice S pn pc, .int .i64 wrong, .slice H n hc, .slice T sn sc, .int .i64 start, .int .i64 calls] 41))); have b2 := ext_blk_keep hB1 (heap_alloc_at (w.alloc (.cells #[.slice A n wc, .slice S pn pc, .int .i64 wrong, .slice H n hc, .slice T sn sc, .int .i64 start, .int .i64 calls] 41)) (.cells #[.slice V walk.length vc] 29) (k := w.heap.size + 1) (by simp)); have hc1 := blk_cell b1; have hc2 := blk_cell b2; have e1 : Ext w w1 := ext_trans (by go_grown) hB1; have HMN := hid hmn; have HWORK := hid hwork; have HB1 := hid b1; have HB2 := hid b2; clear hmn hwork b1 b2)
    refine wp_cutR (fun a0 a' w' => ∃ B8 B9, a' = { tmps := ((((((a0.tmps.setIfInBounds 23 (.agg #[.slice A n wc, .slice S pn pc, .int .i64 wrong, .slice H n hc, .slice T sn sc, .int .i64 start, .int .i64 calls])).setIfInBounds 25 (.agg #[.slice A n wc, .slice S pn pc, .int .i64 wrong, .slice H n hc, .slice T sn sc, .int .i64 start, .int .i64 calls])).setIfInBounds 24 (.agg #[.int .i64 (rngM (rLo streets) sn 0), .int .i64 (rngM (rLo streets) sn 1), .int .i64 (rngM (rLo streets) sn 2), .int .i64 (rngM (rLo streets) sn 3), .int .i64 (rngM (rLo streets) sn 4), .int .i64 (rngM (rLo streets) sn 5), .int .i64 (rngM (rLo streets) sn 6), .int .i64 (rngM (rLo streets) sn 7), .int .i64 (rngM (rLo streets) sn 8), .int .i64 (rngM (rLo streets) sn 9)])).setIfInBounds 26 (.agg #[.int .i64 (rngM (rHi streets) sn 0), .int .i64 (rngM (rHi streets) sn 1), .int .i64 (rngM (rHi streets) sn 2), .int .i64 (rngM (rHi streets) sn 3), .int .i64 (rngM (rHi streets) sn 4), .int .i64 (rngM (rHi streets) sn 5), .int .i64 (rngM (rHi streets) sn 6), .int .i64 (rngM (rHi streets) sn 7), .int .i64 (rngM (rHi streets) sn 8), .int .i64 (rngM (rHi streets) sn 9)])).setIfInBounds 8 (.pointer (some ⟨B8, 0, none⟩))).setIfInBounds 9 (.pointer (some ⟨B9, 0, none⟩))), defers := [] } ∧
      w1.heap.size ≤ B8 ∧ w1.heap.size ≤ B9 ∧ B8 ≠ B9 ∧ Ext w1 w' ∧ w'.heap[B8]? = some (.cells #[.int .i64 (rngM (rLo streets) sn 0), .int .i64 (rngM (rLo streets) sn 1), .int .i64 (rngM (rLo streets) sn 2), .int .i64 (rngM (rLo streets) sn 3), .int .i64 (rngM (rLo streets) sn 4), .int .i64 (rngM (rLo streets) sn 5), .int .i64 (rngM (rLo streets) sn 6), .int .i64 (rngM (rLo streets) sn 7), .int .i64 (rngM (rLo streets) sn 8), .int .i64 (rngM (rLo streets) sn 9)] 108 (0, 0)) ∧ w'.heap[B9]? = some (.cells #[.int .i64 (rngM (rHi streets) sn 0), .int .i64 (rngM (rHi streets) sn 1), .int .i64 (rngM (rHi streets) sn 2), .int .i64 (rngM (rHi streets) sn 3), .int .i64 (rngM (rHi streets) sn 4), .int .i64 (rngM (rHi streets) sn 5), .int .i64 (rngM (rHi streets) sn 6), .int .i64 (rngM (rHi streets) sn 7), .int .i64 (rngM (rHi streets) sn 8), .int .i64 (rngM (rHi streets) sn 9)] 108 (0, 0))) ?_ ?_
    · refine region_plainR (fun W => Ext w1 W) 8 #[false, false, false, false, false, false, false, false] (by kernel_rfl) (by kernel_rfl) (by kernel_rfl) (fun R HR => ?_)
      have f1 := ext_blk HB1.out
      obtain ⟨W0, hW0⟩ : ∃ W0, w1.drew = W0 := ⟨_, rfl⟩
      rw [hW0]
      have x0 : Ext w1 W0 := by rw [← hW0]; exact (ext_refl w1).drew
      clear hc1 hc2 hW0
      refine takeR (i := 0) (oi := ?_) (v := ?_) ?_ (by kernel_rfl) (by kernel_rfl) (by kernel_rfl) ?_ ?_ (by assumption) ?_
      rotate_left 2
      · simp only [List.getElem?_toArray, List.getElem?_cons_succ, List.getElem?_cons_zero]; rfl
      · kernel_rfl
      · intro Wx hSx
        try dsimp only at hSx
        go_simp
        try with_reducible rfl
      simp only [Act.put, List.setIfInBounds_toArray, List.set_cons_zero, List.set_cons_succ]
      refine takeR (i := 2) (oi := ?_) (v := ?_) ?_ (by kernel_rfl) (by kernel_rfl) (by kernel_rfl) ?_ ?_ (by assumption) ?_
      rotate_left 2
      · simp only [List.getElem?_toArray, List.getElem?_cons_succ, List.getElem?_cons_zero]; rfl
      · kernel_rfl
      · intro Wx hSx
        try dsimp only at hSx
        go_simp
        try with_reducible rfl
      simp only [Act.put, List.setIfInBounds_toArray, List.set_cons_zero, List.set_cons_succ]
      refine wpAnyH_ready (rs := [1, 4, 5]) (by kernel_rfl) (by simp) ?_
      refine AllReadyH.cons (o := ?_) ?_ (fun K hK => ?_) ?_
      rotate_left
      · simp only [List.getElem?_toArray, List.getElem?_cons_succ, List.getElem?_cons_zero]; rfl
      · go_simp
        refine (quick_c _ _ _ wrong start calls T sn sc streets _ (KO.out.rs.ext (ext_trans e1 (x0))) KO.out.s10).mono ?_
        rintro e V1 ⟨rfl, x1⟩
        refine hK.out _ _ (ext_trans x0 x1) (fun hHeld => ?_)
        clear hK K
        simp only [Act.put, List.setIfInBounds_toArray, List.set_cons_zero, List.set_cons_succ]
        refine wpAnyH_ready (rs := [3, 4, 5]) (by kernel_rfl) (by simp) ?_
        refine AllReadyH.cons (o := ?_) ?_ (fun K hK => ?_) ?_
        rotate_left
        · simp only [List.getElem?_toArray, List.getElem?_cons_succ, List.getElem?_cons_zero]; rfl
        · go_simp
          refine (slow_c _ _ _ wrong start calls T sn sc streets _ (KO.out.rs.ext (ext_trans e1 (ext_trans x0 x1))) KO.out.s10).mono ?_
          rintro e V2 ⟨rfl, x2⟩
          refine hK.out _ _ (ext_trans (ext_trans x0 x1) x2) (fun hHeld => ?_)
          clear hK K
          simp only [Act.put, List.setIfInBounds_toArray, List.set_cons_zero, List.set_cons_succ]
          refine wpAnyH_ready (rs := [4, 5]) (by kernel_rfl) (by simp) ?_
          refine AllReadyH.cons (o := ?_) ?_ (fun K hK => ?_) ?_
          rotate_left
          · simp only [List.getElem?_toArray, List.getElem?_cons_succ, List.getElem?_cons_zero]; rfl
          · go_simp
            refine hK.out _ _ (ext_alloc (ext_trans (ext_trans x0 x1) x2) _) (fun hHeld => ?_)
            obtain ⟨V3, hV⟩ : ∃ V, V2.alloc (.cells #[.int .i64 0, .int .i64 0, .int .i64 0, .int .i64 0, .int .i64 0, .int .i64 0, .int .i64 0, .int .i64 0, .int .i64 0, .int .i64 0] 108) = V := ⟨_, rfl⟩
            rw [hV]
            have x3 : Ext V2 V3 := by rw [← hV]; exact ext_alloc (ext_refl _) _
            have b4 : V3.heap[V2.heap.size]? = some (.cells #[.int .i64 0, .int .i64 0, .int .i64 0, .int .i64 0, .int .i64 0, .int .i64 0, .int .i64 0, .int .i64 0, .int .i64 0, .int .i64 0] 108 (0, 0)) := by rw [← hV]; exact heap_alloc_new _ _
            have B4 := hid b4
            have q4 : V2.heap.size < V3.heap.size := (Array.getElem?_eq_some_iff.1 b4).1
            clear hV b4
            clear hK K
            simp only [Act.put, List.setIfInBounds_toArray, List.set_cons_zero, List.set_cons_succ]
            refine wpAnyH_ready (rs := [5]) (by kernel_rfl) (by simp) ?_
            refine AllReadyH.cons (o := ?_) ?_ (fun K hK => ?_) AllReadyH.nil
            rotate_left
            · simp only [List.getElem?_toArray, List.getElem?_cons_succ, List.getElem?_cons_zero]; rfl
            · go_simp
              refine hK.out _ _ (ext_alloc (ext_trans (ext_trans (ext_trans x0 x1) x2) x3) _) (fun hHeld => ?_)
              obtain ⟨V4, hV⟩ : ∃ V, V3.alloc (.cells #[.int .i64 0, .int .i64 0, .int .i64 0, .int .i64 0, .int .i64 0, .int .i64 0, .int .i64 0, .int .i64 0, .int .i64 0, .int .i64 0] 108) = V := ⟨_, rfl⟩
              rw [hV]
              have x4 : Ext V3 V4 := by rw [← hV]; exact ext_alloc (ext_refl _) _
              have b5 : V4.heap[V3.heap.size]? = some (.cells #[.int .i64 0, .int .i64 0, .int .i64 0, .int .i64 0, .int .i64 0, .int .i64 0, .int .i64 0, .int .i64 0, .int .i64 0, .int .i64 0] 108 (0, 0)) := by rw [← hV]; exact heap_alloc_new _ _
              have B5 := hid b5
              have q5 : V3.heap.size < V4.heap.size := (Array.getElem?_eq_some_iff.1 b5).1
              clear hV b5
              clear hK K
              simp only [Act.put, List.setIfInBounds_toArray, List.set_cons_zero, List.set_cons_succ]
              have C4 := hid (ext_blk_keep (x4) B4.out)
              have l4 : w1.heap.size ≤ V2.heap.size := (ext_trans (ext_trans x0 x1) x2).size
              have C5 := hid (B5.out)
              have l5 : w1.heap.size ≤ V3.heap.size := (ext_trans (ext_trans (ext_trans x0 x1) x2) x3).size
              have hlt : V2.heap.size < V3.heap.size := by omega
              have hne : V2.heap.size ≠ V3.heap.size := by omega
              have hne' : V3.heap.size ≠ V2.heap.size := by omega
              have hxx := ext_trans (ext_trans (ext_trans (ext_trans x0 x1) x2) x3) x4
              have cA := blk_cell C4.out
              have zA : ∀ j, V4.frozen? ⟨(V2.heap.size), j, none⟩ = false := fun j => frozen_of_row V4 _ j _ _ C4.out
              refine wpAnyH_ready (rs := [6]) (by kernel_rfl) (by simp) ?_
              refine AllReadyH.cons (o := ?_) ?_ (fun K hK => ?_) AllReadyH.nil
              rotate_left
              · simp only [List.getElem?_toArray, List.getElem?_cons_succ, List.getElem?_cons_zero]; rfl
              go_simp
              refine hK.out _ _ (by go_grown) (fun hHeld => ?_)
              clear hK K
              simp only [Act.put, List.setIfInBounds_toArray, List.set_cons_zero, List.set_cons_succ]
              refine any_gen ?_
              intro U1 hU1
              have bB0 := C5.out
              have bA : U1.heap[(V2.heap.size)]? = some (.cells #[.int .i64 (rngM (rLo streets) sn 0), .int .i64 (rngM (rLo streets) sn 1), .int .i64 (rngM (rLo streets) sn 2), .int .i64 (rngM (rLo streets) sn 3), .int .i64 (rngM (rLo streets) sn 4), .int .i64 (rngM (rLo streets) sn 5), .int .i64 (rngM (rLo streets) sn 6), .int .i64 (rngM (rLo streets) sn 7), .int .i64 (rngM (rLo streets) sn 8), .int .i64 (rngM (rLo streets) sn 9)] 108 (0, 0)) := by rw [hU1]; exact set10 C4.out rfl _ _ _ _ _ _ _ _ _ _
              have bB : U1.heap[(V3.heap.size)]? = some (.cells #[.int .i64 0, .int .i64 0, .int .i64 0, .int .i64 0, .int .i64 0, .int .i64 0, .int .i64 0, .int .i64 0, .int .i64 0, .int .i64 0] 108 (0, 0)) := by rw [hU1]; repeat (first | with_reducible exact bB0 | with_reducible refine heap_set_keep hne' ?_)
              have hxu : Ext w1 U1 := by rw [hU1]; go_grown
              clear hU1 cA zA bB0
              have cB := blk_cell bB
              have zB : ∀ j, U1.frozen? ⟨(V3.heap.size), j, none⟩ = false := fun j => frozen_of_row U1 _ j _ _ bB
              refine wpAnyH_ready (rs := [7]) (by kernel_rfl) (by simp) ?_
              refine AllReadyH.cons (o := ?_) ?_ (fun K hK => ?_) AllReadyH.nil
              rotate_left
              · simp only [List.getElem?_toArray, List.getElem?_cons_succ, List.getElem?_cons_zero]; rfl
              go_simp
              refine hK.out _ _ (by go_grown) (fun hHeld => ?_)
              clear hK K
              simp only [Act.put, List.setIfInBounds_toArray, List.set_cons_zero, List.set_cons_succ]
              refine wpAnyH_done (by kernel_rfl) (HR.out _ _ ⟨rfl, (V2.heap.size), (V3.heap.size), by kernel_rfl, l4, l5, hne, hHeld, ?_, set10 bB rfl _ _ _ _ _ _ _ _ _ _⟩) _
              repeat (first | with_reducible exact bA | with_reducible refine heap_set_keep hne ?_)
          refine AllReadyH.cons (o := ?_) ?_ (fun K hK => ?_) AllReadyH.nil
          rotate_left
          · simp only [List.getElem?_toArray, List.getElem?_cons_succ, List.getElem?_cons_zero]; rfl
          · go_simp
            refine hK.out _ _ (ext_alloc (ext_trans (ext_trans x0 x1) x2) _) (fun hHeld => ?_)
            obtain ⟨V3, hV⟩ : ∃ V, V2.alloc (.cells #[.int .i64 0, .int .i64 0, .int .i64 0, .int .i64 0, .int .i64 0, .int .i64 0, .int .i64 0, .int .i64 0, .int .i64 0, .int .i64 0] 108) = V := ⟨_, rfl⟩
            rw [hV]
            have x3 : Ext V2 V3 := by rw [← hV]; exact ext_alloc (ext_refl _) _
            have b5 : V3.heap[V2.heap.size]? = some (.cells #[.int .i64 0, .int .i64 0, .int .i64 0, .int .i64 0, .int .i64 0, .int .i64 0, .int .i64 0, .int .i64 0, .int .i64 0, .int .i64 0] 108 (0, 0)) := by rw [← hV]; exact heap_alloc_new _ _
            have B5 := hid b5
            have q5 : V2.heap.size < V3.heap.size := (Array.getElem?_eq_some_iff.1 b5).1
            clear hV b5
            clear hK K
            simp only [Act.put, List.setIfInBounds_toArray, List.set_cons_zero, List.set_cons_succ]
            refine wpAnyH_ready (rs := [4]) (by kernel_rfl) (by simp) ?_
            refine AllReadyH.cons (o := ?_) ?_ (fun K hK => ?_) AllReadyH.nil
            rotate_left
            · simp only [List.getElem?_toArray, List.getElem?_cons_succ, List.getElem?_cons_zero]; rfl
            · go_simp
              refine hK.out _ _ (ext_alloc (ext_trans (ext_trans (ext_trans x0 x1) x2) x3) _) (fun hHeld => ?_)
              obtain ⟨V4, hV⟩ : ∃ V, V3.alloc (.cells #[.int .i64 0, .int .i64 0, .int .i64 0, .int .i64 0, .int .i64 0, .int .i64 0, .int .i64 0, .int .i64 0, .int .i64 0, .int .i64 0] 108) = V := ⟨_, rfl⟩
              rw [hV]
              have x4 : Ext V3 V4 := by rw [← hV]; exact ext_alloc (ext_refl _) _
              have b4 : V4.heap[V3.heap.size]? = some (.cells #[.int .i64 0, .int .i64 0, .int .i64 0, .int .i64 0, .int .i64 0, .int .i64 0, .int .i64 0, .int .i64 0, .int .i64 0, .int .i64 0] 108 (0, 0)) := by rw [← hV]; exact heap_alloc_new _ _
              have B4 := hid b4
              have q4 : V3.heap.size < V4.heap.size := (Array.getElem?_eq_some_iff.1 b4).1
              clear hV b4
              clear hK K
              simp only [Act.put, List.setIfInBounds_toArray, List.set_cons_zero, List.set_cons_succ]
              have C4 := hid (B4.out)
              have l4 : w1.heap.size ≤ V3.heap.size := (ext_trans (ext_trans (ext_trans x0 x1) x2) x3).size
              have C5 := hid (ext_blk_keep (x4) B5.out)
              have l5 : w1.heap.size ≤ V2.heap.size := (ext_trans (ext_trans x0 x1) x2).size
              have hlt : V2.heap.size < V3.heap.size := by omega
              have hne : V3.heap.size ≠ V2.heap.size := by omega
              have hne' : V2.heap.size ≠ V3.heap.size := by omega
              have hxx := ext_trans (ext_trans (ext_trans (ext_trans x0 x1) x2) x3) x4
              have cA := blk_cell C4.out
              have zA : ∀ j, V4.frozen? ⟨(V3.heap.size), j, none⟩ = false := fun j => frozen_of_row V4 _ j _ _ C4.out
              refine wpAnyH_ready (rs := [6]) (by kernel_rfl) (by simp) ?_
              refine AllReadyH.cons (o := ?_) ?_ (fun K hK => ?_) AllReadyH.nil
              rotate_left
              · simp only [List.getElem?_toArray, List.getElem?_cons_succ, List.getElem?_cons_zero]; rfl
              go_simp
              refine hK.out _ _ (by go_grown) (fun hHeld => ?_)
              clear hK K
              simp only [Act.put, List.setIfInBounds_toArray, List.set_cons_zero, List.set_cons_succ]
              refine any_gen ?_
              intro U1 hU1
              have bB0 := C5.out
              have bA : U1.heap[(V3.heap.size)]? = some (.cells #[.int .i64 (rngM (rLo streets) sn 0), .int .i64 (rngM (rLo streets) sn 1), .int .i64 (rngM (rLo streets) sn 2), .int .i64 (rngM (rLo streets) sn 3), .int .i64 (rngM (rLo streets) sn 4), .int .i64 (rngM (rLo streets) sn 5), .int .i64 (rngM (rLo streets) sn 6), .int .i64 (rngM (rLo streets) sn 7), .int .i64 (rngM (rLo streets) sn 8), .int .i64 (rngM (rLo streets) sn 9)] 108 (0, 0)) := by rw [hU1]; exact set10 C4.out rfl _ _ _ _ _ _ _ _ _ _
              have bB : U1.heap[(V2.heap.size)]? = some (.cells #[.int .i64 0, .int .i64 0, .int .i64 0, .int .i64 0, .int .i64 0, .int .i64 0, .int .i64 0, .int .i64 0, .int .i64 0, .int .i64 0] 108 (0, 0)) := by rw [hU1]; repeat (first | with_reducible exact bB0 | with_reducible refine heap_set_keep hne' ?_)
              have hxu : Ext w1 U1 := by rw [hU1]; go_grown
              clear hU1 cA zA bB0
              have cB := blk_cell bB
              have zB : ∀ j, U1.frozen? ⟨(V2.heap.size), j, none⟩ = false := fun j => frozen_of_row U1 _ j _ _ bB
              refine wpAnyH_ready (rs := [7]) (by kernel_rfl) (by simp) ?_
              refine AllReadyH.cons (o := ?_) ?_ (fun K hK => ?_) AllReadyH.nil
              rotate_left
              · simp only [List.getElem?_toArray, List.getElem?_cons_succ, List.getElem?_cons_zero]; rfl
              go_simp
              refine hK.out _ _ (by go_grown) (fun hHeld => ?_)
              clear hK K
              simp only [Act.put, List.setIfInBounds_toArray, List.set_cons_zero, List.set_cons_succ]
              refine wpAnyH_done (by kernel_rfl) (HR.out _ _ ⟨rfl, (V3.heap.size), (V2.heap.size), by kernel_rfl, l4, l5, hne, hHeld, ?_, set10 bB rfl _ _ _ _ _ _ _ _ _ _⟩) _
              repeat (first | with_reducible exact bA | with_reducible refine heap_set_keep hne ?_)
        refine AllReadyH.cons (o := ?_) ?_ (fun K hK => ?_) ?_
        rotate_left
        · simp only [List.getElem?_toArray, List.getElem?_cons_succ, List.getElem?_cons_zero]; rfl
        · go_simp
          refine hK.out _ _ (ext_alloc (ext_trans x0 x1) _) (fun hHeld => ?_)
          obtain ⟨V2, hV⟩ : ∃ V, V1.alloc (.cells #[.int .i64 0, .int .i64 0, .int .i64 0, .int .i64 0, .int .i64 0, .int .i64 0, .int .i64 0, .int .i64 0, .int .i64 0, .int .i64 0] 108) = V := ⟨_, rfl⟩
          rw [hV]
          have x2 : Ext V1 V2 := by rw [← hV]; exact ext_alloc (ext_refl _) _
          have b4 : V2.heap[V1.heap.size]? = some (.cells #[.int .i64 0, .int .i64 0, .int .i64 0, .int .i64 0, .int .i64 0, .int .i64 0, .int .i64 0, .int .i64 0, .int .i64 0, .int .i64 0] 108 (0, 0)) := by rw [← hV]; exact heap_alloc_new _ _
          have B4 := hid b4
          have q4 : V1.heap.size < V2.heap.size := (Array.getElem?_eq_some_iff.1 b4).1
          clear hV b4
          clear hK K
          simp only [Act.put, List.setIfInBounds_toArray, List.set_cons_zero, List.set_cons_succ]
          refine wpAnyH_ready (rs := [3, 5]) (by kernel_rfl) (by simp) ?_
          refine AllReadyH.cons (o := ?_) ?_ (fun K hK => ?_) ?_
          rotate_left
          · simp only [List.getElem?_toArray, List.getElem?_cons_succ, List.getElem?_cons_zero]; rfl
          · go_simp
            refine (slow_c _ _ _ wrong start calls T sn sc streets _ (KO.out.rs.ext (ext_trans e1 (ext_trans (ext_trans x0 x1) x2))) KO.out.s10).mono ?_
            rintro e V3 ⟨rfl, x3⟩
            refine hK.out _ _ (ext_trans (ext_trans (ext_trans x0 x1) x2) x3) (fun hHeld => ?_)
            clear hK K
            simp only [Act.put, List.setIfInBounds_toArray, List.set_cons_zero, List.set_cons_succ]
            refine wpAnyH_ready (rs := [5]) (by kernel_rfl) (by simp) ?_
            refine AllReadyH.cons (o := ?_) ?_ (fun K hK => ?_) AllReadyH.nil
            rotate_left
            · simp only [List.getElem?_toArray, List.getElem?_cons_succ, List.getElem?_cons_zero]; rfl
            · go_simp
              refine hK.out _ _ (ext_alloc (ext_trans (ext_trans (ext_trans x0 x1) x2) x3) _) (fun hHeld => ?_)
              obtain ⟨V4, hV⟩ : ∃ V, V3.alloc (.cells #[.int .i64 0, .int .i64 0, .int .i64 0, .int .i64 0, .int .i64 0, .int .i64 0, .int .i64 0, .int .i64 0, .int .i64 0, .int .i64 0] 108) = V := ⟨_, rfl⟩
              rw [hV]
              have x4 : Ext V3 V4 := by rw [← hV]; exact ext_alloc (ext_refl _) _
              have b5 : V4.heap[V3.heap.size]? = some (.cells #[.int .i64 0, .int .i64 0, .int .i64 0, .int .i64 0, .int .i64 0, .int .i64 0, .int .i64 0, .int .i64 0, .int .i64 0, .int .i64 0] 108 (0, 0)) := by rw [← hV]; exact heap_alloc_new _ _
              have B5 := hid b5
              have q5 : V3.heap.size < V4.heap.size := (Array.getElem?_eq_some_iff.1 b5).1
              clear hV b5
              clear hK K
              simp only [Act.put, List.setIfInBounds_toArray, List.set_cons_zero, List.set_cons_succ]
              have C4 := hid (ext_blk_keep (ext_trans x3 x4) B4.out)
              have l4 : w1.heap.size ≤ V1.heap.size := (ext_trans x0 x1).size
              have C5 := hid (B5.out)
              have l5 : w1.heap.size ≤ V3.heap.size := (ext_trans (ext_trans (ext_trans x0 x1) x2) x3).size
              have q6 := (x3).size
              have hlt : V1.heap.size < V3.heap.size := by omega
              have hne : V1.heap.size ≠ V3.heap.size := by omega
              have hne' : V3.heap.size ≠ V1.heap.size := by omega
              have hxx := ext_trans (ext_trans (ext_trans (ext_trans x0 x1) x2) x3) x4
              have cA := blk_cell C4.out
              have zA : ∀ j, V4.frozen? ⟨(V1.heap.size), j, none⟩ = false := fun j => frozen_of_row V4 _ j _ _ C4.out
              refine wpAnyH_ready (rs := [6]) (by kernel_rfl) (by simp) ?_
              refine AllReadyH.cons (o := ?_) ?_ (fun K hK => ?_) AllReadyH.nil
              rotate_left
              · simp only [List.getElem?_toArray, List.getElem?_cons_succ, List.getElem?_cons_zero]; rfl
              go_simp
              refine hK.out _ _ (by go_grown) (fun hHeld => ?_)
              clear hK K
              simp only [Act.put, List.setIfInBounds_toArray, List.set_cons_zero, List.set_cons_succ]
              refine any_gen ?_
              intro U1 hU1
              have bB0 := C5.out
              have bA : U1.heap[(V1.heap.size)]? = some (.cells #[.int .i64 (rngM (rLo streets) sn 0), .int .i64 (rngM (rLo streets) sn 1), .int .i64 (rngM (rLo streets) sn 2), .int .i64 (rngM (rLo streets) sn 3), .int .i64 (rngM (rLo streets) sn 4), .int .i64 (rngM (rLo streets) sn 5), .int .i64 (rngM (rLo streets) sn 6), .int .i64 (rngM (rLo streets) sn 7), .int .i64 (rngM (rLo streets) sn 8), .int .i64 (rngM (rLo streets) sn 9)] 108 (0, 0)) := by rw [hU1]; exact set10 C4.out rfl _ _ _ _ _ _ _ _ _ _
              have bB : U1.heap[(V3.heap.size)]? = some (.cells #[.int .i64 0, .int .i64 0, .int .i64 0, .int .i64 0, .int .i64 0, .int .i64 0, .int .i64 0, .int .i64 0, .int .i64 0, .int .i64 0] 108 (0, 0)) := by rw [hU1]; repeat (first | with_reducible exact bB0 | with_reducible refine heap_set_keep hne' ?_)
              have hxu : Ext w1 U1 := by rw [hU1]; go_grown
              clear hU1 cA zA bB0
              have cB := blk_cell bB
              have zB : ∀ j, U1.frozen? ⟨(V3.heap.size), j, none⟩ = false := fun j => frozen_of_row U1 _ j _ _ bB
              refine wpAnyH_ready (rs := [7]) (by kernel_rfl) (by simp) ?_
              refine AllReadyH.cons (o := ?_) ?_ (fun K hK => ?_) AllReadyH.nil
              rotate_left
              · simp only [List.getElem?_toArray, List.getElem?_cons_succ, List.getElem?_cons_zero]; rfl
              go_simp
              refine hK.out _ _ (by go_grown) (fun hHeld => ?_)
              clear hK K
              simp only [Act.put, List.setIfInBounds_toArray, List.set_cons_zero, List.set_cons_succ]
              refine wpAnyH_done (by kernel_rfl) (HR.out _ _ ⟨rfl, (V1.heap.size), (V3.heap.size), by kernel_rfl, l4, l5, hne, hHeld, ?_, set10 bB rfl _ _ _ _ _ _ _ _ _ _⟩) _
              repeat (first | with_reducible exact bA | with_reducible refine heap_set_keep hne ?_)
          refine AllReadyH.cons (o := ?_) ?_ (fun K hK => ?_) AllReadyH.nil
          rotate_left
          · simp only [List.getElem?_toArray, List.getElem?_cons_succ, List.getElem?_cons_zero]; rfl
          · go_simp
            refine hK.out _ _ (ext_alloc (ext_trans (ext_trans x0 x1) x2) _) (fun hHeld => ?_)
            obtain ⟨V3, hV⟩ : ∃ V, V2.alloc (.cells #[.int .i64 0, .int .i64 0, .int .i64 0, .int .i64 0, .int .i64 0, .int .i64 0, .int .i64 0, .int .i64 0, .int .i64 0, .int .i64 0] 108) = V := ⟨_, rfl⟩
            rw [hV]
            have x3 : Ext V2 V3 := by rw [← hV]; exact ext_alloc (ext_refl _) _
            have b5 : V3.heap[V2.heap.size]? = some (.cells #[.int .i64 0, .int .i64 0, .int .i64 0, .int .i64 0, .int .i64 0, .int .i64 0, .int .i64 0, .int .i64 0, .int .i64 0, .int .i64 0] 108 (0, 0)) := by rw [← hV]; exact heap_alloc_new _ _
            have B5 := hid b5
            have q5 : V2.heap.size < V3.heap.size := (Array.getElem?_eq_some_iff.1 b5).1
            clear hV b5
            clear hK K
            simp only [Act.put, List.setIfInBounds_toArray, List.set_cons_zero, List.set_cons_succ]
            refine wpAnyH_ready (rs := [3]) (by kernel_rfl) (by simp) ?_
            refine AllReadyH.cons (o := ?_) ?_ (fun K hK => ?_) AllReadyH.nil
            rotate_left
            · simp only [List.getElem?_toArray, List.getElem?_cons_succ, List.getElem?_cons_zero]; rfl
            · go_simp
              refine (slow_c _ _ _ wrong start calls T sn sc streets _ (KO.out.rs.ext (ext_trans e1 (ext_trans (ext_trans (ext_trans x0 x1) x2) x3))) KO.out.s10).mono ?_
              rintro e V4 ⟨rfl, x4⟩
              refine hK.out _ _ (ext_trans (ext_trans (ext_trans (ext_trans x0 x1) x2) x3) x4) (fun hHeld => ?_)
              clear hK K
              simp only [Act.put, List.setIfInBounds_toArray, List.set_cons_zero, List.set_cons_succ]
              have C4 := hid (ext_blk_keep (ext_trans x3 x4) B4.out)
              have l4 : w1.heap.size ≤ V1.heap.size := (ext_trans x0 x1).size
              have C5 := hid (ext_blk_keep (x4) B5.out)
              have l5 : w1.heap.size ≤ V2.heap.size := (ext_trans (ext_trans x0 x1) x2).size
              have hlt : V1.heap.size < V2.heap.size := by omega
              have hne : V1.heap.size ≠ V2.heap.size := by omega
              have hne' : V2.heap.size ≠ V1.heap.size := by omega
              have hxx := ext_trans (ext_trans (ext_trans (ext_trans x0 x1) x2) x3) x4
              have cA := blk_cell C4.out
              have zA : ∀ j, V4.frozen? ⟨(V1.heap.size), j, none⟩ = false := fun j => frozen_of_row V4 _ j _ _ C4.out
              refine wpAnyH_ready (rs := [6]) (by kernel_rfl) (by simp) ?_
              refine AllReadyH.cons (o := ?_) ?_ (fun K hK => ?_) AllReadyH.nil
              rotate_left
              · simp only [List.getElem?_toArray, List.getElem?_cons_succ, List.getElem?_cons_zero]; rfl
              go_simp
              refine hK.out _ _ (by go_grown) (fun hHeld => ?_)
              clear hK K
              simp only [Act.put, List.setIfInBounds_toArray, List.set_cons_zero, List.set_cons_succ]
              refine any_gen ?_
              intro U1 hU1
              have bB0 := C5.out
              have bA : U1.heap[(V1.heap.size)]? = some (.cells #[.int .i64 (rngM (rLo streets) sn 0), .int .i64 (rngM (rLo streets) sn 1), .int .i64 (rngM (rLo streets) sn 2), .int .i64 (rngM (rLo streets) sn 3), .int .i64 (rngM (rLo streets) sn 4), .int .i64 (rngM (rLo streets) sn 5), .int .i64 (rngM (rLo streets) sn 6), .int .i64 (rngM (rLo streets) sn 7), .int .i64 (rngM (rLo streets) sn 8), .int .i64 (rngM (rLo streets) sn 9)] 108 (0, 0)) := by rw [hU1]; exact set10 C4.out rfl _ _ _ _ _ _ _ _ _ _
              have bB : U1.heap[(V2.heap.size)]? = some (.cells #[.int .i64 0, .int .i64 0, .int .i64 0, .int .i64 0, .int .i64 0, .int .i64 0, .int .i64 0, .int .i64 0, .int .i64 0, .int .i64 0] 108 (0, 0)) := by rw [hU1]; repeat (first | with_reducible exact bB0 | with_reducible refine heap_set_keep hne' ?_)
              have hxu : Ext w1 U1 := by rw [hU1]; go_grown
              clear hU1 cA zA bB0
              have cB := blk_cell bB
              have zB : ∀ j, U1.frozen? ⟨(V2.heap.size), j, none⟩ = false := fun j => frozen_of_row U1 _ j _ _ bB
              refine wpAnyH_ready (rs := [7]) (by kernel_rfl) (by simp) ?_
              refine AllReadyH.cons (o := ?_) ?_ (fun K hK => ?_) AllReadyH.nil
              rotate_left
              · simp only [List.getElem?_toArray, List.getElem?_cons_succ, List.getElem?_cons_zero]; rfl
              go_simp
              refine hK.out _ _ (by go_grown) (fun hHeld => ?_)
              clear hK K
              simp only [Act.put, List.setIfInBounds_toArray, List.set_cons_zero, List.set_cons_succ]
              refine wpAnyH_done (by kernel_rfl) (HR.out _ _ ⟨rfl, (V1.heap.size), (V2.heap.size), by kernel_rfl, l4, l5, hne, hHeld, ?_, set10 bB rfl _ _ _ _ _ _ _ _ _ _⟩) _
              repeat (first | with_reducible exact bA | with_reducible refine heap_set_keep hne ?_)
        refine AllReadyH.cons (o := ?_) ?_ (fun K hK => ?_) AllReadyH.nil
        rotate_left
        · simp only [List.getElem?_toArray, List.getElem?_cons_succ, List.getElem?_cons_zero]; rfl
        · go_simp
          refine hK.out _ _ (ext_alloc (ext_trans x0 x1) _) (fun hHeld => ?_)
          obtain ⟨V2, hV⟩ : ∃ V, V1.alloc (.cells #[.int .i64 0, .int .i64 0, .int .i64 0, .int .i64 0, .int .i64 0, .int .i64 0, .int .i64 0, .int .i64 0, .int .i64 0, .int .i64 0] 108) = V := ⟨_, rfl⟩
          rw [hV]
          have x2 : Ext V1 V2 := by rw [← hV]; exact ext_alloc (ext_refl _) _
          have b5 : V2.heap[V1.heap.size]? = some (.cells #[.int .i64 0, .int .i64 0, .int .i64 0, .int .i64 0, .int .i64 0, .int .i64 0, .int .i64 0, .int .i64 0, .int .i64 0, .int .i64 0] 108 (0, 0)) := by rw [← hV]; exact heap_alloc_new _ _
          have B5 := hid b5
          have q5 : V1.heap.size < V2.heap.size := (Array.getElem?_eq_some_iff.1 b5).1
          clear hV b5
          clear hK K
          simp only [Act.put, List.setIfInBounds_toArray, List.set_cons_zero, List.set_cons_succ]
          refine wpAnyH_ready (rs := [3, 4]) (by kernel_rfl) (by simp) ?_
          refine AllReadyH.cons (o := ?_) ?_ (fun K hK => ?_) ?_
          rotate_left
          · simp only [List.getElem?_toArray, List.getElem?_cons_succ, List.getElem?_cons_zero]; rfl
          · go_simp
            refine (slow_c _ _ _ wrong start calls T sn sc streets _ (KO.out.rs.ext (ext_trans e1 (ext_trans (ext_trans x0 x1) x2))) KO.out.s10).mono ?_
            rintro e V3 ⟨rfl, x3⟩
            refine hK.out _ _ (ext_trans (ext_trans (ext_trans x0 x1) x2) x3) (fun hHeld => ?_)
            clear hK K
            simp only [Act.put, List.setIfInBounds_toArray, List.set_cons_zero, List.set_cons_succ]
            refine wpAnyH_ready (rs := [4]) (by kernel_rfl) (by simp) ?_
            refine AllReadyH.cons (o := ?_) ?_ (fun K hK => ?_) AllReadyH.nil
            rotate_left
            · simp only [List.getElem?_toArray, List.getElem?_cons_succ, List.getElem?_cons_zero]; rfl
            · go_simp
              refine hK.out _ _ (ext_alloc (ext_trans (ext_trans (ext_trans x0 x1) x2) x3) _) (fun hHeld => ?_)
              obtain ⟨V4, hV⟩ : ∃ V, V3.alloc (.cells #[.int .i64 0, .int .i64 0, .int .i64 0, .int .i64 0, .int .i64 0, .int .i64 0, .int .i64 0, .int .i64 0, .int .i64 0, .int .i64 0] 108) = V := ⟨_, rfl⟩
              rw [hV]
              have x4 : Ext V3 V4 := by rw [← hV]; exact ext_alloc (ext_refl _) _
              have b4 : V4.heap[V3.heap.size]? = some (.cells #[.int .i64 0, .int .i64 0, .int .i64 0, .int .i64 0, .int .i64 0, .int .i64 0, .int .i64 0, .int .i64 0, .int .i64 0, .int .i64 0] 108 (0, 0)) := by rw [← hV]; exact heap_alloc_new _ _
              have B4 := hid b4
              have q4 : V3.heap.size < V4.heap.size := (Array.getElem?_eq_some_iff.1 b4).1
              clear hV b4
              clear hK K
              simp only [Act.put, List.setIfInBounds_toArray, List.set_cons_zero, List.set_cons_succ]
              have C4 := hid (B4.out)
              have l4 : w1.heap.size ≤ V3.heap.size := (ext_trans (ext_trans (ext_trans x0 x1) x2) x3).size
              have C5 := hid (ext_blk_keep (ext_trans x3 x4) B5.out)
              have l5 : w1.heap.size ≤ V1.heap.size := (ext_trans x0 x1).size
              have q6 := (x3).size
              have hlt : V1.heap.size < V3.heap.size := by omega
              have hne : V3.heap.size ≠ V1.heap.size := by omega
              have hne' : V1.heap.size ≠ V3.heap.size := by omega
              have hxx := ext_trans (ext_trans (ext_trans (ext_trans x0 x1) x2) x3) x4
              have cA := blk_cell C4.out
              have zA : ∀ j, V4.frozen? ⟨(V3.heap.size), j, none⟩ = false := fun j => frozen_of_row V4 _ j _ _ C4.out
              refine wpAnyH_ready (rs := [6]) (by kernel_rfl) (by simp) ?_
              refine AllReadyH.cons (o := ?_) ?_ (fun K hK => ?_) AllReadyH.nil
              rotate_left
              · simp only [List.getElem?_toArray, List.getElem?_cons_succ, List.getElem?_cons_zero]; rfl
              go_simp
              refine hK.out _ _ (by go_grown) (fun hHeld => ?_)
              clear hK K
              simp only [Act.put, List.setIfInBounds_toArray, List.set_cons_zero, List.set_cons_succ]
              refine any_gen ?_
              intro U1 hU1
              have bB0 := C5.out
              have bA : U1.heap[(V3.heap.size)]? = some (.cells #[.int .i64 (rngM (rLo streets) sn 0), .int .i64 (rngM (rLo streets) sn 1), .int .i64 (rngM (rLo streets) sn 2), .int .i64 (rngM (rLo streets) sn 3), .int .i64 (rngM (rLo streets) sn 4), .int .i64 (rngM (rLo streets) sn 5), .int .i64 (rngM (rLo streets) sn 6), .int .i64 (rngM (rLo streets) sn 7), .int .i64 (rngM (rLo streets) sn 8), .int .i64 (rngM (rLo streets) sn 9)] 108 (0, 0)) := by rw [hU1]; exact set10 C4.out rfl _ _ _ _ _ _ _ _ _ _
              have bB : U1.heap[(V1.heap.size)]? = some (.cells #[.int .i64 0, .int .i64 0, .int .i64 0, .int .i64 0, .int .i64 0, .int .i64 0, .int .i64 0, .int .i64 0, .int .i64 0, .int .i64 0] 108 (0, 0)) := by rw [hU1]; repeat (first | with_reducible exact bB0 | with_reducible refine heap_set_keep hne' ?_)
              have hxu : Ext w1 U1 := by rw [hU1]; go_grown
              clear hU1 cA zA bB0
              have cB := blk_cell bB
              have zB : ∀ j, U1.frozen? ⟨(V1.heap.size), j, none⟩ = false := fun j => frozen_of_row U1 _ j _ _ bB
              refine wpAnyH_ready (rs := [7]) (by kernel_rfl) (by simp) ?_
              refine AllReadyH.cons (o := ?_) ?_ (fun K hK => ?_) AllReadyH.nil
              rotate_left
              · simp only [List.getElem?_toArray, List.getElem?_cons_succ, List.getElem?_cons_zero]; rfl
              go_simp
              refine hK.out _ _ (by go_grown) (fun hHeld => ?_)
              clear hK K
              simp only [Act.put, List.setIfInBounds_toArray, List.set_cons_zero, List.set_cons_succ]
              refine wpAnyH_done (by kernel_rfl) (HR.out _ _ ⟨rfl, (V3.heap.size), (V1.heap.size), by kernel_rfl, l4, l5, hne, hHeld, ?_, set10 bB rfl _ _ _ _ _ _ _ _ _ _⟩) _
              repeat (first | with_reducible exact bA | with_reducible refine heap_set_keep hne ?_)
          refine AllReadyH.cons (o := ?_) ?_ (fun K hK => ?_) AllReadyH.nil
          rotate_left
          · simp only [List.getElem?_toArray, List.getElem?_cons_succ, List.getElem?_cons_zero]; rfl
          · go_simp
            refine hK.out _ _ (ext_alloc (ext_trans (ext_trans x0 x1) x2) _) (fun hHeld => ?_)
            obtain ⟨V3, hV⟩ : ∃ V, V2.alloc (.cells #[.int .i64 0, .int .i64 0, .int .i64 0, .int .i64 0, .int .i64 0, .int .i64 0, .int .i64 0, .int .i64 0, .int .i64 0, .int .i64 0] 108) = V := ⟨_, rfl⟩
            rw [hV]
            have x3 : Ext V2 V3 := by rw [← hV]; exact ext_alloc (ext_refl _) _
            have b4 : V3.heap[V2.heap.size]? = some (.cells #[.int .i64 0, .int .i64 0, .int .i64 0, .int .i64 0, .int .i64 0, .int .i64 0, .int .i64 0, .int .i64 0, .int .i64 0, .int .i64 0] 108 (0, 0)) := by rw [← hV]; exact heap_alloc_new _ _
            have B4 := hid b4
            have q4 : V2.heap.size < V3.heap.size := (Array.getElem?_eq_some_iff.1 b4).1
            clear hV b4
            clear hK K
            simp only [Act.put, List.setIfInBounds_toArray, List.set_cons_zero, List.set_cons_succ]
            refine wpAnyH_ready (rs := [3]) (by kernel_rfl) (by simp) ?_
            refine AllReadyH.cons (o := ?_) ?_ (fun K hK => ?_) AllReadyH.nil
            rotate_left
            · simp only [List.getElem?_toArray, List.getElem?_cons_succ, List.getElem?_cons_zero]; rfl
            · go_simp
              refine (slow_c _ _ _ wrong start calls T sn sc streets _ (KO.out.rs.ext (ext_trans e1 (ext_trans (ext_trans (ext_trans x0 x1) x2) x3))) KO.out.s10).mono ?_
              rintro e V4 ⟨rfl, x4⟩
              refine hK.out _ _ (ext_trans (ext_trans (ext_trans (ext_trans x0 x1) x2) x3) x4) (fun hHeld => ?_)
              clear hK K
              simp only [Act.put, List.setIfInBounds_toArray, List.set_cons_zero, List.set_cons_succ]
              have C4 := hid (ext_blk_keep (x4) B4.out)
              have l4 : w1.heap.size ≤ V2.heap.size := (ext_trans (ext_trans x0 x1) x2).size
              have C5 := hid (ext_blk_keep (ext_trans x3 x4) B5.out)
              have l5 : w1.heap.size ≤ V1.heap.size := (ext_trans x0 x1).size
              have hlt : V1.heap.size < V2.heap.size := by omega
              have hne : V2.heap.size ≠ V1.heap.size := by omega
              have hne' : V1.heap.size ≠ V2.heap.size := by omega
              have hxx := ext_trans (ext_trans (ext_trans (ext_trans x0 x1) x2) x3) x4
              have cA := blk_cell C4.out
              have zA : ∀ j, V4.frozen? ⟨(V2.heap.size), j, none⟩ = false := fun j => frozen_of_row V4 _ j _ _ C4.out
              refine wpAnyH_ready (rs := [6]) (by kernel_rfl) (by simp) ?_
              refine AllReadyH.cons (o := ?_) ?_ (fun K hK => ?_) AllReadyH.nil
              rotate_left
              · simp only [List.getElem?_toArray, List.getElem?_cons_succ, List.getElem?_cons_zero]; rfl
              go_simp
              refine hK.out _ _ (by go_grown) (fun hHeld => ?_)
              clear hK K
              simp only [Act.put, List.setIfInBounds_toArray, List.set_cons_zero, List.set_cons_succ]
              refine any_gen ?_
              intro U1 hU1
              have bB0 := C5.out
              have bA : U1.heap[(V2.heap.size)]? = some (.cells #[.int .i64 (rngM (rLo streets) sn 0), .int .i64 (rngM (rLo streets) sn 1), .int .i64 (rngM (rLo streets) sn 2), .int .i64 (rngM (rLo streets) sn 3), .int .i64 (rngM (rLo streets) sn 4), .int .i64 (rngM (rLo streets) sn 5), .int .i64 (rngM (rLo streets) sn 6), .int .i64 (rngM (rLo streets) sn 7), .int .i64 (rngM (rLo streets) sn 8), .int .i64 (rngM (rLo streets) sn 9)] 108 (0, 0)) := by rw [hU1]; exact set10 C4.out rfl _ _ _ _ _ _ _ _ _ _
              have bB : U1.heap[(V1.heap.size)]? = some (.cells #[.int .i64 0, .int .i64 0, .int .i64 0, .int .i64 0, .int .i64 0, .int .i64 0, .int .i64 0, .int .i64 0, .int .i64 0, .int .i64 0] 108 (0, 0)) := by rw [hU1]; repeat (first | with_reducible exact bB0 | with_reducible refine heap_set_keep hne' ?_)
              have hxu : Ext w1 U1 := by rw [hU1]; go_grown
              clear hU1 cA zA bB0
              have cB := blk_cell bB
              have zB : ∀ j, U1.frozen? ⟨(V1.heap.size), j, none⟩ = false := fun j => frozen_of_row U1 _ j _ _ bB
              refine wpAnyH_ready (rs := [7]) (by kernel_rfl) (by simp) ?_
              refine AllReadyH.cons (o := ?_) ?_ (fun K hK => ?_) AllReadyH.nil
              rotate_left
              · simp only [List.getElem?_toArray, List.getElem?_cons_succ, List.getElem?_cons_zero]; rfl
              go_simp
              refine hK.out _ _ (by go_grown) (fun hHeld => ?_)
              clear hK K
              simp only [Act.put, List.setIfInBounds_toArray, List.set_cons_zero, List.set_cons_succ]
              refine wpAnyH_done (by kernel_rfl) (HR.out _ _ ⟨rfl, (V2.heap.size), (V1.heap.size), by kernel_rfl, l4, l5, hne, hHeld, ?_, set10 bB rfl _ _ _ _ _ _ _ _ _ _⟩) _
              repeat (first | with_reducible exact bA | with_reducible refine heap_set_keep hne ?_)
      refine AllReadyH.cons (o := ?_) ?_ (fun K hK => ?_) ?_
      rotate_left
      · simp only [List.getElem?_toArray, List.getElem?_cons_succ, List.getElem?_cons_zero]; rfl
      · go_simp
        refine hK.out _ _ (ext_alloc (x0) _) (fun hHeld => ?_)
        obtain ⟨V1, hV⟩ : ∃ V, W0.alloc (.cells #[.int .i64 0, .int .i64 0, .int .i64 0, .int .i64 0, .int .i64 0, .int .i64 0, .int .i64 0, .int .i64 0, .int .i64 0, .int .i64 0] 108) = V := ⟨_, rfl⟩
        rw [hV]
        have x1 : Ext W0 V1 := by rw [← hV]; exact ext_alloc (ext_refl _) _
        have b4 : V1.heap[W0.heap.size]? = some (.cells #[.int .i64 0, .int .i64 0, .int .i64 0, .int .i64 0, .int .i64 0, .int .i64 0, .int .i64 0, .int .i64 0, .int .i64 0, .int .i64 0] 108 (0, 0)) := by rw [← hV]; exact heap_alloc_new _ _
        have B4 := hid b4
        have q4 : W0.heap.size < V1.heap.size := (Array.getElem?_eq_some_iff.1 b4).1
        clear hV b4
        clear hK K
        simp only [Act.put, List.setIfInBounds_toArray, List.set_cons_zero, List.set_cons_succ]
        refine wpAnyH_ready (rs := [1, 5]) (by kernel_rfl) (by simp) ?_
        refine AllReadyH.cons (o := ?_) ?_ (fun K hK => ?_) ?_
        rotate_left
        · simp only [List.getElem?_toArray, List.getElem?_cons_succ, List.getElem?_cons_zero]; rfl
        · go_simp
          refine (quick_c _ _ _ wrong start calls T sn sc streets _ (KO.out.rs.ext (ext_trans e1 (ext_trans x0 x1))) KO.out.s10).mono ?_
          rintro e V2 ⟨rfl, x2⟩
          refine hK.out _ _ (ext_trans (ext_trans x0 x1) x2) (fun hHeld => ?_)
          clear hK K
          simp only [Act.put, List.setIfInBounds_toArray, List.set_cons_zero, List.set_cons_succ]
          refine wpAnyH_ready (rs := [3, 5]) (by kernel_rfl) (by simp) ?_
          refine AllReadyH.cons (o := ?_) ?_ (fun K hK => ?_) ?_
          rotate_left
          · simp only [List.getElem?_toArray, List.getElem?_cons_succ, List.getElem?_cons_zero]; rfl
          · go_simp
            refine (slow_c _ _ _ wrong start calls T sn sc streets _ (KO.out.rs.ext (ext_trans e1 (ext_trans (ext_trans x0 x1) x2))) KO.out.s10).mono ?_
            rintro e V3 ⟨rfl, x3⟩
            refine hK.out _ _ (ext_trans (ext_trans (ext_trans x0 x1) x2) x3) (fun hHeld => ?_)
            clear hK K
            simp only [Act.put, List.setIfInBounds_toArray, List.set_cons_zero, List.set_cons_succ]
            refine wpAnyH_ready (rs := [5]) (by kernel_rfl) (by simp) ?_
            refine AllReadyH.cons (o := ?_) ?_ (fun K hK => ?_) AllReadyH.nil
            rotate_left
            · simp only [List.getElem?_toArray, List.getElem?_cons_succ, List.getElem?_cons_zero]; rfl
            · go_simp
              refine hK.out _ _ (ext_alloc (ext_trans (ext_trans (ext_trans x0 x1) x2) x3) _) (fun hHeld => ?_)
              obtain ⟨V4, hV⟩ : ∃ V, V3.alloc (.cells #[.int .i64 0, .int .i64 0, .int .i64 0, .int .i64 0, .int .i64 0, .int .i64 0, .int .i64 0, .int .i64 0, .int .i64 0, .int .i64 0] 108) = V := ⟨_, rfl⟩
              rw [hV]
              have x4 : Ext V3 V4 := by rw [← hV]; exact ext_alloc (ext_refl _) _
              have b5 : V4.heap[V3.heap.size]? = some (.cells #[.int .i64 0, .int .i64 0, .int .i64 0, .int .i64 0, .int .i64 0, .int .i64 0, .int .i64 0, .int .i64 0, .int .i64 0, .int .i64 0] 108 (0, 0)) := by rw [← hV]; exact heap_alloc_new _ _
              have B5 := hid b5
              have q5 : V3.heap.size < V4.heap.size := (Array.getElem?_eq_some_iff.1 b5).1
              clear hV b5
              clear hK K
              simp only [Act.put, List.setIfInBounds_toArray, List.set_cons_zero, List.set_cons_succ]
              have C4 := hid (ext_blk_keep (ext_trans (ext_trans x2 x3) x4) B4.out)
              have l4 : w1.heap.size ≤ W0.heap.size := (x0).size
              have C5 := hid (B5.out)
              have l5 : w1.heap.size ≤ V3.heap.size := (ext_trans (ext_trans (ext_trans x0 x1) x2) x3).size
              have q6 := (ext_trans x2 x3).size
              have hlt : W0.heap.size < V3.heap.size := by omega
              have hne : W0.heap.size ≠ V3.heap.size := by omega
              have hne' : V3.heap.size ≠ W0.heap.size := by omega
              have hxx := ext_trans (ext_trans (ext_trans (ext_trans x0 x1) x2) x3) x4
              have cA := blk_cell C4.out
              have zA : ∀ j, V4.frozen? ⟨(W0.heap.size), j, none⟩ = false := fun j => frozen_of_row V4 _ j _ _ C4.out
              refine wpAnyH_ready (rs := [6]) (by kernel_rfl) (by simp) ?_
              refine AllReadyH.cons (o := ?_) ?_ (fun K hK => ?_) AllReadyH.nil
              rotate_left
              · simp only [List.getElem?_toArray, List.getElem?_cons_succ, List.getElem?_cons_zero]; rfl
              go_simp
              refine hK.out _ _ (by go_grown) (fun hHeld => ?_)
              clear hK K
              simp only [Act.put, List.setIfInBounds_toArray, List.set_cons_zero, List.set_cons_succ]
              refine any_gen ?_
              intro U1 hU1
              have bB0 := C5.out
              have bA : U1.heap[(W0.heap.size)]? = some (.cells #[.int .i64 (rngM (rLo streets) sn 0), .int .i64 (rngM (rLo streets) sn 1), .int .i64 (rngM (rLo streets) sn 2), .int .i64 (rngM (rLo streets) sn 3), .int .i64 (rngM (rLo streets) sn 4), .int .i64 (rngM (rLo streets) sn 5), .int .i64 (rngM (rLo streets) sn 6), .int .i64 (rngM (rLo streets) sn 7), .int .i64 (rngM (rLo streets) sn 8), .int .i64 (rngM (rLo streets) sn 9)] 108 (0, 0)) := by rw [hU1]; exact set10 C4.out rfl _ _ _ _ _ _ _ _ _ _
              have bB : U1.heap[(V3.heap.size)]? = some (.cells #[.int .i64 0, .int .i64 0, .int .i64 0, .int .i64 0, .int .i64 0, .int .i64 0, .int .i64 0, .int .i64 0, .int .i64 0, .int .i64 0] 108 (0, 0)) := by rw [hU1]; repeat (first | with_reducible exact bB0 | with_reducible refine heap_set_keep hne' ?_)
              have hxu : Ext w1 U1 := by rw [hU1]; go_grown
              clear hU1 cA zA bB0
              have cB := blk_cell bB
              have zB : ∀ j, U1.frozen? ⟨(V3.heap.size), j, none⟩ = false := fun j => frozen_of_row U1 _ j _ _ bB
              refine wpAnyH_ready (rs := [7]) (by kernel_rfl) (by simp) ?_
              refine AllReadyH.cons (o := ?_) ?_ (fun K hK => ?_) AllReadyH.nil
              rotate_left
              · simp only [List.getElem?_toArray, List.getElem?_cons_succ, List.getElem?_cons_zero]; rfl
              go_simp
              refine hK.out _ _ (by go_grown) (fun hHeld => ?_)
              clear hK K
              simp only [Act.put, List.setIfInBounds_toArray, List.set_cons_zero, List.set_cons_succ]
              refine wpAnyH_done (by kernel_rfl) (HR.out _ _ ⟨rfl, (W0.heap.size), (V3.heap.size), by kernel_rfl, l4, l5, hne, hHeld, ?_, set10 bB rfl _ _ _ _ _ _ _ _ _ _⟩) _
              repeat (first | with_reducible exact bA | with_reducible refine heap_set_keep hne ?_)
          refine AllReadyH.cons (o := ?_) ?_ (fun K hK => ?_) AllReadyH.nil
          rotate_left
          · simp only [List.getElem?_toArray, List.getElem?_cons_succ, List.getElem?_cons_zero]; rfl
          · go_simp
            refine hK.out _ _ (ext_alloc (ext_trans (ext_trans x0 x1) x2) _) (fun hHeld => ?_)
            obtain ⟨V3, hV⟩ : ∃ V, V2.alloc (.cells #[.int .i64 0, .int .i64 0, .int .i64 0, .int .i64 0, .int .i64 0, .int .i64 0, .int .i64 0, .int .i64 0, .int .i64 0, .int .i64 0] 108) = V := ⟨_, rfl⟩
            rw [hV]
            have x3 : Ext V2 V3 := by rw [← hV]; exact ext_alloc (ext_refl _) _
            have b5 : V3.heap[V2.heap.size]? = some (.cells #[.int .i64 0, .int .i64 0, .int .i64 0, .int .i64 0, .int .i64 0, .int .i64 0, .int .i64 0, .int .i64 0, .int .i64 0, .int .i64 0] 108 (0, 0)) := by rw [← hV]; exact heap_alloc_new _ _
            have B5 := hid b5
            have q5 : V2.heap.size < V3.heap.size := (Array.getElem?_eq_some_iff.1 b5).1
            clear hV b5
            clear hK K
            simp only [Act.put, List.setIfInBounds_toArray, List.set_cons_zero, List.set_cons_succ]
            refine wpAnyH_ready (rs := [3]) (by kernel_rfl) (by simp) ?_
            refine AllReadyH.cons (o := ?_) ?_ (fun K hK => ?_) AllReadyH.nil
            rotate_left
            · simp only [List.getElem?_toArray, List.getElem?_cons_succ, List.getElem?_cons_zero]; rfl
            · go_simp
              refine (slow_c _ _ _ wrong start calls T sn sc streets _ (KO.out.rs.ext (ext_trans e1 (ext_trans (ext_trans (ext_trans x0 x1) x2) x3))) KO.out.s10).mono ?_
              rintro e V4 ⟨rfl, x4⟩
              refine hK.out _ _ (ext_trans (ext_trans (ext_trans (ext_trans x0 x1) x2) x3) x4) (fun hHeld => ?_)
              clear hK K
              simp only [Act.put, List.setIfInBounds_toArray, List.set_cons_zero, List.set_cons_succ]
              have C4 := hid (ext_blk_keep (ext_trans (ext_trans x2 x3) x4) B4.out)
              have l4 : w1.heap.size ≤ W0.heap.size := (x0).size
              have C5 := hid (ext_blk_keep (x4) B5.out)
              have l5 : w1.heap.size ≤ V2.heap.size := (ext_trans (ext_trans x0 x1) x2).size
              have q6 := (x2).size
              have hlt : W0.heap.size < V2.heap.size := by omega
              have hne : W0.heap.size ≠ V2.heap.size := by omega
              have hne' : V2.heap.size ≠ W0.heap.size := by omega
              have hxx := ext_trans (ext_trans (ext_trans (ext_trans x0 x1) x2) x3) x4
              have cA := blk_cell C4.out
              have zA : ∀ j, V4.frozen? ⟨(W0.heap.size), j, none⟩ = false := fun j => frozen_of_row V4 _ j _ _ C4.out
              refine wpAnyH_ready (rs := [6]) (by kernel_rfl) (by simp) ?_
              refine AllReadyH.cons (o := ?_) ?_ (fun K hK => ?_) AllReadyH.nil
              rotate_left
              · simp only [List.getElem?_toArray, List.getElem?_cons_succ, List.getElem?_cons_zero]; rfl
              go_simp
              refine hK.out _ _ (by go_grown) (fun hHeld => ?_)
              clear hK K
              simp only [Act.put, List.setIfInBounds_toArray, List.set_cons_zero, List.set_cons_succ]
              refine any_gen ?_
              intro U1 hU1
              have bB0 := C5.out
              have bA : U1.heap[(W0.heap.size)]? = some (.cells #[.int .i64 (rngM (rLo streets) sn 0), .int .i64 (rngM (rLo streets) sn 1), .int .i64 (rngM (rLo streets) sn 2), .int .i64 (rngM (rLo streets) sn 3), .int .i64 (rngM (rLo streets) sn 4), .int .i64 (rngM (rLo streets) sn 5), .int .i64 (rngM (rLo streets) sn 6), .int .i64 (rngM (rLo streets) sn 7), .int .i64 (rngM (rLo streets) sn 8), .int .i64 (rngM (rLo streets) sn 9)] 108 (0, 0)) := by rw [hU1]; exact set10 C4.out rfl _ _ _ _ _ _ _ _ _ _
              have bB : U1.heap[(V2.heap.size)]? = some (.cells #[.int .i64 0, .int .i64 0, .int .i64 0, .int .i64 0, .int .i64 0, .int .i64 0, .int .i64 0, .int .i64 0, .int .i64 0, .int .i64 0] 108 (0, 0)) := by rw [hU1]; repeat (first | with_reducible exact bB0 | with_reducible refine heap_set_keep hne' ?_)
              have hxu : Ext w1 U1 := by rw [hU1]; go_grown
              clear hU1 cA zA bB0
              have cB := blk_cell bB
              have zB : ∀ j, U1.frozen? ⟨(V2.heap.size), j, none⟩ = false := fun j => frozen_of_row U1 _ j _ _ bB
              refine wpAnyH_ready (rs := [7]) (by kernel_rfl) (by simp) ?_
              refine AllReadyH.cons (o := ?_) ?_ (fun K hK => ?_) AllReadyH.nil
              rotate_left
              · simp only [List.getElem?_toArray, List.getElem?_cons_succ, List.getElem?_cons_zero]; rfl
              go_simp
              refine hK.out _ _ (by go_grown) (fun hHeld => ?_)
              clear hK K
              simp only [Act.put, List.setIfInBounds_toArray, List.set_cons_zero, List.set_cons_succ]
              refine wpAnyH_done (by kernel_rfl) (HR.out _ _ ⟨rfl, (W0.heap.size), (V2.heap.size), by kernel_rfl, l4, l5, hne, hHeld, ?_, set10 bB rfl _ _ _ _ _ _ _ _ _ _⟩) _
              repeat (first | with_reducible exact bA | with_reducible refine heap_set_keep hne ?_)
        refine AllReadyH.cons (o := ?_) ?_ (fun K hK => ?_) AllReadyH.nil
        rotate_left
        · simp only [List.getElem?_toArray, List.getElem?_cons_succ, List.getElem?_cons_zero]; rfl
        · go_simp
          refine hK.out _ _ (ext_alloc (ext_trans x0 x1) _) (fun hHeld => ?_)
          obtain ⟨V2, hV⟩ : ∃ V, V1.alloc (.cells #[.int .i64 0, .int .i64 0, .int .i64 0, .int .i64 0, .int .i64 0, .int .i64 0, .int .i64 0, .int .i64 0, .int .i64 0, .int .i64 0] 108) = V := ⟨_, rfl⟩
          rw [hV]
          have x2 : Ext V1 V2 := by rw [← hV]; exact ext_alloc (ext_refl _) _
          have b5 : V2.heap[V1.heap.size]? = some (.cells #[.int .i64 0, .int .i64 0, .int .i64 0, .int .i64 0, .int .i64 0, .int .i64 0, .int .i64 0, .int .i64 0, .int .i64 0, .int .i64 0] 108 (0, 0)) := by rw [← hV]; exact heap_alloc_new _ _
          have B5 := hid b5
          have q5 : V1.heap.size < V2.heap.size := (Array.getElem?_eq_some_iff.1 b5).1
          clear hV b5
          clear hK K
          simp only [Act.put, List.setIfInBounds_toArray, List.set_cons_zero, List.set_cons_succ]
          refine wpAnyH_ready (rs := [1]) (by kernel_rfl) (by simp) ?_
          refine AllReadyH.cons (o := ?_) ?_ (fun K hK => ?_) AllReadyH.nil
          rotate_left
          · simp only [List.getElem?_toArray, List.getElem?_cons_succ, List.getElem?_cons_zero]; rfl
          · go_simp
            refine (quick_c _ _ _ wrong start calls T sn sc streets _ (KO.out.rs.ext (ext_trans e1 (ext_trans (ext_trans x0 x1) x2))) KO.out.s10).mono ?_
            rintro e V3 ⟨rfl, x3⟩
            refine hK.out _ _ (ext_trans (ext_trans (ext_trans x0 x1) x2) x3) (fun hHeld => ?_)
            clear hK K
            simp only [Act.put, List.setIfInBounds_toArray, List.set_cons_zero, List.set_cons_succ]
            refine wpAnyH_ready (rs := [3]) (by kernel_rfl) (by simp) ?_
            refine AllReadyH.cons (o := ?_) ?_ (fun K hK => ?_) AllReadyH.nil
            rotate_left
            · simp only [List.getElem?_toArray, List.getElem?_cons_succ, List.getElem?_cons_zero]; rfl
            · go_simp
              refine (slow_c _ _ _ wrong start calls T sn sc streets _ (KO.out.rs.ext (ext_trans e1 (ext_trans (ext_trans (ext_trans x0 x1) x2) x3))) KO.out.s10).mono ?_
              rintro e V4 ⟨rfl, x4⟩
              refine hK.out _ _ (ext_trans (ext_trans (ext_trans (ext_trans x0 x1) x2) x3) x4) (fun hHeld => ?_)
              clear hK K
              simp only [Act.put, List.setIfInBounds_toArray, List.set_cons_zero, List.set_cons_succ]
              have C4 := hid (ext_blk_keep (ext_trans (ext_trans x2 x3) x4) B4.out)
              have l4 : w1.heap.size ≤ W0.heap.size := (x0).size
              have C5 := hid (ext_blk_keep (ext_trans x3 x4) B5.out)
              have l5 : w1.heap.size ≤ V1.heap.size := (ext_trans x0 x1).size
              have hlt : W0.heap.size < V1.heap.size := by omega
              have hne : W0.heap.size ≠ V1.heap.size := by omega
              have hne' : V1.heap.size ≠ W0.heap.size := by omega
              have hxx := ext_trans (ext_trans (ext_trans (ext_trans x0 x1) x2) x3) x4
              have cA := blk_cell C4.out
              have zA : ∀ j, V4.frozen? ⟨(W0.heap.size), j, none⟩ = false := fun j => frozen_of_row V4 _ j _ _ C4.out
              refine wpAnyH_ready (rs := [6]) (by kernel_rfl) (by simp) ?_
              refine AllReadyH.cons (o := ?_) ?_ (fun K hK => ?_) AllReadyH.nil
              rotate_left
              · simp only [List.getElem?_toArray, List.getElem?_cons_succ, List.getElem?_cons_zero]; rfl
              go_simp
              refine hK.out _ _ (by go_grown) (fun hHeld => ?_)
              clear hK K
              simp only [Act.put, List.setIfInBounds_toArray, List.set_cons_zero, List.set_cons_succ]
              refine any_gen ?_
              intro U1 hU1
              have bB0 := C5.out
              have bA : U1.heap[(W0.heap.size)]? = some (.cells #[.int .i64 (rngM (rLo streets) sn 0), .int .i64 (rngM (rLo streets) sn 1), .int .i64 (rngM (rLo streets) sn 2), .int .i64 (rngM (rLo streets) sn 3), .int .i64 (rngM (rLo streets) sn 4), .int .i64 (rngM (rLo streets) sn 5), .int .i64 (rngM (rLo streets) sn 6), .int .i64 (rngM (rLo streets) sn 7), .int .i64 (rngM (rLo streets) sn 8), .int .i64 (rngM (rLo streets) sn 9)] 108 (0, 0)) := by rw [hU1]; exact set10 C4.out rfl _ _ _ _ _ _ _ _ _ _
              have bB : U1.heap[(V1.heap.size)]? = some (.cells #[.int .i64 0, .int .i64 0, .int .i64 0, .int .i64 0, .int .i64 0, .int .i64 0, .int .i64 0, .int .i64 0, .int .i64 0, .int .i64 0] 108 (0, 0)) := by rw [hU1]; repeat (first | with_reducible exact bB0 | with_reducible refine heap_set_keep hne' ?_)
              have hxu : Ext w1 U1 := by rw [hU1]; go_grown
              clear hU1 cA zA bB0
              have cB := blk_cell bB
              have zB : ∀ j, U1.frozen? ⟨(V1.heap.size), j, none⟩ = false := fun j => frozen_of_row U1 _ j _ _ bB
              refine wpAnyH_ready (rs := [7]) (by kernel_rfl) (by simp) ?_
              refine AllReadyH.cons (o := ?_) ?_ (fun K hK => ?_) AllReadyH.nil
              rotate_left
              · simp only [List.getElem?_toArray, List.getElem?_cons_succ, List.getElem?_cons_zero]; rfl
              go_simp
              refine hK.out _ _ (by go_grown) (fun hHeld => ?_)
              clear hK K
              simp only [Act.put, List.setIfInBounds_toArray, List.set_cons_zero, List.set_cons_succ]
              refine wpAnyH_done (by kernel_rfl) (HR.out _ _ ⟨rfl, (W0.heap.size), (V1.heap.size), by kernel_rfl, l4, l5, hne, hHeld, ?_, set10 bB rfl _ _ _ _ _ _ _ _ _ _⟩) _
              repeat (first | with_reducible exact bA | with_reducible refine heap_set_keep hne ?_)
      refine AllReadyH.cons (o := ?_) ?_ (fun K hK => ?_) AllReadyH.nil
      rotate_left
      · simp only [List.getElem?_toArray, List.getElem?_cons_succ, List.getElem?_cons_zero]; rfl
      · go_simp
        refine hK.out _ _ (ext_alloc (x0) _) (fun hHeld => ?_)
        obtain ⟨V1, hV⟩ : ∃ V, W0.alloc (.cells #[.int .i64 0, .int .i64 0, .int .i64 0, .int .i64 0, .int .i64 0, .int .i64 0, .int .i64 0, .int .i64 0, .int .i64 0, .int .i64 0] 108) = V := ⟨_, rfl⟩
        rw [hV]
        have x1 : Ext W0 V1 := by rw [← hV]; exact ext_alloc (ext_refl _) _
        have b5 : V1.heap[W0.heap.size]? = some (.cells #[.int .i64 0, .int .i64 0, .int .i64 0, .int .i64 0, .int .i64 0, .int .i64 0, .int .i64 0, .int .i64 0, .int .i64 0, .int .i64 0] 108 (0, 0)) := by rw [← hV]; exact heap_alloc_new _ _
        have B5 := hid b5
        have q5 : W0.heap.size < V1.heap.size := (Array.getElem?_eq_some_iff.1 b5).1
        clear hV b5
        clear hK K
        simp only [Act.put, List.setIfInBounds_toArray, List.set_cons_zero, List.set_cons_succ]
        refine wpAnyH_ready (rs := [1, 4]) (by kernel_rfl) (by simp) ?_
        refine AllReadyH.cons (o := ?_) ?_ (fun K hK => ?_) ?_
        rotate_left
        · simp only [List.getElem?_toArray, List.getElem?_cons_succ, List.getElem?_cons_zero]; rfl
        · go_simp
          refine (quick_c _ _ _ wrong start calls T sn sc streets _ (KO.out.rs.ext (ext_trans e1 (ext_trans x0 x1))) KO.out.s10).mono ?_
          rintro e V2 ⟨rfl, x2⟩
          refine hK.out _ _ (ext_trans (ext_trans x0 x1) x2) (fun hHeld => ?_)
          clear hK K
          simp only [Act.put, List.setIfInBounds_toArray, List.set_cons_zero, List.set_cons_succ]
          refine wpAnyH_ready (rs := [3, 4]) (by kernel_rfl) (by simp) ?_
          refine AllReadyH.cons (o := ?_) ?_ (fun K hK => ?_) ?_
          rotate_left
          · simp only [List.getElem?_toArray, List.getElem?_cons_succ, List.getElem?_cons_zero]; rfl
          · go_simp
            refine (slow_c _ _ _ wrong start calls T sn sc streets _ (KO.out.rs.ext (ext_trans e1 (ext_trans (ext_trans x0 x1) x2))) KO.out.s10).mono ?_
            rintro e V3 ⟨rfl, x3⟩
            refine hK.out _ _ (ext_trans (ext_trans (ext_trans x0 x1) x2) x3) (fun hHeld => ?_)
            clear hK K
            simp only [Act.put, List.setIfInBounds_toArray, List.set_cons_zero, List.set_cons_succ]
            refine wpAnyH_ready (rs := [4]) (by kernel_rfl) (by simp) ?_
            refine AllReadyH.cons (o := ?_) ?_ (fun K hK => ?_) AllReadyH.nil
            rotate_left
            · simp only [List.getElem?_toArray, List.getElem?_cons_succ, List.getElem?_cons_zero]; rfl
            · go_simp
              refine hK.out _ _ (ext_alloc (ext_trans (ext_trans (ext_trans x0 x1) x2) x3) _) (fun hHeld => ?_)
              obtain ⟨V4, hV⟩ : ∃ V, V3.alloc (.cells #[.int .i64 0, .int .i64 0, .int .i64 0, .int .i64 0, .int .i64 0, .int .i64 0, .int .i64 0, .int .i64 0, .int .i64 0, .int .i64 0] 108) = V := ⟨_, rfl⟩
              rw [hV]
              have x4 : Ext V3 V4 := by rw [← hV]; exact ext_alloc (ext_refl _) _
              have b4 : V4.heap[V3.heap.size]? = some (.cells #[.int .i64 0, .int .i64 0, .int .i64 0, .int .i64 0, .int .i64 0, .int .i64 0, .int .i64 0, .int .i64 0, .int .i64 0, .int .i64 0] 108 (0, 0)) := by rw [← hV]; exact heap_alloc_new _ _
              have B4 := hid b4
              have q4 : V3.heap.size < V4.heap.size := (Array.getElem?_eq_some_iff.1 b4).1
              clear hV b4
              clear hK K
              simp only [Act.put, List.setIfInBounds_toArray, List.set_cons_zero, List.set_cons_succ]
              have C4 := hid (B4.out)
              have l4 : w1.heap.size ≤ V3.heap.size := (ext_trans (ext_trans (ext_trans x0 x1) x2) x3).size
              have C5 := hid (ext_blk_keep (ext_trans (ext_trans x2 x3) x4) B5.out)
              have l5 : w1.heap.size ≤ W0.heap.size := (x0).size
              have q6 := (ext_trans x2 x3).size
              have hlt : W0.heap.size < V3.heap.size := by omega
              have hne : V3.heap.size ≠ W0.heap.size := by omega
              have hne' : W0.heap.size ≠ V3.heap.size := by omega
              have hxx := ext_trans (ext_trans (ext_trans (ext_trans x0 x1) x2) x3) x4
              have cA := blk_cell C4.out
              have zA : ∀ j, V4.frozen? ⟨(V3.heap.size), j, none⟩ = false := fun j => frozen_of_row V4 _ j _ _ C4.out
              refine wpAnyH_ready (rs := [6]) (by kernel_rfl) (by simp) ?_
              refine AllReadyH.cons (o := ?_) ?_ (fun K hK => ?_) AllReadyH.nil
              rotate_left
              · simp only [List.getElem?_toArray, List.getElem?_cons_succ, List.getElem?_cons_zero]; rfl
              go_simp
              refine hK.out _ _ (by go_grown) (fun hHeld => ?_)
              clear hK K
              simp only [Act.put, List.setIfInBounds_toArray, List.set_cons_zero, List.set_cons_succ]
              refine any_gen ?_
              intro U1 hU1
              have bB0 := C5.out
              have bA : U1.heap[(V3.heap.size)]? = some (.cells #[.int .i64 (rngM (rLo streets) sn 0), .int .i64 (rngM (rLo streets) sn 1), .int .i64 (rngM (rLo streets) sn 2), .int .i64 (rngM (rLo streets) sn 3), .int .i64 (rngM (rLo streets) sn 4), .int .i64 (rngM (rLo streets) sn 5), .int .i64 (rngM (rLo streets) sn 6), .int .i64 (rngM (rLo streets) sn 7), .int .i64 (rngM (rLo streets) sn 8), .int .i64 (rngM (rLo streets) sn 9)] 108 (0, 0)) := by rw [hU1]; exact set10 C4.out rfl _ _ _ _ _ _ _ _ _ _
              have bB : U1.heap[(W0.heap.size)]? = some (.cells #[.int .i64 0, .int .i64 0, .int .i64 0, .int .i64 0, .int .i64 0, .int .i64 0, .int .i64 0, .int .i64 0, .int .i64 0, .int .i64 0] 108 (0, 0)) := by rw [hU1]; repeat (first | with_reducible exact bB0 | with_reducible refine heap_set_keep hne' ?_)
              have hxu : Ext w1 U1 := by rw [hU1]; go_grown
              clear hU1 cA zA bB0
              have cB := blk_cell bB
              have zB : ∀ j, U1.frozen? ⟨(W0.heap.size), j, none⟩ = false := fun j => frozen_of_row U1 _ j _ _ bB
              refine wpAnyH_ready (rs := [7]) (by kernel_rfl) (by simp) ?_
              refine AllReadyH.cons (o := ?_) ?_ (fun K hK => ?_) AllReadyH.nil
              rotate_left
              · simp only [List.getElem?_toArray, List.getElem?_cons_succ, List.getElem?_cons_zero]; rfl
              go_simp
              refine hK.out _ _ (by go_grown) (fun hHeld => ?_)
              clear hK K
              simp only [Act.put, List.setIfInBounds_toArray, List.set_cons_zero, List.set_cons_succ]
              refine wpAnyH_done (by kernel_rfl) (HR.out _ _ ⟨rfl, (V3.heap.size), (W0.heap.size), by kernel_rfl, l4, l5, hne, hHeld, ?_, set10 bB rfl _ _ _ _ _ _ _ _ _ _⟩) _
              repeat (first | with_reducible exact bA | with_reducible refine heap_set_keep hne ?_)
          refine AllReadyH.cons (o := ?_) ?_ (fun K hK => ?_) AllReadyH.nil
          rotate_left
          · simp only [List.getElem?_toArray, List.getElem?_cons_succ, List.getElem?_cons_zero]; rfl
          · go_simp
            refine hK.out _ _ (ext_alloc (ext_trans (ext_trans x0 x1) x2) _) (fun hHeld => ?_)
            obtain ⟨V3, hV⟩ : ∃ V, V2.alloc (.cells #[.int .i64 0, .int .i64 0, .int .i64 0, .int .i64 0, .int .i64 0, .int .i64 0, .int .i64 0, .int .i64 0, .int .i64 0, .int .i64 0] 108) = V := ⟨_, rfl⟩
            rw [hV]
            have x3 : Ext V2 V3 := by rw [← hV]; exact ext_alloc (ext_refl _) _
            have b4 : V3.heap[V2.heap.size]? = some (.cells #[.int .i64 0, .int .i64 0, .int .i64 0, .int .i64 0, .int .i64 0, .int .i64 0, .int .i64 0, .int .i64 0, .int .i64 0, .int .i64 0] 108 (0, 0)) := by rw [← hV]; exact heap_alloc_new _ _
            have B4 := hid b4
            have q4 : V2.heap.size < V3.heap.size := (Array.getElem?_eq_some_iff.1 b4).1
            clear hV b4
            clear hK K
            simp only [Act.put, List.setIfInBounds_toArray, List.set_cons_zero, List.set_cons_succ]
            refine wpAnyH_ready (rs := [3]) (by kernel_rfl) (by simp) ?_
            refine AllReadyH.cons (o := ?_) ?_ (fun K hK => ?_) AllReadyH.nil
            rotate_left
            · simp only [List.getElem?_toArray, List.getElem?_cons_succ, List.getElem?_cons_zero]; rfl
            · go_simp
              refine (slow_c _ _ _ wrong start calls T sn sc streets _ (KO.out.rs.ext (ext_trans e1 (ext_trans (ext_trans (ext_trans x0 x1) x2) x3))) KO.out.s10).mono ?_
              rintro e V4 ⟨rfl, x4⟩
              refine hK.out _ _ (ext_trans (ext_trans (ext_trans (ext_trans x0 x1) x2) x3) x4) (fun hHeld => ?_)
              clear hK K
              simp only [Act.put, List.setIfInBounds_toArray, List.set_cons_zero, List.set_cons_succ]
              have C4 := hid (ext_blk_keep (x4) B4.out)
              have l4 : w1.heap.size ≤ V2.heap.size := (ext_trans (ext_trans x0 x1) x2).size
              have C5 := hid (ext_blk_keep (ext_trans (ext_trans x2 x3) x4) B5.out)
              have l5 : w1.heap.size ≤ W0.heap.size := (x0).size
              have q6 := (x2).size
              have hlt : W0.heap.size < V2.heap.size := by omega
              have hne : V2.heap.size ≠ W0.heap.size := by omega
              have hne' : W0.heap.size ≠ V2.heap.size := by omega
              have hxx := ext_trans (ext_trans (ext_trans (ext_trans x0 x1) x2) x3) x4
              have cA := blk_cell C4.out
              have zA : ∀ j, V4.frozen? ⟨(V2.heap.size), j, none⟩ = false := fun j => frozen_of_row V4 _ j _ _ C4.out
              refine wpAnyH_ready (rs := [6]) (by kernel_rfl) (by simp) ?_
              refine AllReadyH.cons (o := ?_) ?_ (fun K hK => ?_) AllReadyH.nil
              rotate_left
              · simp only [List.getElem?_toArray, List.getElem?_cons_succ, List.getElem?_cons_zero]; rfl
              go_simp
              refine hK.out _ _ (by go_grown) (fun hHeld => ?_)
              clear hK K
              simp only [Act.put, List.setIfInBounds_toArray, List.set_cons_zero, List.set_cons_succ]
              refine any_gen ?_
              intro U1 hU1
              have bB0 := C5.out
              have bA : U1.heap[(V2.heap.size)]? = some (.cells #[.int .i64 (rngM (rLo streets) sn 0), .int .i64 (rngM (rLo streets) sn 1), .int .i64 (rngM (rLo streets) sn 2), .int .i64 (rngM (rLo streets) sn 3), .int .i64 (rngM (rLo streets) sn 4), .int .i64 (rngM (rLo streets) sn 5), .int .i64 (rngM (rLo streets) sn 6), .int .i64 (rngM (rLo streets) sn 7), .int .i64 (rngM (rLo streets) sn 8), .int .i64 (rngM (rLo streets) sn 9)] 108 (0, 0)) := by rw [hU1]; exact set10 C4.out rfl _ _ _ _ _ _ _ _ _ _
              have bB : U1.heap[(W0.heap.size)]? = some (.cells #[.int .i64 0, .int .i64 0, .int .i64 0, .int .i64 0, .int .i64 0, .int .i64 0, .int .i64 0, .int .i64 0, .int .i64 0, .int .i64 0] 108 (0, 0)) := by rw [hU1]; repeat (first | with_reducible exact bB0 | with_reducible refine heap_set_keep hne' ?_)
              have hxu : Ext w1 U1 := by rw [hU1]; go_grown
              clear hU1 cA zA bB0
              have cB := blk_cell bB
              have zB : ∀ j, U1.frozen? ⟨(W0.heap.size), j, none⟩ = false := fun j => frozen_of_row U1 _ j _ _ bB
              refine wpAnyH_ready (rs := [7]) (by kernel_rfl) (by simp) ?_
              refine AllReadyH.cons (o := ?_) ?_ (fun K hK => ?_) AllReadyH.nil
              rotate_left
              · simp only [List.getElem?_toArray, List.getElem?_cons_succ, List.getElem?_cons_zero]; rfl
              go_simp
              refine hK.out _ _ (by go_grown) (fun hHeld => ?_)
              clear hK K
              simp only [Act.put, List.setIfInBounds_toArray, List.set_cons_zero, List.set_cons_succ]
              refine wpAnyH_done (by kernel_rfl) (HR.out _ _ ⟨rfl, (V2.heap.size), (W0.heap.size), by kernel_rfl, l4, l5, hne, hHeld, ?_, set10 bB rfl _ _ _ _ _ _ _ _ _ _⟩) _
              repeat (first | with_reducible exact bA | with_reducible refine heap_set_keep hne ?_)
        refine AllReadyH.cons (o := ?_) ?_ (fun K hK => ?_) AllReadyH.nil
        rotate_left
        · simp only [List.getElem?_toArray, List.getElem?_cons_succ, List.getElem?_cons_zero]; rfl
        · go_simp
          refine hK.out _ _ (ext_alloc (ext_trans x0 x1) _) (fun hHeld => ?_)
          obtain ⟨V2, hV⟩ : ∃ V, V1.alloc (.cells #[.int .i64 0, .int .i64 0, .int .i64 0, .int .i64 0, .int .i64 0, .int .i64 0, .int .i64 0, .int .i64 0, .int .i64 0, .int .i64 0] 108) = V := ⟨_, rfl⟩
          rw [hV]
          have x2 : Ext V1 V2 := by rw [← hV]; exact ext_alloc (ext_refl _) _
          have b4 : V2.heap[V1.heap.size]? = some (.cells #[.int .i64 0, .int .i64 0, .int .i64 0, .int .i64 0, .int .i64 0, .int .i64 0, .int .i64 0, .int .i64 0, .int .i64 0, .int .i64 0] 108 (0, 0)) := by rw [← hV]; exact heap_alloc_new _ _
          have B4 := hid b4
          have q4 : V1.heap.size < V2.heap.size := (Array.getElem?_eq_some_iff.1 b4).1
          clear hV b4
          clear hK K
          simp only [Act.put, List.setIfInBounds_toArray, List.set_cons_zero, List.set_cons_succ]
          refine wpAnyH_ready (rs := [1]) (by kernel_rfl) (by simp) ?_
          refine AllReadyH.cons (o := ?_) ?_ (fun K hK => ?_) AllReadyH.nil
          rotate_left
          · simp only [List.getElem?_toArray, List.getElem?_cons_succ, List.getElem?_cons_zero]; rfl
          · go_simp
            refine (quick_c _ _ _ wrong start calls T sn sc streets _ (KO.out.rs.ext (ext_trans e1 (ext_trans (ext_trans x0 x1) x2))) KO.out.s10).mono ?_
            rintro e V3 ⟨rfl, x3⟩
            refine hK.out _ _ (ext_trans (ext_trans (ext_trans x0 x1) x2) x3) (fun hHeld => ?_)
            clear hK K
            simp only [Act.put, List.setIfInBounds_toArray, List.set_cons_zero, List.set_cons_succ]
            refine wpAnyH_ready (rs := [3]) (by kernel_rfl) (by simp) ?_
            refine AllReadyH.cons (o := ?_) ?_ (fun K hK => ?_) AllReadyH.nil
            rotate_left
            · simp only [List.getElem?_toArray, List.getElem?_cons_succ, List.getElem?_cons_zero]; rfl
            · go_simp
              refine (slow_c _ _ _ wrong start calls T sn sc streets _ (KO.out.rs.ext (ext_trans e1 (ext_trans (ext_trans (ext_trans x0 x1) x2) x3))) KO.out.s10).mono ?_
              rintro e V4 ⟨rfl, x4⟩
              refine hK.out _ _ (ext_trans (ext_trans (ext_trans (ext_trans x0 x1) x2) x3) x4) (fun hHeld => ?_)
              clear hK K
              simp only [Act.put, List.setIfInBounds_toArray, List.set_cons_zero, List.set_cons_succ]
              have C4 := hid (ext_blk_keep (ext_trans x3 x4) B4.out)
              have l4 : w1.heap.size ≤ V1.heap.size := (ext_trans x0 x1).size
              have C5 := hid (ext_blk_keep (ext_trans (ext_trans x2 x3) x4) B5.out)
              have l5 : w1.heap.size ≤ W0.heap.size := (x0).size
              have hlt : W0.heap.size < V1.heap.size := by omega
              have hne : V1.heap.size ≠ W0.heap.size := by omega
              have hne' : W0.heap.size ≠ V1.heap.size := by omega
              have hxx := ext_trans (ext_trans (ext_trans (ext_trans x0 x1) x2) x3) x4
              have cA := blk_cell C4.out
              have zA : ∀ j, V4.frozen? ⟨(V1.heap.size), j, none⟩ = false := fun j => frozen_of_row V4 _ j _ _ C4.out
              refine wpAnyH_ready (rs := [6]) (by kernel_rfl) (by simp) ?_
              refine AllReadyH.cons (o := ?_) ?_ (fun K hK => ?_) AllReadyH.nil
              rotate_left
              · simp only [List.getElem?_toArray, List.getElem?_cons_succ, List.getElem?_cons_zero]; rfl
              go_simp
              refine hK.out _ _ (by go_grown) (fun hHeld => ?_)
              clear hK K
              simp only [Act.put, List.setIfInBounds_toArray, List.set_cons_zero, List.set_cons_succ]
              refine any_gen ?_
              intro U1 hU1
              have bB0 := C5.out
              have bA : U1.heap[(V1.heap.size)]? = some (.cells #[.int .i64 (rngM (rLo streets) sn 0), .int .i64 (rngM (rLo streets) sn 1), .int .i64 (rngM (rLo streets) sn 2), .int .i64 (rngM (rLo streets) sn 3), .int .i64 (rngM (rLo streets) sn 4), .int .i64 (rngM (rLo streets) sn 5), .int .i64 (rngM (rLo streets) sn 6), .int .i64 (rngM (rLo streets) sn 7), .int .i64 (rngM (rLo streets) sn 8), .int .i64 (rngM (rLo streets) sn 9)] 108 (0, 0)) := by rw [hU1]; exact set10 C4.out rfl _ _ _ _ _ _ _ _ _ _
              have bB : U1.heap[(W0.heap.size)]? = some (.cells #[.int .i64 0, .int .i64 0, .int .i64 0, .int .i64 0, .int .i64 0, .int .i64 0, .int .i64 0, .int .i64 0, .int .i64 0, .int .i64 0] 108 (0, 0)) := by rw [hU1]; repeat (first | with_reducible exact bB0 | with_reducible refine heap_set_keep hne' ?_)
              have hxu : Ext w1 U1 := by rw [hU1]; go_grown
              clear hU1 cA zA bB0
              have cB := blk_cell bB
              have zB : ∀ j, U1.frozen? ⟨(W0.heap.size), j, none⟩ = false := fun j => frozen_of_row U1 _ j _ _ bB
              refine wpAnyH_ready (rs := [7]) (by kernel_rfl) (by simp) ?_
              refine AllReadyH.cons (o := ?_) ?_ (fun K hK => ?_) AllReadyH.nil
              rotate_left
              · simp only [List.getElem?_toArray, List.getElem?_cons_succ, List.getElem?_cons_zero]; rfl
              go_simp
              refine hK.out _ _ (by go_grown) (fun hHeld => ?_)
              clear hK K
              simp only [Act.put, List.setIfInBounds_toArray, List.set_cons_zero, List.set_cons_succ]
              refine wpAnyH_done (by kernel_rfl) (HR.out _ _ ⟨rfl, (V1.heap.size), (W0.heap.size), by kernel_rfl, l4, l5, hne, hHeld, ?_, set10 bB rfl _ _ _ _ _ _ _ _ _ _⟩) _
              repeat (first | with_reducible exact bA | with_reducible refine heap_set_keep hne ?_)
    · rintro a' w2 ⟨B8, B9, rfl, l8, l9, hne, hE2, b8, b9⟩
      simp only [List.setIfInBounds_toArray, List.set_cons_zero, List.set_cons_succ]
      have hE12 := ext_trans e1 hE2
      have HB8 := hid b8
      have HB9 := hid b9
      have c8 := blk_cell b8
      have c9 := blk_cell b9
      have i1 := ext_blk_keep hE2 HB1.out
      have i2 := ext_blk_keep hE2 HB2.out
      have d1 := blk_cell i1
      have d2 := blk_cell i2
      have I2 := hid i2
      have I1 := hid i1
      clear b8 b9 i1 i2 hc1 hc2
      obtain ⟨dd, hdd⟩ : ∃ dd, decide (∀ i ∈ List.range 10, rngM (rLo streets) sn i = rngM (rHi streets) sn i) = dd := ⟨_, rfl⟩
      have heq : ∀ W, (Op.equalIn 10000 108 (.agg #[.int .i64 (rngM (rLo streets) sn 0), .int .i64 (rngM (rLo streets) sn 1), .int .i64 (rngM (rLo streets) sn 2), .int .i64 (rngM (rLo streets) sn 3), .int .i64 (rngM (rLo streets) sn 4), .int .i64 (rngM (rLo streets) sn 5), .int .i64 (rngM (rLo streets) sn 6), .int .i64 (rngM (rLo streets) sn 7), .int .i64 (rngM (rLo streets) sn 8), .int .i64 (rngM (rLo streets) sn 9)]) (.agg #[.int .i64 (rngM (rHi streets) sn 0), .int .i64 (rngM (rHi streets) sn 1), .int .i64 (rngM (rHi streets) sn 2), .int .i64 (rngM (rHi streets) sn 3), .int .i64 (rngM (rHi streets) sn 4), .int .i64 (rngM (rHi streets) sn 5), .int .i64 (rngM (rHi streets) sn 6), .int .i64 (rngM (rHi streets) sn 7), .int .i64 (rngM (rHi streets) sn 8), .int .i64 (rngM (rHi streets) sn 9)])).run Tryz.prog W = .ok dd W := fun W => by rw [eq10 _ _ W, hdd]
      have HDD := hid hdd
      clear hdd
      have TOK : True := trivial
      cases dd
      · go_wp2_with (first
          | (go_at_call 70; have _t1 := TOK; clear TOK; refine (calls_e (KO.out.ext hE12) _ _ wrong calls A wc (rngM (rLo streets) sn) KO.out.quick walk (KW.out.ext hE12) HWK.out).mono ?_; rintro e w3 ⟨lv, rfl, hlv, hE3⟩; obtain ⟨hll, L1, lc1, hle, hLc⟩ := hlv; rw [callsL_len] at hle hLc; subst hle; have hh1 : IsInts w3 (.slice L1 walk.length lc1) (callsL n (rLo home) (rngM (rLo streets) sn) start walk) := ⟨hll, L1, lc1, by rw [callsL_len], by rw [callsL_len]; exact hLc⟩; have HL := hid hh1; have c8' := blk_cell (ext_blk_keep hE3 HB8.out); have c9' := blk_cell (ext_blk_keep hE3 HB9.out); have d1' := blk_cell (ext_blk_keep hE3 I1.out); have d2' := blk_cell (ext_blk_keep hE3 I2.out); clear hLc hll hh1 c8 c9 d1 d2)
          | (go_at_call 70; refine (calls_e (KO.out.ext (ext_trans hE12 hE3)) _ _ wrong calls A wc (rngM (rHi streets) sn) KO.out.slow walk (KW.out.ext (ext_trans hE12 hE3)) HWK.out).mono ?_; rintro e w4 ⟨lv, rfl, hlv, hE4⟩; obtain ⟨hll, L2, lc2, hle, hLc⟩ := hlv; rw [callsL_len] at hle hLc; subst hle; have hh2 : IsInts w4 (.slice L2 walk.length lc2) (callsL n (rLo home) (rngM (rHi streets) sn) start walk) := ⟨hll, L2, lc2, by rw [callsL_len], by rw [callsL_len]; exact hLc⟩; have HH := hid hh2; have HL4 := hid (HL.out.ext hE4); have j2 := ext_blk_keep hE4 (ext_blk_keep hE3 I2.out); have dd2 := blk_cell j2; clear hLc hll hh2 j2))
        have HEW := hid (ext_trans hE12 (ext_trans hE3 hE4))
        clear c8' c9' d1' d2' heq
        go_loopw [12, 41] (fun out i wr => ∃ k : Nat, k ≤ walk.length ∧ i = .int .i64 k ∧ wr.ownsRow w4.heap.size 57 2 out k (rngCells (comesK n home streets start walk k)) ∧ Ext w4 wr) (fun _ i _ => walk.length - (intOf i).toNat)
        case atStart => exact ⟨0, Nat.zero_le _, rfl, own_nil _ _ _ _, ext_refl _⟩
        case round =>
          obtain ⟨k, hk, rfl, hown, hE⟩ := hrel
          by_cases hlt : k < walk.length
          · obtain ⟨lb, lo, hL1, hlc⟩ := HL4.out.at (by omega)
            obtain ⟨hb, ho, hL2, hhc⟩ := HH.out.at (by omega)
            have g1 := ext_cell (hlc k hlt) (ext_refl w4) (Nat.le_refl _)
            have g2 := ext_cell (hhc k hlt) (ext_refl w4) (Nat.le_refl _)
            rw [callsL_at _ _ _ _ _ hlt] at g1 g2
            obtain ⟨ma, hma⟩ : ∃ ma, minAt n (rLo home) (rngM (rLo streets) sn) start walk (k + 1) = ma := ⟨_, rfl⟩
            obtain ⟨mb, hmb⟩ : ∃ mb, minAt n (rLo home) (rngM (rHi streets) sn) start walk (k + 1) = mb := ⟨_, rfl⟩
            rw [hma] at g1
            rw [hmb] at g2
            have HMA := hid hma
            have HMB := hid hmb
            obtain ⟨O, oc, rfl⟩ := own_slice hown
            have hi0 : (0 : Int) ≤ (k : Int) := by omega
            have hi1 : (k : Int) < (walk.length : Int) := by omega
            have HOWN := hid hown
            clear hlc hhc hown hma hmb
            subst hL1; subst hL2
            go_wp2
            go_region_held3 (fun W => Ext w4 W)
              (first | exact Below.drew (by assumption) | assumption | exact ext_trans (by assumption) (by assumption) | exact ext_alloc (by assumption) _ | exact Below.trans (by assumption) (by assumption) | go_grown)
              ((refine step_app_one (W0 := wr) (by rfl) _ _ 39 57 (by rfl) Tryz.underlying39 (.agg #[.int .i64 0, .int .i64 0]) 16 #[.int .i64 ma, .int .i64 mb] (by kernel_rfl) rfl (by simp) (by simp) (by decide) (by simp [Value.oneCell']) w4.heap.size _ k _ (by rfl) HOWN.out (by first | exact ext_alloc (ext_refl wr).drew _ | go_grown) _ (by rfl) (heap_alloc_at _ _ (by simp)) hE.size (by omega) ?_
                intro g cap w6 hown6 hB6 hg6 hor6))
            have e6 : Ext w4 w6 := by assumption
            have hrow : rngCells (comesK n home streets start walk (k + 1)) = rngCells (comesK n home streets start walk k) ++ [.int .i64 ma, .int .i64 mb] := by
              rw [comesK_succ, rngCells_append, KE.out.tl, HMA.out, HMB.out]; rfl
            have HROW := hid hrow
            clear hrow g1 g2
            go_wp2
            go_roundw
            case rel => exact ⟨k + 1, hlt, by go_num, by rw [HROW.out]; exact hown6, e6⟩
            case measure => simp [intOf]; omega
          · obtain rfl : k = walk.length := by omega
            have HOWN := hid hown
            clear hown
            go_wp2
            go_ret2
            refine ⟨_, rfl, ?_, ext_trans HEW.out hE⟩
            rw [comesL, if_pos HCD.out, HNL.out]
            exact own_rngs (comesK_len _ _ _ _ _ _) HOWN.out (by omega)
      · have heqm : ∀ j, j < 10 → rngM (rLo streets) sn j = rngM (rHi streets) sn j := fun j hj => of_decide_eq_true HDD.out j (List.mem_range.2 hj)
        have hcon := callsL_congr (n := n) (lo := rLo home) (start := start) KO.out.n4 HWK.out heqm
        have HCON := hid hcon
        clear heqm hcon
        go_wp2_with (first
          | (go_at_call 70; have _t1 := TOK; clear TOK; refine (calls_e (KO.out.ext hE12) _ _ wrong calls A wc (rngM (rLo streets) sn) KO.out.quick walk (KW.out.ext hE12) HWK.out).mono ?_; rintro e w3 ⟨lv, rfl, hlv, hE3⟩; obtain ⟨hll, L1, lc1, hle, hLc⟩ := hlv; rw [callsL_len] at hle hLc; subst hle; have hh1 : IsInts w3 (.slice L1 walk.length lc1) (callsL n (rLo home) (rngM (rLo streets) sn) start walk) := ⟨hll, L1, lc1, by rw [callsL_len], by rw [callsL_len]; exact hLc⟩; have HL := hid hh1; have c8' := blk_cell (ext_blk_keep hE3 HB8.out); have c9' := blk_cell (ext_blk_keep hE3 HB9.out); have d1' := blk_cell (ext_blk_keep hE3 I1.out); have d2' := blk_cell (ext_blk_keep hE3 I2.out); clear hLc hll hh1 c8 c9 d1 d2))
        have HH := hid (show IsInts w3 (.slice L1 walk.length lc1) (callsL n (rLo home) (rngM (rHi streets) sn) start walk) from by rw [← HCON.out]; exact HL.out)
        have HEW := hid (ext_trans hE12 hE3)
        clear c8' c9' d1' d2' heq
        go_loopw [12, 41] (fun out i wr => ∃ k : Nat, k ≤ walk.length ∧ i = .int .i64 k ∧ wr.ownsRow w3.heap.size 57 2 out k (rngCells (comesK n home streets start walk k)) ∧ Ext w3 wr) (fun _ i _ => walk.length - (intOf i).toNat)
        case atStart => exact ⟨0, Nat.zero_le _, rfl, own_nil _ _ _ _, ext_refl _⟩
        case round =>
          obtain ⟨k, hk, rfl, hown, hE⟩ := hrel
          by_cases hlt : k < walk.length
          · obtain ⟨lb, lo, hL1, hlc⟩ := HL.out.at (by omega)
            obtain ⟨hb, ho, hL2, hhc⟩ := HH.out.at (by omega)
            have g1 := ext_cell (hlc k hlt) (ext_refl w3) (Nat.le_refl _)
            have g2 := ext_cell (hhc k hlt) (ext_refl w3) (Nat.le_refl _)
            rw [callsL_at _ _ _ _ _ hlt] at g1 g2
            obtain ⟨ma, hma⟩ : ∃ ma, minAt n (rLo home) (rngM (rLo streets) sn) start walk (k + 1) = ma := ⟨_, rfl⟩
            obtain ⟨mb, hmb⟩ : ∃ mb, minAt n (rLo home) (rngM (rHi streets) sn) start walk (k + 1) = mb := ⟨_, rfl⟩
            rw [hma] at g1
            rw [hmb] at g2
            have HMA := hid hma
            have HMB := hid hmb
            obtain ⟨O, oc, rfl⟩ := own_slice hown
            have hi0 : (0 : Int) ≤ (k : Int) := by omega
            have hi1 : (k : Int) < (walk.length : Int) := by omega
            have HOWN := hid hown
            clear hlc hhc hown hma hmb
            (subst hL1; injection hL2 with q1; injection q1 with q2 q3; subst q2; subst q3; have hmab : ma = mb := (by have h := congrArg (fun l => at0 l k) HCON.out; simp only [callsL_at _ _ _ _ _ hlt, HMA.out, HMB.out] at h; exact h); subst hmab)
            go_wp2
            go_region_held3 (fun W => Ext w3 W)
              (first | exact Below.drew (by assumption) | assumption | exact ext_trans (by assumption) (by assumption) | exact ext_alloc (by assumption) _ | exact Below.trans (by assumption) (by assumption) | go_grown)
              ((refine step_app_one (W0 := wr) (by rfl) _ _ 39 57 (by rfl) Tryz.underlying39 (.agg #[.int .i64 0, .int .i64 0]) 16 #[.int .i64 ma, .int .i64 ma] (by kernel_rfl) rfl (by simp) (by simp) (by decide) (by simp [Value.oneCell']) w3.heap.size _ k _ (by rfl) HOWN.out (by first | exact ext_alloc (ext_refl wr).drew _ | go_grown) _ (by rfl) (heap_alloc_at _ _ (by simp)) hE.size (by omega) ?_
                intro g cap w6 hown6 hB6 hg6 hor6))
            have e6 : Ext w3 w6 := by assumption
            have hrow : rngCells (comesK n home streets start walk (k + 1)) = rngCells (comesK n home streets start walk k) ++ [.int .i64 ma, .int .i64 ma] := by
              rw [comesK_succ, rngCells_append, KE.out.tl, HMA.out, HMB.out]; rfl
            have HROW := hid hrow
            clear hrow g1 g2
            go_wp2
            go_roundw
            case rel => exact ⟨k + 1, hlt, by go_num, by rw [HROW.out]; exact hown6, e6⟩
            case measure => simp [intOf]; omega
          · obtain rfl : k = walk.length := by omega
            have HOWN := hid hown
            clear hown
            go_wp2
            go_ret2
            refine ⟨_, rfl, ?_, ext_trans HEW.out hE⟩
            rw [comesL, if_pos HCD.out, HNL.out]
            exact own_rngs (comesK_len _ _ _ _ _ _) HOWN.out (by omega)
  · have h0' : (code == 0) = false := beq_eq_false_iff_ne.2 h0
    go_enter Tryz.func31, Tryz.ntmps31
    go_wp2_with (go_at_call 66; refine (wask_no_comes A n wc S pn pc wrong H hn hc T sn sc start calls women pieces home streets _ _ b _ (KE.out.ext (by go_grown)) hcall code HCB h0).mono ?_; rintro e w1 ⟨rfl, hB1⟩)
    go_ret2
    refine ⟨_, rfl, ?_, ext_trans (by go_grown) hB1⟩
    rw [comesL, if_neg (by rw [HCD.out]; exact h0)]
    exact ⟨by simp, none, 0, rfl, fun h => absurd h (by simp)⟩
end
end Go.Proofs.YtlcakmbejjlmeaaGreat
/- The contract of errand's Fewest. -/
set_option linter.unusedVariables false
set_option linter.unusedSimpArgs false
namespace Go.Proofs.YtlcakmbejjlmeaaGreat
open Go.RowKit

def fewP (n : Nat) (moves : List Mov) (k : Nat) : Bool := (walksFrom n k []).any fun l => bringsAll moves l []
def fewestN (women : List Wom) (pieces : List Pce) (wrong : Int) (home streets : List Rng) (start calls : Int) : Int :=
  if errE women pieces wrong home streets start calls = 0 then (firstT (fewP women.length (movesF women pieces wrong)) 7 : Nat) else 0
theorem wp_act {P : Program} {c : Code} {Q : Exit → Act → World → Prop} {a : Act} {w : World} (h : ∀ T, Hid (T = a.tmps) → c.wp P Q { tmps := T, defers := a.defers } w) : c.wp P Q a w := h a.tmps rfl
theorem wErr_true (ee : Int) : wErr ee true = ee := by
  unfold wErr
  by_cases h : ee = 0
  · rw [if_neg (by simp [h]), h]; rfl
  · rw [if_pos h]
section
variable (A : Option Addr) (n wc : Nat) (S : Option Addr) (pn pc : Nat) (wrong : Int) (H : Option Addr) (hn hc : Nat) (T : Option Addr) (sn sc : Nat) (start calls : Int) (women : List Wom) (pieces : List Pce) (home streets : List Rng)
set_option maxHeartbeats 3200000 in
set_option maxRecDepth 100000 in
theorem fewest_c (w : World) (h : ErrAt w A n wc S pn pc H hn hc T sn sc women pieces home streets) :
    Calls Tryz.prog 42 #[.agg #[.slice A n wc, .slice S pn pc, .int .i64 wrong, .slice H hn hc, .slice T sn sc, .int .i64 start, .int .i64 calls]] w
      fun e w' => e = .returned (.tuple #[.int .i64 (fewestN women pieces wrong home streets start calls), .int .i64 (errE women pieces wrong home streets start calls)]) ∧ Ext w w' := by
  have KE := hid h
  clear h
  obtain ⟨code, hcd⟩ : ∃ code, errE women pieces wrong home streets start calls = code := ⟨_, rfl⟩
  have HCD := hid hcd
  have HCB : Hid (wErr (errE women pieces wrong home streets start calls) true = code) := hid (by rw [wErr_true]; exact hcd)
  rw [hcd]
  have HNL := hid KE.out.wl
  clear hcd
  have hcall : Hid (∀ W, Ext (((w.alloc (.cells #[.slice A n wc, .slice S pn pc, .int .i64 wrong, .slice H hn hc, .slice T sn sc, .int .i64 start, .int .i64 calls] 41)).alloc (.cells #[.int .i64 0] 3)).alloc (.cells #[.int .i64 0] 32)) W → Calls Tryz.prog 90 #[] W fun e w' => e = .returned (.bool true) ∧ Ext W w') := hid fun W _ => always_c W
  refine (callsIn_wide (n := 0)).1 (callsIn_of_wp_marks Tryz.func42 rfl trivial ?_ rfl)
  simp only [Tryz.ntmps42, List.size_toArray, List.length_cons, List.length_nil, Nat.reduceAdd, Nat.reduceSub, Array.replicate_succ, Array.replicate_zero, List.push_toArray, List.append_toArray, List.nil_append, List.cons_append]
  refine wpIn_wide.2 ?_
  by_cases h0 : code = 0
  · subst h0
    obtain ⟨hnn, hok⟩ := errOk_of KE.out HCD.out
    have hnn' : n = hn := hnn.symm
    subst hnn'
    have KO := hid hok
    clear hnn hok
    go_wp2_with (first
      | (go_at_call 66; refine (wask_yes_all A n wc S pn pc wrong H n hc T sn sc start calls women pieces home streets _ (KE.out.ext (by go_grown)) hcall HCD.out).mono ?_; unfold WaskOk; rintro e w1 ⟨q, M, mn, mc, rfl, hq, hmn, hwork, hB1⟩
         have b1 := ext_blk_keep hB1 (heap_alloc_keep (heap_alloc_keep (heap_alloc_new w (.cells #[.slice A n wc, .slice S pn pc, .int .i64 wrong, .slice H n hc, .slice T sn sc, .int .i64 start, .int .i64 calls] 41))))
         have b2 := ext_blk_keep hB1 (heap_alloc_keep (heap_alloc_at (w.alloc (.cells #[.slice A n wc, .slice S pn pc, .int .i64 wrong, .slice H n hc, .slice T sn sc, .int .i64 start, .int .i64 calls] 41)) (.cells #[.int .i64 0] 3) (k := w.heap.size + 1) (by simp)))
         have b3 := ext_blk_keep hB1 (heap_alloc_at ((w.alloc (.cells #[.slice A n wc, .slice S pn pc, .int .i64 wrong, .slice H n hc, .slice T sn sc, .int .i64 start, .int .i64 calls] 41)).alloc (.cells #[.int .i64 0] 3)) (.cells #[.int .i64 0] 32) (k := w.heap.size + 1 + 1) (by simp))
         have e1 : Ext w w1 := ext_trans (by go_grown) hB1
         have HMN := hid hmn
         have HWORK := hid hwork
         have HB1 := hid b1
         have HB2 := hid b2
         have HB3 := hid b3
         clear hmn hwork b1 b2 b3))
    refine wp_gen ?_
    intro W0 hW0
    have hE0 : Ext w1 W0 := by rw [hW0]; go_grown
    have b4 : W0.heap[w1.heap.size]? = some (.cells #[.pointer (some ⟨q, 0, none⟩)] 102 (0, 0)) := by rw [hW0]; exact (by repeat (first | exact heap_alloc_at _ _ (by simp) | refine heap_alloc_keep ?_))
    have HB4 := hid b4
    clear hW0 b4
    refine wp_act fun T0 HT0 => ?_
    obtain ⟨moves, hmv⟩ : ∃ moves, movesF women pieces wrong = moves := ⟨_, rfl⟩
    rw [hmv] at HWORK HMN
    have HMV := hid hmv
    clear hmv
    refine wp_loop (fun a' W' => ∃ (k : Nat) (u6 u17 u18 u19 u20 u21 u28 : Value) (Bs : List Nat), k ≤ 7 ∧ a' = { tmps := ((((((((T0.setIfInBounds 6 u6).setIfInBounds 16 (.int .i64 (k : Int))).setIfInBounds 17 u17).setIfInBounds 18 u18).setIfInBounds 19 u19).setIfInBounds 20 u20).setIfInBounds 21 u21).setIfInBounds 28 u28), defers := marksOf Bs } ∧
      Ext W0 W' ∧ (∀ B ∈ Bs, W'.heap[B]? = some (.deferred (some []))) ∧ Bs.Nodup ∧ (∀ B ∈ Bs, W0.heap.size ≤ B) ∧ (∀ j, j < k → fewP n moves j = false)) (fun a' _ => 7 - (intOf (a'.tmps.getD 16 undef)).toNat) ?start ?round
    case start =>
      obtain rfl := HT0.out
      exact ⟨0, undef, undef, undef, undef, undef, undef, undef, [], Nat.zero_le _, by kernel_rfl, ext_refl _, fun B h => absurd h (by simp), List.nodup_nil, fun B h => absurd h (by simp), fun j h => absurd h (Nat.not_lt_zero j)⟩
    case round =>
      rintro a' W ⟨k, u6, u17, u18, u19, u20, u21, u28, Bs, hk, rfl, hE, hBs, hnd, hge, hno⟩
      obtain rfl := HT0.out
      simp only [List.setIfInBounds_toArray, List.set_cons_zero, List.set_cons_succ]
      have HBS := hid hBs
      have HND := hid hnd
      have HGE := hid hge
      have HNO := hid hno
      clear HT0 hBs hnd hge hno
      have hc1 := blk_cell (ext_blk_keep (ext_trans hE0 hE) HB1.out)
      have hl0 : w.heap.size + 1 + 1 < W.heap.size := (Array.getElem?_eq_some_iff.1 (ext_blk_keep (ext_trans hE0 hE) HB3.out)).1
      have hl1 : w.heap.size < W.heap.size := by omega
      by_cases hlt : k < 7
      · go_wp2_with (go_at_call 91; refine (walks_c _ _ _).mono ?_; rintro e w3 ⟨rfl, rfl⟩)
        obtain ⟨Wd, hWd⟩ : ∃ Wd, ((W.alloc (.cells #[.int .i64 (k : Int)] 3)).alloc (.cells #[.slice A n wc, .slice S pn pc, .int .i64 wrong, .slice H n hc, .slice T sn sc, .int .i64 start, .int .i64 calls] 41)).alloc (.cells #[.int .i64 (k : Int)] 3) = Wd := ⟨_, rfl⟩
        have d0 : Wd.heap[W.heap.size]? = some (.cells #[.int .i64 (k : Int)] 3 (0, 0)) := by rw [← hWd]; exact heap_alloc_keep (heap_alloc_keep (heap_alloc_new W _))
        have d1 : Wd.heap[W.heap.size + 1]? = some (.cells #[.slice A n wc, .slice S pn pc, .int .i64 wrong, .slice H n hc, .slice T sn sc, .int .i64 start, .int .i64 calls] 41 (0, 0)) := by rw [← hWd]; exact heap_alloc_keep (heap_alloc_at _ _ (by simp))
        have d2 : Wd.heap[W.heap.size + 1 + 1]? = some (.cells #[.int .i64 (k : Int)] 3 (0, 0)) := by rw [← hWd]; exact heap_alloc_at _ _ (by simp)
        have hEd : Ext W Wd := by rw [← hWd]; go_grown
        have hsd : Wd.heap.size = W.heap.size + 3 := by rw [← hWd]; simp
        rw [hWd]
        have D0 := hid d0
        have D1 := hid d1
        have D2 := hid d2
        have HED := hid hEd
        have HSD := hid hsd
        have HC2 := hid (ext_blk_keep (ext_trans (ext_trans hE0 hE) hEd) HB2.out)
        have HC3 := hid (ext_blk_keep (ext_trans (ext_trans hE0 hE) hEd) HB3.out)
        have HC4 := hid (ext_blk_keep (ext_trans hE hEd) HB4.out)
        have HWK := hid (HWORK.out.ext (ext_trans hE0 (ext_trans hE hEd)))
        have hl4 : w1.heap.size < W.heap.size := (Array.getElem?_eq_some_iff.1 (ext_blk_keep hE HB4.out)).1
        have hs1 : w.heap.size + 1 + 1 < w1.heap.size := (Array.getElem?_eq_some_iff.1 HB3.out).1
        clear d0 d1 d2 hEd hsd hWd hc1 hl1
        refine wp_range (gf := 116) (lb := #[.pointer (some ⟨W.heap.size + 1, 0, none⟩), .pointer (some ⟨W.heap.size + 1 + 1, 0, none⟩)]) rfl ?eg (walks_iter (W.heap.size + 1) (W.heap.size + 1 + 1) A n wc _ _ _ wrong start calls k (by omega) (by have := KE.out.n3; omega) Wd D1.out D2.out) (ext_refl Wd) (fun D ow W1 W2 h => ⟨Below.size h, fun b hb hl => Below.block h b hl⟩)
          (fun b => b = w.heap.size + 1 ∨ b = w.heap.size + 1 + 1) ?hcb (fun ow pre W' => (∀ b, ow b ↔ b = w.heap.size + 1 ∨ b = w.heap.size + 1 + 1) ∧ Ext Wd W' ∧ ∀ x ∈ pre, bringsAll moves x [] = false)
          (fun c pre W' => c = .ret ∧ fewP n moves k = true ∧ Kept (fun b => b = w.heap.size + 1 ∨ b = w.heap.size + 1 + 1) Wd W' ∧ W'.heap[w.heap.size + 1]? = some (.cells #[.int .i64 (k : Int)] 3 (0, 0)) ∧ W'.heap[w.heap.size + 1 + 1]? = some (.cells #[.int .i64 0] 32 (0, 0))) ?hIb ?hIst ?hIl ?hIxl ?hstart ?hround ?hdone ?hstop
        case eg =>
          have h1 : (Tryz.f116.name == "runtime.NumGoroutine") = false := by kernel_rfl
          have h2 : Tryz.f116.body.isNone = false := by kernel_rfl
          have h1' : ¬ Tryz.f116.name = "runtime.NumGoroutine" := by simpa using h1
          have h2' : ¬ Tryz.f116.body = none := by
            intro h
            rw [h] at h2
            cases h2
          exact fun args w => by simp [go_sem, callFunc, Tryz.func116, h1', h2']
        case hcb =>
          intro b hb
          have := HSD.out
          rcases hb with rfl | rfl <;> exact ⟨by omega, by omega⟩
        case hIb =>
          rintro ow pre W' b ⟨hi, he, _⟩ hob
          have := HSD.out
          have := he.size
          rcases (hi b).1 hob with rfl | rfl <;> exact ⟨by omega, by omega, by omega⟩
        case hIst =>
          rintro ow pre W1 W2 ⟨hi, he, hn⟩ hfr
          exact ⟨hi, ext_trans he hfr, hn⟩
        case hIl =>
          rintro ow pre W' o ⟨hi, he, hn⟩
          exact ⟨hi, ((Kept.refl (fun b => b = Wd.heap.size + 1) W').putObj o rfl).extOld he (fun b hb e => by omega), hn⟩
        case hIxl =>
          rintro c pre W' o ⟨h1, h2, h3, h4, h5⟩
          have := HSD.out
          refine ⟨h1, h2, ⟨h3.os, h3.tape, h3.output, by simpa using h3.size, fun b hb hob => ?_⟩, ?_, ?_⟩
          · rw [World.putObj_heap_other (fun e : b = Wd.heap.size + 1 => by omega)]
            exact h3.blk b hb hob
          · rw [World.putObj_heap_other (by omega)]; exact h4
          · rw [World.putObj_heap_other (by omega)]; exact h5
        case hstart =>
          intro W1 he hs
          exact ⟨fun b => Iff.rfl, he, fun x hx => absurd hx (by simp)⟩
        case hround =>
          rintro ow pre x v W' ⟨hi, he, hno⟩ hpre ⟨hx, hnew⟩ ⟨lr, hlr⟩
          have HI := hid hi
          have HNB := hid hno
          have HPRE := hid hpre
          have hsem := Oper.semAt_some (Wd.heap.size + 1)
          clear hi hno hpre hnew
          gi_wp2_with fail
          refine ⟨by first | exact ext_refl _ | go_grown, ?_⟩
          rintro W2 ⟨ob, hW2⟩
          have hE2 : Ext Wd W2 := by rw [hW2]; exact ((Kept.refl (fun b => b = Wd.heap.size + 1) W').putObj ob rfl).extOld he (fun b hb e => by omega)
          have hX2 : IsInts W2 v x := by rw [hW2]; exact ints_loop hx hlr
          have hxw := walks_ok (by omega) (prefix_mem HPRE.out)
          have hc4 := blk_cell (ext_blk_keep hE2 HC4.out)
          have HX2 := hid hX2
          have HW2 := hid hW2
          obtain ⟨V, vc, rfl⟩ := hx.val
          obtain ⟨b, hb⟩ : ∃ b, bringsAll moves x [] = b := ⟨_, rfl⟩
          have HB := hid hb
          clear hX2 hW2 hx hlr hb
          cases b
          · gi_wp2_with fail
            refine ⟨trivial, rfl, (callsIn_round (missing_c q _ _ _ _ _ _ _ M mn mc moves _ _ x [] _ (ext_blk_keep hE2 HWK.out.cells) (HWK.out.movs.ext hE2) HMN.out (by have := HWK.out.m7; omega) HX2.out (by have := hxw.len; omega) (IsInts.nil _ _))).mono ?_⟩
            rintro e W3 ⟨rfl, hE3⟩
            rw [HB.out]
            gi_wp2_with fail
            exact ⟨Kept.of_ext hE3, ow, ⟨HI.out, ext_trans hE2 hE3, fun y hy => by
              rcases List.mem_append.1 hy with hy | hy
              · exact HNB.out y hy
              · rw [List.mem_singleton.1 hy]; exact HB.out⟩, fun b hb => .inl hb⟩
          · gi_wp2_with fail
            refine ⟨trivial, rfl, (callsIn_round (missing_c q _ _ _ _ _ _ _ M mn mc moves _ _ x [] _ (ext_blk_keep hE2 HWK.out.cells) (HWK.out.movs.ext hE2) HMN.out (by have := HWK.out.m7; omega) HX2.out (by have := hxw.len; omega) (IsInts.nil _ _))).mono ?_⟩
            rintro e W3 ⟨rfl, hE3⟩
            rw [HB.out]
            have hE23 := ext_trans hE2 hE3
            have c6 := blk_cell (ext_blk_keep hE23 D0.out)
            have i2 := ext_blk_keep hE23 HC2.out
            have i3 := ext_blk_keep hE23 HC3.out
            have c2 := blk_cell i2
            have z2 : ∀ j, W3.frozen? ⟨w.heap.size + 1, j, none⟩ = false := fun j => frozen_of_row W3 _ j _ _ i2
            have c3 := blk_cell i3
            have z3 : ∀ j, W3.frozen? ⟨w.heap.size + 1 + 1, j, none⟩ = false := fun j => frozen_of_row W3 _ j _ _ i3
            have I2 := hid i2
            have I3 := hid i3
            clear i2 i3
            gi_wp2_with fail
            have hk3 : Kept (fun b => b = w.heap.size + 1 ∨ b = w.heap.size + 1 + 1) W2 ((W3.setCell ⟨w.heap.size + 1, 0, none⟩ (.int .i64 (k : Int))).setCell ⟨w.heap.size + 1 + 1, 0, none⟩ (.int .i64 0)) := ((Kept.of_ext hE3).set _ (.inl rfl)).set _ (.inr rfl)
            refine ⟨hk3.mono fun b h => (HI.out b).2 h, rfl, ?_, (Kept.of_ext hE2).trans hk3, heap_set_keep (by omega) (heap_set_at I2.out rfl), heap_set_at (heap_set_keep (by omega) I3.out) rfl⟩
            rw [fewP, List.any_eq_true]
            exact ⟨x, prefix_mem HPRE.out, HB.out⟩
        case hdone =>
          rintro ow W' ⟨hi, he, hno⟩ hK
          have HNB := hid hno
          have HK := hid hK
          have hsz := he.size
          have hsd := HSD.out
          have HIW := hid hi
          clear hi hno hK
          go_wp2
          have hf : fewP n moves k = false := by
            rw [fewP, List.any_eq_false]
            intro y hy
            simpa using HNB.out y hy
          refine ⟨⟨k + 1, .pointer (some ⟨W.heap.size, 0, none⟩), .bool true, .int .i64 (k : Int), .agg #[.slice A n wc, .slice S pn pc, .int .i64 wrong, .slice H n hc, .slice T sn sc, .int .i64 start, .int .i64 calls], .int .i64 (k : Int), .func (.func 116) #[] #[.pointer (some ⟨W.heap.size + 1, 0, none⟩), .pointer (some ⟨W.heap.size + 1 + 1, 0, none⟩)], .int .i64 ((k : Int) + 1), Wd.heap.size :: Bs, hlt, by kernel_rfl, ext_trans hE (ext_trans HED.out he), fun B hB => ?_, List.nodup_cons.2 ⟨fun h => ?_, HND.out⟩, fun B hB => ?_, fun j hj => ?_⟩, ?_⟩
          · rcases List.mem_cons.1 hB with rfl | hB
            · exact HK.out
            · exact ext_blk_keep (ext_trans HED.out he) (HBS.out B hB)
          · have := (Array.getElem?_eq_some_iff.1 (HBS.out _ h)).1
            omega
          · rcases List.mem_cons.1 hB with rfl | hB
            · have := hE.size; omega
            · exact HGE.out B hB
          · rcases Nat.lt_or_ge j k with h | h
            · exact HNO.out j h
            · obtain rfl : j = k := by omega
              exact hf
          · simp [intOf]; omega
        case hstop =>
          rintro c pre W' hpre ⟨rfl, hf, hk7, h2, h3⟩ hK
          refine wp_ret ?_
          have HH2 := hid h2
          have HH3 := hid h3
          have hfw : fewestN women pieces wrong home streets start calls = (k : Int) := by
            rw [fewestN, if_pos HCD.out, HNL.out, HMV.out, firstT_at hf HNO.out hlt]
          have hEw : Ext w W' := hk7.extOld (ext_trans e1 (ext_trans hE0 (ext_trans hE HED.out))) (fun b hb h => by rcases h with h | h <;> omega)
          have HEW := hid hEw
          have HFW := hid hfw
          have HK7 := hid hk7
          have hsd := HSD.out
          have hmk : ∀ B ∈ Wd.heap.size :: Bs, W'.heap[B]? = some (.deferred (some [])) := fun B hB => by
            rcases List.mem_cons.1 hB with rfl | hB
            · exact hK
            · refine HK7.out.keep (ext_blk_keep HED.out (HBS.out B hB)) (fun h => ?_)
              have := HGE.out B hB
              have := hE0.size
              omega
          have hmn : (Wd.heap.size :: Bs).Nodup := List.nodup_cons.2 ⟨fun h => by
            have := (Array.getElem?_eq_some_iff.1 (HBS.out _ h)).1
            omega, HND.out⟩
          have hmg : ∀ B ∈ Wd.heap.size :: Bs, w1.heap.size ≤ B := fun B hB => by
            rcases List.mem_cons.1 hB with rfl | hB
            · omega
            · have := HGE.out B hB
              have := hE0.size
              omega
          show LeavesInM _ _ _ _ _ _ (marksOf (Wd.heap.size :: Bs)) .returning W'
          refine leaves_marks _ _ hmk hmn (fun w' hw' => ?_)
          have k2 := blk_cell (hw'.keep HH2.out (fun h => by have := hmg _ h; omega)) 0
          have k3 := blk_cell (hw'.keep HH3.out (fun h => by have := hmg _ h; omega)) 0
          have kE : Ext w w' := hw'.extOld HEW.out (fun b hb h => by have := hmg _ h; omega)
          simp only [List.getElem?_toArray, List.getElem?_cons_zero] at k2 k3
          refine ⟨.tuple #[.int .i64 (k : Int), .int .i64 0], ?_, ?_, kE⟩
          · simp [results, Tryz.f42, go_sem, k2, k3]
          · rw [HFW.out]
      · obtain rfl : k = 7 := by omega
        have i2 := ext_blk_keep (ext_trans hE0 hE) HB2.out
        have i3 := ext_blk_keep (ext_trans hE0 hE) HB3.out
        have c2 := blk_cell i2
        have z2 : ∀ j, W.frozen? ⟨w.heap.size + 1, j, none⟩ = false := fun j => frozen_of_row W _ j _ _ i2
        have c3 := blk_cell i3
        have z3 : ∀ j, W.frozen? ⟨w.heap.size + 1 + 1, j, none⟩ = false := fun j => frozen_of_row W _ j _ _ i3
        have I2 := hid i2
        have I3 := hid i3
        have hs1 : w.heap.size + 1 + 1 < w1.heap.size := (Array.getElem?_eq_some_iff.1 HB3.out).1
        clear i2 i3
        go_wp2
        have hfw : fewestN women pieces wrong home streets start calls = 7 := by
          rw [fewestN, if_pos HCD.out, HNL.out, HMV.out, firstT_none HNO.out]; rfl
        have HFW := hid hfw
        have hk3 : Kept (fun b => b = w.heap.size + 1 ∨ b = w.heap.size + 1 + 1) W ((W.setCell ⟨w.heap.size + 1, 0, none⟩ (.int .i64 7)).setCell ⟨w.heap.size + 1 + 1, 0, none⟩ (.int .i64 0)) := ((Kept.refl _ W).set _ (.inl rfl)).set _ (.inr rfl)
        have g2 : ((W.setCell ⟨w.heap.size + 1, 0, none⟩ (.int .i64 7)).setCell ⟨w.heap.size + 1 + 1, 0, none⟩ (.int .i64 0)).heap[w.heap.size + 1]? = some (.cells #[.int .i64 7] 3 (0, 0)) := heap_set_keep (by omega) (heap_set_at I2.out rfl)
        have g3 : ((W.setCell ⟨w.heap.size + 1, 0, none⟩ (.int .i64 7)).setCell ⟨w.heap.size + 1 + 1, 0, none⟩ (.int .i64 0)).heap[w.heap.size + 1 + 1]? = some (.cells #[.int .i64 0] 32 (0, 0)) := heap_set_at (heap_set_keep (by omega) I3.out) rfl
        have hmg : ∀ B ∈ Bs, w1.heap.size ≤ B := fun B hB => by
          have := HGE.out B hB
          have := hE0.size
          omega
        show LeavesInM _ _ _ _ _ _ (marksOf Bs) .returning _
        refine leaves_marks _ _ (fun B hB => hk3.keep (HBS.out B hB) (fun h => by have := hmg B hB; omega)) HND.out (fun w' hw' => ?_)
        have k2 := blk_cell (hw'.keep g2 (fun h => by have := hmg _ h; omega)) 0
        have k3 := blk_cell (hw'.keep g3 (fun h => by have := hmg _ h; omega)) 0
        have kE : Ext w w' := hw'.extOld (hk3.extOld (ext_trans e1 (ext_trans hE0 hE)) (fun b hb h => by omega)) (fun b hb h => by have := hmg _ h; omega)
        simp only [List.getElem?_toArray, List.getElem?_cons_zero] at k2 k3
        refine ⟨.tuple #[.int .i64 7, .int .i64 0], ?_, ?_, kE⟩
        · simp [results, Tryz.f42, go_sem, k2, k3]
        · rw [HFW.out]
  · have h0' : (code == 0) = false := beq_eq_false_iff_ne.2 h0
    have hfw : fewestN women pieces wrong home streets start calls = 0 := by rw [fewestN, if_neg (by rw [HCD.out]; exact h0)]
    have HFW := hid hfw
    clear hfw
    go_wp2_with (go_at_call 66; refine (wask_no_all A n wc S pn pc wrong H hn hc T sn sc start calls women pieces home streets true _ (KE.out.ext (by go_grown)) hcall code HCB h0).mono ?_; rintro e w1 ⟨rfl, hB1⟩
                 have b2 := ext_blk_keep hB1 (heap_alloc_keep (heap_alloc_at (w.alloc (.cells #[.slice A n wc, .slice S pn pc, .int .i64 wrong, .slice H hn hc, .slice T sn sc, .int .i64 start, .int .i64 calls] 41)) (.cells #[.int .i64 0] 3) (k := w.heap.size + 1) (by simp)))
                 have b3 := ext_blk_keep hB1 (heap_alloc_at ((w.alloc (.cells #[.slice A n wc, .slice S pn pc, .int .i64 wrong, .slice H hn hc, .slice T sn sc, .int .i64 start, .int .i64 calls] 41)).alloc (.cells #[.int .i64 0] 3)) (.cells #[.int .i64 0] 32) (k := w.heap.size + 1 + 1) (by simp))
                 have c2 := blk_cell b2
                 have c3 := blk_cell b3
                 have z2 : ∀ j, w1.frozen? ⟨w.heap.size + 1, j, none⟩ = false := fun j => frozen_of_row w1 _ j _ _ b2
                 have z3 : ∀ j, w1.frozen? ⟨w.heap.size + 1 + 1, j, none⟩ = false := fun j => frozen_of_row w1 _ j _ _ b3
                 have hl2 : w.heap.size + 1 < w1.heap.size := (Array.getElem?_eq_some_iff.1 b2).1
                 have hl3 : w.heap.size + 1 + 1 < w1.heap.size := (Array.getElem?_eq_some_iff.1 b3).1
                 have B2 := hid b2
                 have B3 := hid b3
                 have HE1 := hid (ext_trans (by go_grown) hB1 : Ext w w1)
                 clear b2 b3)
    have g2 : (((w1.setCell ⟨w.heap.size + 1, 0, none⟩ (.int .i64 0)).setCell ⟨w.heap.size + 1 + 1, 0, none⟩ (.int .i64 code)).alloc (.cells #[.pointer none] 102)).heap[w.heap.size + 1]? = some (.cells #[.int .i64 0] 3 (0, 0)) := heap_alloc_keep (heap_set_keep (by omega) (heap_set_at B2.out rfl))
    have g3 : (((w1.setCell ⟨w.heap.size + 1, 0, none⟩ (.int .i64 0)).setCell ⟨w.heap.size + 1 + 1, 0, none⟩ (.int .i64 code)).alloc (.cells #[.pointer none] 102)).heap[w.heap.size + 1 + 1]? = some (.cells #[.int .i64 code] 32 (0, 0)) := heap_alloc_keep (heap_set_at (heap_set_keep (by omega) B3.out) rfl)
    have k2 := blk_cell g2 0
    have k3 := blk_cell g3 0
    simp only [List.getElem?_toArray, List.getElem?_cons_zero] at k2 k3
    have hs := HE1.out.size
    have hk3 : Kept (fun b => b = w.heap.size + 1 ∨ b = w.heap.size + 1 + 1) w1 (((w1.setCell ⟨w.heap.size + 1, 0, none⟩ (.int .i64 0)).setCell ⟨w.heap.size + 1 + 1, 0, none⟩ (.int .i64 code)).alloc (.cells #[.pointer none] 102)) := (((Kept.refl _ w1).set _ (.inl rfl)).set _ (.inr rfl)).alloc _
    refine leaves_nil (v := .tuple #[.int .i64 0, .int .i64 code]) ?_ ⟨by rw [HFW.out], hk3.extOld HE1.out (fun b hb h => by omega)⟩
    simp [results, Tryz.f42, go_sem, k2, k3]
end
end Go.Proofs.YtlcakmbejjlmeaaGreat
/- The contract of errand's Best. -/
set_option linter.unusedVariables false
set_option linter.unusedSimpArgs false
namespace Go.Proofs.YtlcakmbejjlmeaaGreat
open Go.RowKit

/-- One more walk is looked at: the best walk so far, its calls, its ending. -/
def bstep (n : Nat) (home streets : List Rng) (start calls : Int) (moves : List Mov) (s : List Int × Int × Int) (l : List Int) : List Int × Int × Int :=
  if s.2.1 < (l.length : Int) then s else if bringsAll moves l [] = false then s else if sureF n home streets start calls l = false then s
  else if (decide ((l.length : Int) < s.2.1) || decide ((l.length : Int) = s.2.1) && decide (endF n home streets start l < s.2.2)) = true then (l, (l.length : Int), endF n home streets start l) else s
def bestRun (n : Nat) (home streets : List Rng) (start calls : Int) (moves : List Mov) (ls : List (List Int)) : List Int × Int × Int := ls.foldl (bstep n home streets start calls moves) ([], 8, 0)
def bestS (women : List Wom) (pieces : List Pce) (wrong : Int) (home streets : List Rng) (start calls : Int) : List Int × Int × Int :=
  bestRun women.length home streets start calls (movesF women pieces wrong) (walksFrom women.length calls.toNat [])
def bestC (women : List Wom) (pieces : List Pce) (wrong : Int) (home streets : List Rng) (start calls : Int) : Int :=
  if errE women pieces wrong home streets start calls = 0 then (if 7 < (bestS women pieces wrong home streets start calls).2.1 then 10 else 0) else errE women pieces wrong home streets start calls
def bestL (women : List Wom) (pieces : List Pce) (wrong : Int) (home streets : List Rng) (start calls : Int) : List Int :=
  if bestC women pieces wrong home streets start calls = 0 then (bestS women pieces wrong home streets start calls).1 else []
def bestN (women : List Wom) (pieces : List Pce) (wrong : Int) (home streets : List Rng) (start calls : Int) : Int :=
  if bestC women pieces wrong home streets start calls = 0 then (bestS women pieces wrong home streets start calls).2.2 else 0
theorem bestRun_snoc (n : Nat) (home streets : List Rng) (start calls : Int) (moves : List Mov) (ls : List (List Int)) (l : List Int) : bestRun n home streets start calls moves (ls ++ [l]) = bstep n home streets start calls moves (bestRun n home streets start calls moves ls) l := by
  simp [bestRun]
/-- No cell of a slice lies in a block. -/
def Off (L : Nat) (v : Value) : Prop := ∀ A m c, v = .slice A m c → 0 < m → ∀ b o, A = some ⟨b, o, none⟩ → b ≠ L
theorem ints_off {W : World} {v : Value} {x : List Int} {L : Nat} {r : Loop} (h : IsInts W v x) (hl : W.heap[L]? = some (.loop r)) : Off L v := by
  intro A m c hv hm b o ha e
  obtain ⟨_, A', c', hv', h1⟩ := h
  rw [hv'] at hv
  injection hv with e1 e2 e3
  subst e1; subst e2; subst e3
  obtain ⟨b', o', ha', hc⟩ := h1 hm
  rw [ha'] at ha
  injection ha with ha
  injection ha with e4 e5
  subst e; subst e4
  have := hc 0 hm
  simp [World.cell?, hl] at this
theorem ints_off2 {W : World} {v : Value} {x : List Int} {L : Nat} {r : Option (List Deferred)} (h : IsInts W v x) (hl : W.heap[L]? = some (.deferred r)) : Off L v := by
  intro A m c hv hm b o ha e
  obtain ⟨_, A', c', hv', h1⟩ := h
  rw [hv'] at hv
  injection hv with e1 e2 e3
  subst e1; subst e2; subst e3
  obtain ⟨b', o', ha', hc⟩ := h1 hm
  rw [ha'] at ha
  injection ha with ha
  injection ha with e4 e5
  subst e; subst e4
  have := hc 0 hm
  simp [World.cell?, hl] at this
theorem ints_kept2 {W W' : World} {v : Value} {x : List Int} {ow : Nat → Prop} (h : IsInts W v x) (ho : ∀ b, ow b → Off b v) (hk : Kept ow W W') : IsInts W' v x := by
  obtain ⟨h0, A, c, hv, h1⟩ := h
  refine ⟨h0, A, c, hv, fun hn => ?_⟩
  obtain ⟨b, o, ha, hc⟩ := h1 hn
  refine ⟨b, o, ha, fun i hi => ?_⟩
  rw [← hc i hi]
  exact World.cell?_of_block (hk.blk b (cell_lt (hc i hi)) (fun h => ho b h A _ c hv hn b o ha rfl))
theorem off_new {v : Value} {D L : Nat} (h : ∀ b, v.ownBlock = some b → D ≤ b) (hl : L < D) : Off L v := by
  rintro A m c rfl hm b o rfl rfl
  have := h b rfl
  omega
theorem ints_put {W : World} {v : Value} {x : List Int} {L : Nat} (h : IsInts W v x) (hl : Off L v) (ob : Obj) : IsInts (W.putObj L ob) v x := by
  obtain ⟨h0, A, c, hv, h1⟩ := h
  refine ⟨h0, A, c, hv, fun hn => ?_⟩
  obtain ⟨b, o, ha, hc⟩ := h1 hn
  refine ⟨b, o, ha, fun i hi => ?_⟩
  rw [← hc i hi]
  exact World.cell?_of_block (World.putObj_heap_other (hl A _ c hv hn b o ha))
theorem movs_from {w1 W2 : World} {v : Value} {l : List Mov} {B : Nat} {u : Value} {t : TypeId} {fr : Nat × Nat} (h : IsMovs w1 v l) (hk : ∀ b, b < w1.heap.size → b ≠ B → W2.heap[b]? = w1.heap[b]?) (hB : w1.heap[B]? = some (.cells #[u] t fr)) (hu : ∀ x, u ≠ .int .i64 x) : IsMovs W2 v l := by
  obtain ⟨h0, A, c, hv, h1⟩ := h
  refine ⟨h0, A, c, hv, fun hn => ?_⟩
  obtain ⟨b, o, ha, hc⟩ := h1 hn
  refine ⟨b, o, ha, fun i hi => ?_⟩
  have hne : b ≠ B := by
    rintro rfl
    have h2 := (hc i hi).1
    rw [blk_cell hB] at h2
    obtain ⟨h3, h4⟩ := Array.getElem?_eq_some_iff.1 h2
    have h5 : o + i * 3 = 0 := by simp at h3; omega
    simp [h5] at h4
    exact hu _ h4
  have hlt := cell_lt (hc i hi).1
  have he : ∀ j, W2.cell? ⟨b, j, none⟩ = w1.cell? ⟨b, j, none⟩ := fun j => World.cell?_of_block (hk b hlt hne)
  rw [he, he, he]
  exact hc i hi
structure BestI (s0 : List Int × Int × Int) (B2 B6 L : Nat) (Wd : World) (ow : Nat → Prop) (W : World) (v : Value) : Prop where
  iff : ∀ b, ow b ↔ b = B2 ∨ b = B6
  kept : Kept (fun b => b = B2 ∨ b = B6) Wd W
  h2 : W.heap[B2]? = some (.cells #[v] 29 (0, 0))
  h6 : W.heap[B6]? = some (.cells #[.int .i64 s0.2.1, .int .i64 s0.2.2] 150 (0, 0))
  ints : IsInts W v s0.1
  new : ∀ b, v.ownBlock = some b → Wd.heap.size ≤ b
  off : Off L v
theorem BestI.ext {s0 : List Int × Int × Int} {B2 B6 L : Nat} {Wd : World} {ow : Nat → Prop} {W W' : World} {v : Value} (h : BestI s0 B2 B6 L Wd ow W v) (e : Ext W W') : BestI s0 B2 B6 L Wd ow W' v :=
  ⟨h.iff, h.kept.ext e, ext_blk_keep e h.h2, ext_blk_keep e h.h6, h.ints.ext e, h.new, h.off⟩
theorem BestI.put {s0 : List Int × Int × Int} {B2 B6 L : Nat} {Wd : World} {ow : Nat → Prop} {W : World} {v : Value} (h : BestI s0 B2 B6 L Wd ow W v) (h2 : B2 ≠ L) (h6 : B6 ≠ L) (hL : Wd.heap.size ≤ L) (o : Obj) : BestI s0 B2 B6 L Wd ow (W.putObj L o) v :=
  ⟨h.iff, ⟨h.kept.os, h.kept.tape, h.kept.output, by simpa using h.kept.size, fun b hb ho => by rw [World.putObj_heap_other (fun e : b = L => by omega)]; exact h.kept.blk b hb ho⟩,
    by rw [World.putObj_heap_other h2]; exact h.h2, by rw [World.putObj_heap_other h6]; exact h.h6, ints_put h.ints h.off o, h.new, h.off⟩
section
variable (A : Option Addr) (n wc : Nat) (S : Option Addr) (pn pc : Nat) (wrong : Int) (H : Option Addr) (hn hc : Nat) (T : Option Addr) (sn sc : Nat) (start calls : Int) (women : List Wom) (pieces : List Pce) (home streets : List Rng)
set_option maxHeartbeats 6400000 in
set_option maxRecDepth 100000 in
theorem best_x (w : World) (h : ErrAt w A n wc S pn pc H hn hc T sn sc women pieces home streets) :
    Calls Tryz.prog 52 #[.agg #[.slice A n wc, .slice S pn pc, .int .i64 wrong, .slice H hn hc, .slice T sn sc, .int .i64 start, .int .i64 calls]] w
      fun e w' => ∃ v, e = .returned (.tuple #[v, .int .i64 (bestN women pieces wrong home streets start calls), .int .i64 (bestC women pieces wrong home streets start calls)]) ∧ IsInts w' v (bestL women pieces wrong home streets start calls) ∧ Ext w w' := by
  have KE := hid h
  clear h
  obtain ⟨code, hcd⟩ : ∃ code, errE women pieces wrong home streets start calls = code := ⟨_, rfl⟩
  have HCD := hid hcd
  have HCB : Hid (wErr (errE women pieces wrong home streets start calls) true = code) := hid (by rw [wErr_true]; exact hcd)
  have HNL := hid KE.out.wl
  clear hcd
  have hcall : Hid (∀ W, Ext ((w.alloc (.cells #[.slice A n wc, .slice S pn pc, .int .i64 wrong, .slice H hn hc, .slice T sn sc, .int .i64 start, .int .i64 calls] 41)).alloc (.cells #[.slice none 0 0] 29)) W → Calls Tryz.prog 90 #[] W fun e w' => e = .returned (.bool true) ∧ Ext W w') := hid fun W _ => always_c W
  refine (callsIn_wide (n := 0)).1 (callsIn_of_wp_marks Tryz.func52 rfl trivial ?_ rfl)
  simp only [Tryz.ntmps52, List.size_toArray, List.length_cons, List.length_nil, Nat.reduceAdd, Nat.reduceSub, Array.replicate_succ, Array.replicate_zero, List.push_toArray, List.append_toArray, List.nil_append, List.cons_append]
  refine wpIn_wide.2 ?_
  by_cases h0 : code = 0
  · subst h0
    obtain ⟨hnn, hok⟩ := errOk_of KE.out HCD.out
    have hnn' : n = hn := hnn.symm
    subst hnn'
    have hcl := errE_zero HCD.out
    obtain ⟨cn, rfl⟩ : ∃ cn : Nat, calls = (cn : Int) := ⟨calls.toNat, by omega⟩
    have hcn : cn ≤ 7 := by omega
    have KO := hid hok
    obtain ⟨moves, hmv⟩ : ∃ moves, movesF women pieces wrong = moves := ⟨_, rfl⟩
    have HMV := hid hmv
    clear hnn hok hcl hmv
    go_wp2_with (first
      | (go_at_call 66; refine (wask_yes_all A n wc S pn pc wrong H n hc T sn sc start (cn : Int) women pieces home streets _ (KE.out.ext (by go_grown)) hcall HCD.out).mono ?_; unfold WaskOk; rintro e w1 ⟨q, M, mn, mc, rfl, hq, hmn, hwork, hB1⟩
         rw [HMV.out] at hmn hwork
         have b1 := ext_blk_keep hB1 (heap_alloc_keep (heap_alloc_new w (.cells #[.slice A n wc, .slice S pn pc, .int .i64 wrong, .slice H n hc, .slice T sn sc, .int .i64 start, .int .i64 (cn : Int)] 41)))
         have b2 := ext_blk_keep hB1 (heap_alloc_at (w.alloc (.cells #[.slice A n wc, .slice S pn pc, .int .i64 wrong, .slice H n hc, .slice T sn sc, .int .i64 start, .int .i64 (cn : Int)] 41)) (.cells #[.slice none 0 0] 29) (k := w.heap.size + 1) (by simp))
         have hc1 := blk_cell b1
         have hl1 : w.heap.size < w1.heap.size := (Array.getElem?_eq_some_iff.1 b1).1
         have e1 : Ext w w1 := ext_trans (by go_grown) hB1
         have HMN := hid hmn
         have HWORK := hid hwork
         have HB1 := hid b1
         have HB2 := hid b2
         clear hmn hwork b1 b2)
      | (go_at_call 91; refine (walks_c _ _ _).mono ?_; rintro e w3 ⟨rfl, rfl⟩))
    obtain ⟨Wd, hWd⟩ : ∃ Wd, (((w1.alloc (.cells #[.pointer (some ⟨q, 0, none⟩)] 102)).alloc (.cells #[.int .i64 8, .int .i64 0] 150)).alloc (.cells #[.slice A n wc, .slice S pn pc, .int .i64 wrong, .slice H n hc, .slice T sn sc, .int .i64 start, .int .i64 (cn : Int)] 41)).alloc (.cells #[.int .i64 (cn : Int)] 3) = Wd := ⟨_, rfl⟩
    have d5 : Wd.heap[w1.heap.size]? = some (.cells #[.pointer (some ⟨q, 0, none⟩)] 102 (0, 0)) := by rw [← hWd]; exact heap_alloc_keep (heap_alloc_keep (heap_alloc_keep (heap_alloc_new w1 _)))
    have d6 : Wd.heap[w1.heap.size + 1]? = some (.cells #[.int .i64 8, .int .i64 0] 150 (0, 0)) := by rw [← hWd]; exact heap_alloc_keep (heap_alloc_keep (heap_alloc_at _ _ (by simp)))
    have d7 : Wd.heap[w1.heap.size + 1 + 1]? = some (.cells #[.slice A n wc, .slice S pn pc, .int .i64 wrong, .slice H n hc, .slice T sn sc, .int .i64 start, .int .i64 (cn : Int)] 41 (0, 0)) := by rw [← hWd]; exact heap_alloc_keep (heap_alloc_at _ _ (by simp))
    have d8 : Wd.heap[w1.heap.size + 1 + 1 + 1]? = some (.cells #[.int .i64 (cn : Int)] 3 (0, 0)) := by rw [← hWd]; exact heap_alloc_at _ _ (by simp)
    have hEd : Ext w1 Wd := by rw [← hWd]; go_grown
    have hsd : Wd.heap.size = w1.heap.size + 4 := by rw [← hWd]; simp
    rw [hWd]
    have D5 := hid d5
    have D6 := hid d6
    have D7 := hid d7
    have D8 := hid d8
    have HED := hid hEd
    have HSD := hid hsd
    have HD1 := hid (ext_blk_keep hEd HB1.out)
    have HD2 := hid (ext_blk_keep hEd HB2.out)
    have HWK := hid (HWORK.out.ext hEd)
    have hs2 : w.heap.size + 1 < w1.heap.size := (Array.getElem?_eq_some_iff.1 HB2.out).1
    have hs2d : w.heap.size + 1 < Wd.heap.size := by omega
    have HE1 := hid (ext_trans e1 hEd)
    clear d5 d6 d7 d8 hEd hsd hWd hc1 hl1
    refine wp_range (gf := 116) (lb := #[.pointer (some ⟨w1.heap.size + 1 + 1, 0, none⟩), .pointer (some ⟨w1.heap.size + 1 + 1 + 1, 0, none⟩)]) rfl ?eg (walks_iter (w1.heap.size + 1 + 1) (w1.heap.size + 1 + 1 + 1) A n wc _ _ _ wrong start (cn : Int) cn (by omega) (by have := KE.out.n3; omega) Wd D7.out D8.out) (ext_refl Wd) (fun D ow W1 W2 h => ⟨Below.size h, fun b hb hl => Below.block h b hl⟩)
      (fun b => b = w.heap.size + 1 ∨ b = w1.heap.size + 1) ?hcb (fun ow pre W' => ∃ v, BestI (bestRun n home streets start (cn : Int) moves pre) (w.heap.size + 1) (w1.heap.size + 1) (Wd.heap.size + 1) Wd ow W' v) (fun _ _ _ => False) ?hIb ?hIst ?hIl (fun _ _ _ _ h => h) ?hstart ?hround ?hdone (fun _ _ _ _ h => h.elim)
    case eg =>
      have h1 : (Tryz.f116.name == "runtime.NumGoroutine") = false := by kernel_rfl
      have h2 : Tryz.f116.body.isNone = false := by kernel_rfl
      have h1' : ¬ Tryz.f116.name = "runtime.NumGoroutine" := by simpa using h1
      have h2' : ¬ Tryz.f116.body = none := by
        intro h
        rw [h] at h2
        cases h2
      exact fun args w => by simp [go_sem, callFunc, Tryz.func116, h1', h2']
    case hcb =>
      intro b hb
      have := HSD.out
      rcases hb with rfl | rfl <;> exact ⟨by omega, by omega⟩
    case hIb =>
      rintro ow pre W' b ⟨v, hI⟩ hob
      have := HSD.out
      have := hI.kept.size
      rcases (hI.iff b).1 hob with rfl | rfl <;> exact ⟨by omega, by omega, by omega⟩
    case hIst =>
      rintro ow pre W1 W2 ⟨v, hI⟩ hfr
      exact ⟨v, hI.ext hfr⟩
    case hIl =>
      rintro ow pre W' o ⟨v, hI⟩
      have := HSD.out
      exact ⟨v, hI.put (by omega) (by omega) (by omega) o⟩
    case hstart =>
      intro W1 he hs
      refine ⟨.slice none 0 0, fun b => Iff.rfl, Kept.of_ext he, ext_blk_keep he HD2.out, ext_blk_keep he D6.out, IsInts.nil _ _, fun b hb => by simp [Value.ownBlock] at hb, ?_⟩
      intro A' m c hv hm
      injection hv with _ h _
      omega
    case hround =>
      rintro ow pre x v W' ⟨bv, hI⟩ hpre ⟨hx, hnew⟩ ⟨lr, hlr⟩
      have hsd := HSD.out
      have hsem := Oper.semAt_some (Wd.heap.size + 1)
      have hoff := ints_off hx hlr
      have HI1 := hid hI
      have HPRE := hid hpre
      have HNEW := hid hnew
      have HOFF := hid hoff
      have HSX := hid hsd
      clear hI hpre hnew hoff hsd
      gi_wp2_with fail
      refine ⟨by first | exact ext_refl _ | go_grown, ?_⟩
      rintro W2 ⟨ob, hW2⟩
      have hI2 : BestI (bestRun n home streets start (cn : Int) moves pre) (w.heap.size + 1) (w1.heap.size + 1) (Wd.heap.size + 1) Wd ow W2 bv := by rw [hW2]; exact HI1.out.put (by omega) (by have := HSX.out; omega) (by omega) ob
      have hX2 : IsInts W2 v x := by rw [hW2]; exact ints_loop hx hlr
      have hxw := walks_ok hcn (prefix_mem HPRE.out)
      have hkp := hI2.kept
      have hne : ∀ b, b < w1.heap.size → b ≠ w.heap.size + 1 → ¬ (b = w.heap.size + 1 ∨ b = w1.heap.size + 1) := fun b h1 h2 h => by rcases h with h | h <;> omega
      have i1 := hkp.keep HD1.out (hne _ (by omega) (by omega))
      have i5 := hkp.keep D5.out (fun h => by rcases h with h | h <;> omega)
      have hwk : WorkAt W2 q A n wc S pn pc wrong H n hc T sn sc start (cn : Int) M mn mc moves := by
        refine ⟨hkp.keep HWK.out.cells (fun h => ?_), movs_from HWORK.out.movs (fun b hb hne' => ?_) HB2.out (fun x h => by cases h), HMN.out, HWORK.out.m7⟩
        · have h1 := (Array.getElem?_eq_some_iff.1 HWORK.out.cells).1
          simp at hq
          rcases h with h | h <;> omega
        · rw [hkp.blk b (by have := HSX.out; omega) (fun h => by rcases h with h | h <;> omega), HED.out.block b hb]
      have hew : Ext w W2 := hkp.extOld HE1.out (fun b hb h => by rcases h with h | h <;> omega)
      have hko := KO.out.ext hew
      have hc1 := blk_cell i1
      have hc5 := blk_cell i5
      obtain ⟨s, hs⟩ : ∃ s, bestRun n home streets start (cn : Int) moves pre = s := ⟨_, rfl⟩
      have hsn := bestRun_snoc n home streets start (cn : Int) moves pre x
      rw [hs] at hI2 hsn
      obtain ⟨sl, sk, se⟩ := s
      have hc6 := blk_cell hI2.h6
      simp only at hc6
      have HI2 := hid hI2
      have HSN := hid hsn
      have HX2 := hid hX2
      have HWT := hid hwk
      have HKO := hid hko
      have I1 := hid i1
      have hxl := hxw.len
      obtain ⟨V, vc, rfl⟩ := hx.val
      clear hI2 hsn hX2 hwk hko hkp hne i1 i5 hs hW2 hx hlr hew
      by_cases c1 : sk < (x.length : Int)
      · have c1d : decide (sk < (x.length : Int)) = true := decide_eq_true c1
        gi_wp2_with fail
        refine ⟨trivial, ?_⟩
        gi_wp2_with fail
        refine ⟨trivial, ?_⟩
        gi_wp2_with fail
        have hb : bstep n home streets start (cn : Int) moves (sl, sk, se) x = (sl, sk, se) := by rw [bstep, if_pos c1]
        exact ⟨Kept.refl _ _, ow, ⟨bv, by rw [HSN.out, hb]; exact HI2.out⟩, fun b hb => .inl hb⟩
      · have c1' : decide (sk < (x.length : Int)) = false := decide_eq_false c1
        obtain ⟨mb, hmb⟩ : ∃ mb, bringsAll moves x [] = mb := ⟨_, rfl⟩
        obtain ⟨sb, hsb⟩ : ∃ sb, sureF n home streets start (cn : Int) x = sb := ⟨_, rfl⟩
        have HMB := hid hmb
        have HSB := hid hsb
        clear hmb hsb
        have hmiss := hid (callsIn_round (l := Wd.heap.size + 1) (n := 0) (missing_c q _ _ _ _ _ _ _ M mn mc moves (.slice V x.length vc) (.slice none 0 0) x [] W2 HWT.out.cells HWT.out.movs HMN.out (by have := HWT.out.m7; omega) HX2.out (by omega) (IsInts.nil _ _)))
        cases mb
        · gi_wp2_with fail
          refine ⟨trivial, rfl, (hmiss.out).mono ?_⟩
          rintro e W3 ⟨rfl, hE3⟩
          rw [HMB.out]
          gi_wp2_with fail
          refine ⟨trivial, ?_⟩
          gi_wp2_with fail
          have hb : bstep n home streets start (cn : Int) moves (sl, sk, se) x = (sl, sk, se) := by rw [bstep, if_neg (show ¬ sk < (x.length : Int) from by omega), if_pos HMB.out]
          exact ⟨Kept.of_ext hE3, ow, ⟨bv, by rw [HSN.out, hb]; exact HI2.out.ext hE3⟩, fun b hb => .inl hb⟩
        · cases sb
          · gi_wp2_with fail
            refine ⟨trivial, rfl, (hmiss.out).mono ?_⟩
            rintro e W3 ⟨rfl, hE3⟩
            rw [HMB.out]
            have hc1' := blk_cell (ext_blk_keep hE3 I1.out)
            gi_wp2_with fail
            refine ⟨trivial, rfl, (callsIn_round (sure_c (HKO.out.ext hE3) _ _ wrong (cn : Int) A wc x (HX2.out.ext hE3) hxw)).mono ?_⟩
            rintro e W4 ⟨rfl, hE4⟩
            rw [HSB.out]
            gi_wp2_with fail
            have hb : bstep n home streets start (cn : Int) moves (sl, sk, se) x = (sl, sk, se) := by rw [bstep, if_neg (show ¬ sk < (x.length : Int) from by omega), if_neg (by rw [HMB.out]; simp), if_pos HSB.out]
            exact ⟨Kept.of_ext (ext_trans hE3 hE4), ow, ⟨bv, by rw [HSN.out, hb]; exact HI2.out.ext (ext_trans hE3 hE4)⟩, fun b hb => .inl hb⟩
          · gi_wp2_with fail
            refine ⟨trivial, rfl, (hmiss.out).mono ?_⟩
            rintro e W3 ⟨rfl, hE3⟩
            rw [HMB.out]
            have hc1' := blk_cell (ext_blk_keep hE3 I1.out)
            gi_wp2_with fail
            refine ⟨trivial, rfl, (callsIn_round (sure_c (HKO.out.ext hE3) _ _ wrong (cn : Int) A wc x (HX2.out.ext hE3) hxw)).mono ?_⟩
            rintro e W4 ⟨rfl, hE4⟩
            rw [HSB.out]
            have hE24 := ext_trans hE3 hE4
            clear hc1' hc1
            have hc1'' := blk_cell (ext_blk_keep hE24 I1.out)
            clear hc5 hc6
            obtain ⟨en, hen⟩ : ∃ en, endF n home streets start x = en := ⟨_, rfl⟩
            obtain ⟨bb, hbb⟩ : ∃ bb, (decide ((x.length : Int) < sk) || decide ((x.length : Int) = sk) && decide (en < se)) = bb := ⟨_, rfl⟩
            have HEN := hid hen
            have HBB := hid hbb
            clear hen hbb
            gi_wp2_with fail
            refine ⟨trivial, rfl, (callsIn_round (rank_c (HKO.out.ext hE24) _ _ wrong (cn : Int) A wc x (HX2.out.ext hE24) hxw)).mono ?_⟩
            rintro e W5 ⟨rfl, hE5⟩
            rw [HEN.out]
            have hE25 := ext_trans hE24 hE5
            clear hc1''
            have hc6' := blk_cell (ext_blk_keep hE25 HI2.out.h6)
            have hl6 : w1.heap.size + 1 < W5.heap.size := by have := hE25.size; have := (Array.getElem?_eq_some_iff.1 HI2.out.h6).1; omega
            gi_wp2_with fail
            refine ⟨trivial, rfl, (callsIn_round (before_c _ _ _ _ _)).mono ?_⟩
            rintro e W6 ⟨rfl, hE6⟩
            rw [HBB.out]
            obtain ⟨W5', hW5'⟩ : ∃ W5', W5.alloc (.cells #[.int .i64 (x.length : Int), .int .i64 en] 150) = W5' := ⟨_, rfl⟩
            rw [hW5'] at hE6
            have hE5' : Ext W5 W5' := by rw [← hW5']; go_grown
            have b8 : W5'.heap[W5.heap.size]? = some (.cells #[.int .i64 (x.length : Int), .int .i64 en] 150 (0, 0)) := by rw [← hW5']; exact heap_alloc_new W5 _
            have hE26 := ext_trans hE25 (ext_trans hE5' hE6)
            have B8 := hid (ext_blk_keep hE6 b8)
            have HI6 := hid (HI2.out.ext hE26)
            clear hW5' b8 hc6'
            cases bb
            · gi_wp2_with fail
              have hb : bstep n home streets start (cn : Int) moves (sl, sk, se) x = (sl, sk, se) := by rw [bstep, if_neg (show ¬ sk < (x.length : Int) from by omega), if_neg (by rw [HMB.out]; simp), if_neg (by rw [HSB.out]; simp), HEN.out, if_neg (by rw [HBB.out]; simp)]
              exact ⟨Kept.of_ext hE26, ow, ⟨bv, by rw [HSN.out, hb]; exact HI6.out⟩, fun b hb => .inl hb⟩
            · gi_wp2_with fail
              have hlt1 : w1.heap.size + 1 < Wd.heap.size := by have := HSX.out; omega
              have hkd := HI6.out.kept.size
              have hlt8 : Wd.heap.size ≤ W5.heap.size := by have := hE25.size; have := HI2.out.kept.size; omega
              have g8 : ∀ W', Kept (fun b => b = w.heap.size + 1 ∨ b = w1.heap.size + 1) W6 W' → ∀ j, W'.cell? ⟨W5.heap.size, j, none⟩ = (#[.int .i64 (x.length : Int), .int .i64 en] : Array Value)[j]? := fun W' hk => blk_cell (hk.keep B8.out (fun h => by rcases h with h | h <;> omega))
              have c2 := blk_cell HI6.out.h2
              have z2 : ∀ j, W6.frozen? ⟨w.heap.size + 1, j, none⟩ = false := fun j => frozen_of_row W6 _ j _ _ HI6.out.h2
              have c6 := blk_cell HI6.out.h6
              simp only at c6
              have z6 : ∀ j, W6.frozen? ⟨w1.heap.size + 1, j, none⟩ = false := fun j => frozen_of_row W6 _ j _ _ HI6.out.h6
              have n1 : w.heap.size + 1 ≠ w1.heap.size + 1 := by omega
              have n2 : w1.heap.size + 1 ≠ w.heap.size + 1 := by omega
              have n3 : w.heap.size ≠ w1.heap.size := by omega
              have n4 : w1.heap.size ≠ w.heap.size := by omega
              refine region_roundR (Kept (fun b => b = w.heap.size + 1 ∨ b = w1.heap.size + 1) W6) 4 #[false, false, false, false] (by kernel_rfl) (by kernel_rfl) (by kernel_rfl) (by kernel_rfl) (fun R HR => ?_)
              obtain ⟨Wg, hWg⟩ : ∃ Wg, W6.drew = Wg := ⟨_, rfl⟩
              have hKg : Kept (fun b => b = w.heap.size + 1 ∨ b = w1.heap.size + 1) W6 Wg := by rw [← hWg]; exact (Kept.refl _ _).drew
              have cg2 : ∀ j, Wg.cell? ⟨w.heap.size + 1, j, none⟩ = (#[bv] : Array Value)[j]? := by rw [← hWg]; exact c2
              have zg2 : ∀ j, Wg.frozen? ⟨w.heap.size + 1, j, none⟩ = false := by rw [← hWg]; exact z2
              have cg6 : ∀ j, Wg.cell? ⟨w1.heap.size + 1, j, none⟩ = (#[.int .i64 sk, .int .i64 se] : Array Value)[j]? := by rw [← hWg]; exact c6
              have zg6 : ∀ j, Wg.frozen? ⟨w1.heap.size + 1, j, none⟩ = false := by rw [← hWg]; exact z6
              have hg2 : Wg.heap[w.heap.size + 1]? = some (.cells #[bv] 29 (0, 0)) := by rw [← hWg]; exact HI6.out.h2
              have hg6 : Wg.heap[w1.heap.size + 1]? = some (.cells #[.int .i64 sk, .int .i64 se] 150 (0, 0)) := by rw [← hWg]; exact HI6.out.h6
              have HG2 := hid hg2
              have HG6 := hid hg6
              rw [hWg]
              clear c2 z2 c6 z6 hWg hg2 hg6
              refine takeR (i := 0) (oi := ?_) (v := ?_) ?_ (by kernel_rfl) (by kernel_rfl) (by kernel_rfl) ?_ ?_ (by assumption) ?_
              rotate_left 2
              · simp only [List.getElem?_toArray, List.getElem?_cons_succ, List.getElem?_cons_zero]; rfl
              · kernel_rfl
              · intro Wx hSx
                try dsimp only at hSx
                go_simp
                try with_reducible rfl
              simp only [Act.put, List.setIfInBounds_toArray, List.set_cons_zero, List.set_cons_succ]
              refine takeR (i := 1) (oi := ?_) (v := ?_) ?_ (by kernel_rfl) (by kernel_rfl) (by kernel_rfl) ?_ ?_ (by assumption) ?_
              rotate_left 2
              · simp only [List.getElem?_toArray, List.getElem?_cons_succ, List.getElem?_cons_zero]; rfl
              · kernel_rfl
              · intro Wx hSx
                try dsimp only at hSx
                go_simp
                try with_reducible rfl
              simp only [Act.put, List.setIfInBounds_toArray, List.set_cons_zero, List.set_cons_succ]
              refine wpAnyH_ready (rs := [2]) (by kernel_rfl) (by simp) ?_
              refine AllReadyH.cons (o := ?_) ?_ (fun K hK => ?_) AllReadyH.nil
              rotate_left
              · simp only [List.getElem?_toArray, List.getElem?_cons_succ, List.getElem?_cons_zero]; rfl
              go_simp
              refine hK.out _ _ (hKg.set _ (.inl rfl)) (fun hHeld => ?_)
              clear hK K
              simp only [Act.put, List.setIfInBounds_toArray, List.set_cons_zero, List.set_cons_succ]
              refine wpAnyH_ready (rs := [3]) (by kernel_rfl) (by simp) ?_
              refine AllReadyH.cons (o := ?_) ?_ (fun K hK => ?_) AllReadyH.nil
              rotate_left
              · simp only [List.getElem?_toArray, List.getElem?_cons_succ, List.getElem?_cons_zero]; rfl
              go_simp
              have hKend : Kept (fun b => b = w.heap.size + 1 ∨ b = w1.heap.size + 1) W6 (((Wg.setCell ⟨w.heap.size + 1, 0, none⟩ (.slice V x.length vc)).setCell ⟨w1.heap.size + 1, 0, none⟩ (.int .i64 (x.length : Int))).setCell ⟨w1.heap.size + 1, 1, none⟩ (.int .i64 en)) := ((hKg.set _ (.inl rfl)).set _ (.inr rfl)).set _ (.inr rfl)
              refine hK.out _ _ hKend (fun hHeld => ?_)
              clear hK K
              simp only [Act.put, List.setIfInBounds_toArray, List.set_cons_zero, List.set_cons_succ]
              refine done_R HR (by kernel_rfl) ?_
              clear HR
              gi_wp2_with fail
              have hb : bstep n home streets start (cn : Int) moves (sl, sk, se) x = (x, (x.length : Int), en) := by rw [bstep, if_neg (show ¬ sk < (x.length : Int) from by omega), if_neg (by rw [HMB.out]; simp), if_neg (by rw [HSB.out]; simp), HEN.out, if_pos HBB.out]
              have hk2 : Kept ow W2 (((Wg.setCell ⟨w.heap.size + 1, 0, none⟩ (.slice V x.length vc)).setCell ⟨w1.heap.size + 1, 0, none⟩ (.int .i64 (x.length : Int))).setCell ⟨w1.heap.size + 1, 1, none⟩ (.int .i64 en)) := (Kept.of_ext hE26).trans (hKend.mono fun b h => (HI2.out.iff b).2 h)
              refine ⟨hk2, ow, ⟨.slice V x.length vc, ?_⟩, fun b hb => .inl hb⟩
              rw [HSN.out, hb]
              refine ⟨HI2.out.iff, HI2.out.kept.trans (hk2.mono fun b h => (HI2.out.iff b).1 h), ?_, ?_, ?_, HNEW.out, HOFF.out⟩
              · exact heap_set_keep n1 (heap_set_keep n1 (heap_set_at HG2.out rfl))
              · exact heap_set_at (heap_set_at (heap_set_keep n2 HG6.out) rfl) rfl
              · exact (HX2.out.ext hE26).kept (fun b hb h => by have := HNEW.out b hb; rcases h with h | h <;> omega) hKend
    case hdone =>
      rintro ow W' ⟨v, hI⟩ hK
      obtain ⟨s, hs⟩ : ∃ s, bestRun n home streets start (cn : Int) moves (walksFrom n cn []) = s := ⟨_, rfl⟩
      rw [hs] at hI
      have hbs : bestS women pieces wrong home streets start (cn : Int) = s := by rw [bestS, HNL.out, HMV.out, Int.toNat_natCast, hs]
      obtain ⟨sl, sk, se⟩ := s
      have HBS := hid hbs
      have HK := hid hK
      have HI := hid hI
      have c6 := blk_cell hI.h6
      simp only at c6
      obtain ⟨V, vc, rfl⟩ := hI.ints.val
      have c2 := blk_cell hI.h2
      have z2 : ∀ j, W'.frozen? ⟨w.heap.size + 1, j, none⟩ = false := fun j => frozen_of_row W' _ j _ _ hI.h2
      have hew : Ext w W' := hI.kept.extOld HE1.out (fun b hb h => by rcases h with h | h <;> omega)
      have HEW := hid hew
      have hsd := HSD.out
      have HSX := hid hsd
      clear hs hbs hK hI hew hsd
      by_cases c7 : 7 < sk
      · go_wp2
        have hC : bestC women pieces wrong home streets start (cn : Int) = 10 := by rw [bestC, if_pos HCD.out, HBS.out, if_pos c7]
        have hmk : (W'.setCell ⟨w.heap.size + 1, 0, none⟩ (.slice none 0 0)).heap[Wd.heap.size]? = some (.deferred (some [])) := heap_set_keep (by omega) HK.out
        refine leaves_mark hmk (v := .tuple #[.slice none 0 0, .int .i64 0, .int .i64 10]) ?_ ?_
        · have hb2 : (W'.setCell ⟨w.heap.size + 1, 0, none⟩ (.slice none 0 0)).heap[w.heap.size + 1]? = some (.cells #[.slice none 0 0] 29 (0, 0)) := heap_set_at HI.out.h2 rfl
          have hb3 : ((W'.setCell ⟨w.heap.size + 1, 0, none⟩ (.slice none 0 0)).putObj Wd.heap.size (.deferred none)).heap[w.heap.size + 1]? = some (.cells #[.slice none 0 0] 29 (0, 0)) := by rw [World.putObj_heap_other (by omega)]; exact hb2
          have g2 := blk_cell hb3 0
          simp only [List.getElem?_toArray, List.getElem?_cons_zero] at g2
          simp [results, Tryz.f52, go_sem, g2]
        · refine ⟨_, by rw [bestN, if_neg (by rw [hC]; decide), hC], ?_, ?_⟩
          · rw [bestL, if_neg (by rw [hC]; decide)]
            exact IsInts.nil _ _
          · exact ((Kept.refl (fun b => b = w.heap.size + 1 ∨ b = Wd.heap.size) W').set _ (.inl rfl) |>.putObj _ (.inr rfl)).extOld HEW.out (fun b hb h => by rcases h with h | h <;> omega)
      · have hC : bestC women pieces wrong home streets start (cn : Int) = 0 := by rw [bestC, if_pos HCD.out, HBS.out, if_neg c7]
        have HCZ := hid hC
        clear hC
        go_wp2
        have s2 : ∀ Wx, (Kept (fun b => b = w.heap.size + 1) W' Wx ∧ Wx.heap[w.heap.size + 1]? = some (.cells #[.slice V sl.length vc] 29 (0, 0))) → Wx.cell? ⟨w.heap.size + 1, 0, none⟩ = some (.slice V sl.length vc) := fun Wx h => blk_cell h.2 0
        have s6 : ∀ Wx, (Kept (fun b => b = w.heap.size + 1) W' Wx ∧ Wx.heap[w.heap.size + 1]? = some (.cells #[.slice V sl.length vc] 29 (0, 0))) → ∀ j, Wx.cell? ⟨w1.heap.size + 1, j, none⟩ = (#[.int .i64 sk, .int .i64 se] : Array Value)[j]? := fun Wx h => blk_cell (h.1.keep HI.out.h6 (by omega))
        refine region_plainR (fun Wx => Kept (fun b => b = w.heap.size + 1) W' Wx ∧ Wx.heap[w.heap.size + 1]? = some (.cells #[.slice V sl.length vc] 29 (0, 0))) 6 #[false, false, false, false, false, false] (by kernel_rfl) (by kernel_rfl) (by kernel_rfl) (fun R HR => ?_)
        obtain ⟨Wg, hWg⟩ : ∃ Wg, W'.drew = Wg := ⟨_, rfl⟩
        have hSg : Kept (fun b => b = w.heap.size + 1) W' Wg ∧ Wg.heap[w.heap.size + 1]? = some (.cells #[.slice V sl.length vc] 29 (0, 0)) := by rw [← hWg]; exact ⟨(Kept.refl _ _).drew, HI.out.h2⟩
        rw [hWg]
        have cg2 := s2 Wg hSg
        have zg2 : ∀ j, Wg.frozen? ⟨w.heap.size + 1, j, none⟩ = false := fun j => frozen_of_row Wg _ j _ _ hSg.2
        clear hWg c2 z2 c6
        refine takeR (i := 0) (oi := ?_) (v := ?_) ?_ (by kernel_rfl) (by kernel_rfl) (by kernel_rfl) ?_ ?_ (by assumption) ?_
        rotate_left 2
        · simp only [List.getElem?_toArray, List.getElem?_cons_succ, List.getElem?_cons_zero]; rfl
        · kernel_rfl
        · intro Wx hSx
          try dsimp only at hSx
          go_simp
          try with_reducible rfl
        simp only [Act.put, List.setIfInBounds_toArray, List.set_cons_zero, List.set_cons_succ]
        refine takeR (i := 1) (oi := ?_) (v := ?_) ?_ (by kernel_rfl) (by kernel_rfl) (by kernel_rfl) ?_ ?_ (by assumption) ?_
        rotate_left 2
        · simp only [List.getElem?_toArray, List.getElem?_cons_succ, List.getElem?_cons_zero]; rfl
        · kernel_rfl
        · intro Wx hSx
          try dsimp only at hSx
          go_simp
          try with_reducible rfl
        simp only [Act.put, List.setIfInBounds_toArray, List.set_cons_zero, List.set_cons_succ]
        refine takeR (i := 2) (oi := ?_) (v := ?_) ?_ (by kernel_rfl) (by kernel_rfl) (by kernel_rfl) ?_ ?_ (by assumption) ?_
        rotate_left 2
        · simp only [List.getElem?_toArray, List.getElem?_cons_succ, List.getElem?_cons_zero]; rfl
        · kernel_rfl
        · intro Wx hSx
          try dsimp only at hSx
          go_simp
          try with_reducible rfl
        simp only [Act.put, List.setIfInBounds_toArray, List.set_cons_zero, List.set_cons_succ]
        clear cg2
        have cg2 : ∀ j, Wg.cell? ⟨w.heap.size + 1, j, none⟩ = (#[.slice V sl.length vc] : Array Value)[j]? := blk_cell hSg.2
        refine wpAnyH_ready (rs := [3]) (by kernel_rfl) (by simp) ?_
        refine AllReadyH.cons (o := ?_) ?_ (fun K hK => ?_) AllReadyH.nil
        rotate_left
        · simp only [List.getElem?_toArray, List.getElem?_cons_succ, List.getElem?_cons_zero]; rfl
        go_simp
        have hSe : Kept (fun b => b = w.heap.size + 1) W' (Wg.setCell ⟨w.heap.size + 1, 0, none⟩ (.slice V sl.length vc)) ∧ (Wg.setCell ⟨w.heap.size + 1, 0, none⟩ (.slice V sl.length vc)).heap[w.heap.size + 1]? = some (.cells #[.slice V sl.length vc] 29 (0, 0)) := ⟨hSg.1.set _ rfl, heap_set_at hSg.2 rfl⟩
        refine hK.out _ _ hSe (fun hHeld => ?_)
        clear hK K
        simp only [Act.put, List.setIfInBounds_toArray, List.set_cons_zero, List.set_cons_succ]
        refine takeR (i := 4) (oi := ?_) (v := ?_) ?_ (by kernel_rfl) (by kernel_rfl) (by kernel_rfl) ?_ ?_ (by assumption) ?_
        rotate_left 2
        · simp only [List.getElem?_toArray, List.getElem?_cons_succ, List.getElem?_cons_zero]; rfl
        · kernel_rfl
        · intro Wx hSx
          try dsimp only at hSx
          go_simp
          try with_reducible rfl
        simp only [Act.put, List.setIfInBounds_toArray, List.set_cons_zero, List.set_cons_succ]
        refine takeR (i := 5) (oi := ?_) (v := ?_) ?_ (by kernel_rfl) (by kernel_rfl) (by kernel_rfl) ?_ ?_ (by assumption) ?_
        rotate_left 2
        · simp only [List.getElem?_toArray, List.getElem?_cons_succ, List.getElem?_cons_zero]; rfl
        · kernel_rfl
        · intro Wx hSx
          try dsimp only at hSx
          go_simp
          try with_reducible rfl
        simp only [Act.put, List.setIfInBounds_toArray, List.set_cons_zero, List.set_cons_succ]
        refine done_R HR (by kernel_rfl) ?_
        clear HR s2 s6 cg2 zg2
        go_wp2
        have hKz : Kept (fun b => b = w.heap.size + 1 ∨ b = Wd.heap.size) W' ((Wg.setCell ⟨w.heap.size + 1, 0, none⟩ (.slice V sl.length vc)).putObj Wd.heap.size (.deferred none)) := (hSe.1.mono fun b h => .inl h).putObj _ (.inr rfl)
        have hmk : (Wg.setCell ⟨w.heap.size + 1, 0, none⟩ (.slice V sl.length vc)).heap[Wd.heap.size]? = some (.deferred (some [])) := hSe.1.keep HK.out (by omega)
        refine leaves_mark hmk (v := .tuple #[.slice V sl.length vc, .int .i64 se, .int .i64 0]) ?_ ?_
        · have hb3 : ((Wg.setCell ⟨w.heap.size + 1, 0, none⟩ (.slice V sl.length vc)).putObj Wd.heap.size (.deferred none)).heap[w.heap.size + 1]? = some (.cells #[.slice V sl.length vc] 29 (0, 0)) := by rw [World.putObj_heap_other (by omega)]; exact hSe.2
          have g2 := blk_cell hb3 0
          simp only [List.getElem?_toArray, List.getElem?_cons_zero] at g2
          simp [results, Tryz.f52, go_sem, g2]
        · refine ⟨_, by rw [bestN, if_pos HCZ.out, HCZ.out, HBS.out], ?_, ?_⟩
          · rw [bestL, if_pos HCZ.out, HBS.out]
            refine ints_kept2 (ow := fun b => b = w.heap.size + 1 ∨ b = Wd.heap.size) HI.out.ints (fun b h => ?_) hKz
            rcases h with rfl | rfl
            · exact off_new HI.out.new (by omega)
            · exact ints_off2 HI.out.ints HK.out
          · exact hKz.extOld HEW.out (fun b hb h => by rcases h with h | h <;> omega)
  · have h0' : (code == 0) = false := beq_eq_false_iff_ne.2 h0
    have hbc : bestC women pieces wrong home streets start calls = code := by rw [bestC, if_neg (by rw [HCD.out]; exact h0), HCD.out]
    have HBC := hid hbc
    clear hbc
    go_wp2_with (go_at_call 66; refine (wask_no_all A n wc S pn pc wrong H hn hc T sn sc start calls women pieces home streets true _ (KE.out.ext (by go_grown)) hcall code HCB h0).mono ?_; rintro e w1 ⟨rfl, hB1⟩
                 have b2 := ext_blk_keep hB1 (heap_alloc_at (w.alloc (.cells #[.slice A n wc, .slice S pn pc, .int .i64 wrong, .slice H hn hc, .slice T sn sc, .int .i64 start, .int .i64 calls] 41)) (.cells #[.slice none 0 0] 29) (k := w.heap.size + 1) (by simp))
                 have c2 := blk_cell b2
                 have z2 : ∀ j, w1.frozen? ⟨w.heap.size + 1, j, none⟩ = false := fun j => frozen_of_row w1 _ j _ _ b2
                 have hl2 : w.heap.size + 1 < w1.heap.size := (Array.getElem?_eq_some_iff.1 b2).1
                 have B2 := hid b2
                 have HE1 := hid (ext_trans (by go_grown) hB1 : Ext w w1)
                 clear b2)
    have g2 : ((w1.setCell ⟨w.heap.size + 1, 0, none⟩ (.slice none 0 0)).alloc (.cells #[.pointer none] 102)).heap[w.heap.size + 1]? = some (.cells #[.slice none 0 0] 29 (0, 0)) := heap_alloc_keep (heap_set_at B2.out rfl)
    have k2 := blk_cell g2 0
    simp only [List.getElem?_toArray, List.getElem?_cons_zero] at k2
    have hs := HE1.out.size
    have hk3 : Kept (fun b => b = w.heap.size + 1) w1 ((w1.setCell ⟨w.heap.size + 1, 0, none⟩ (.slice none 0 0)).alloc (.cells #[.pointer none] 102)) := ((Kept.refl (fun b => b = w.heap.size + 1) w1).set (b := w.heap.size + 1) (j := 0) _ rfl).alloc _
    refine leaves_nil (v := .tuple #[.slice none 0 0, .int .i64 0, .int .i64 code]) ?_ ⟨_, by rw [bestN, if_neg (by rw [HBC.out]; exact h0), HBC.out], ?_, hk3.extOld HE1.out (fun b hb h => by omega)⟩
    · simp [results, Tryz.f52, go_sem, k2]
    · rw [bestL, if_neg (by rw [HBC.out]; exact h0)]
      exact IsInts.nil _ _
end
end Go.Proofs.YtlcakmbejjlmeaaGreat
/- The contract of slices.Compare at two lists of one length. -/
set_option linter.unusedVariables false
set_option linter.unusedSimpArgs false
namespace Go.Proofs.YtlcakmbejjlmeaaGreat
open Go.RowKit

theorem isNaN_c (a : Int) (w : World) : Calls Tryz.prog 137 #[.int .i64 a] w fun e w' => e = .returned (.bool false) ∧ w = w' := by
  go_enter Tryz.func137, Tryz.ntmps137
  go_wp2
  go_ret
  exact ⟨ret_bool (by simp), rfl⟩
def cmpI (a b : Int) : Int := if a < b then -1 else if b < a then 1 else 0
theorem cmp_c (a b c : Int) (hc : Hid (cmpI a b = c)) (w : World) : Calls Tryz.prog 122 #[.int .i64 a, .int .i64 b] w fun e w' => e = .returned (.int .i64 c) ∧ w = w' := by
  have h := hc.out
  unfold cmpI at h
  by_cases h1 : a < b
  · rw [if_pos h1] at h
    subst h
    go_enter Tryz.func122, Tryz.ntmps122
    go_wp2_with (go_at_call 137; refine (isNaN_c _ _).mono ?_; rintro e w' ⟨rfl, rfl⟩)
    go_ret
    exact ⟨rfl, rfl⟩
  · rw [if_neg h1] at h
    by_cases h2 : b < a
    · rw [if_pos h2] at h
      subst h
      go_enter Tryz.func122, Tryz.ntmps122
      go_wp2_with (go_at_call 137; refine (isNaN_c _ _).mono ?_; rintro e w' ⟨rfl, rfl⟩)
      go_ret
      exact ⟨rfl, rfl⟩
    · rw [if_neg h2] at h
      subst h
      go_enter Tryz.func122, Tryz.ntmps122
      go_wp2_with (go_at_call 137; refine (isNaN_c _ _).mono ?_; rintro e w' ⟨rfl, rfl⟩)
      go_ret
      exact ⟨rfl, rfl⟩
def cmpF (a b : List Int) : Int := if firstT (fun i => decide (at0 a i ≠ at0 b i)) a.length < a.length then cmpI (at0 a (firstT (fun i => decide (at0 a i ≠ at0 b i)) a.length)) (at0 b (firstT (fun i => decide (at0 a i ≠ at0 b i)) a.length)) else 0
set_option maxHeartbeats 1600000 in
theorem compare_c (av bv : Value) (a b : List Int) (w : World) (ha : IsInts w av a) (hb : IsInts w bv b) (hl : a.length = b.length) :
    Calls Tryz.prog 94 #[av, bv] w fun e w' => e = .returned (.int .i64 (cmpF a b)) ∧ w = w' := by
  obtain ⟨hal, A, ac, rfl, hA⟩ := ha
  obtain ⟨hbl, B, bc, rfl, hB⟩ := hb
  obtain ⟨n, hn⟩ : ∃ n, a.length = n := ⟨_, rfl⟩
  rw [hn] at hA hal
  rw [← hl, hn] at hB
  rw [hn, ← hl, hn]
  have HA := hid hA
  have HB := hid hB
  have HN := hid hn
  have HL := hid hl
  clear hA hB hn hl hbl
  go_enter Tryz.func94, Tryz.ntmps94
  go_wp2
  go_loop [11] (fun i => ∃ k : Nat, k ≤ n ∧ i = .int .i64 k ∧ Hid (∀ j, j < k → at0 a j = at0 b j)) (fun i => n - (intOf i).toNat)
  case atStart => exact ⟨0, Nat.zero_le _, rfl, hid (fun j h => absurd h (Nat.not_lt_zero j))⟩
  case round =>
    obtain ⟨k, hk, rfl, hall⟩ := hrel
    by_cases hlt : k < n
    · obtain ⟨ab, ao, rfl, hac⟩ := HA.out (by omega)
      obtain ⟨bb, bo, rfl, hbc⟩ := HB.out (by omega)
      have c1 := hac k hlt
      have c2 := hbc k hlt
      obtain ⟨x, hx⟩ : ∃ x, at0 a k = x := ⟨_, rfl⟩
      obtain ⟨y, hy⟩ : ∃ y, at0 b k = y := ⟨_, rfl⟩
      rw [hx] at c1
      rw [hy] at c2
      have HX := hid hx
      have HY := hid hy
      obtain ⟨c, hc⟩ : ∃ c, cmpI x y = c := ⟨_, rfl⟩
      have HC := hid hc
      have hd : decide ((n : Int) ≤ (k : Int)) = false := decide_eq_false (by omega)
      clear hx hy hc hac hbc
      by_cases h0 : c = 0
      · subst h0
        go_wp2_with (go_at_call 122; refine (cmp_c _ _ _ HC _).mono ?_; rintro e w' ⟨rfl, rfl⟩)
        go_round
        case rel =>
          refine ⟨k + 1, hlt, by go_num, hid (lt_or_eq_all hall.out ?_)⟩
          have := HC.out
          unfold cmpI at this
          rw [HX.out, HY.out]
          split at this
          · simp at this
          · split at this
            · simp at this
            · omega
        case measure => simp [intOf]; omega
      · have h0' : (c != 0) = true := by rw [bne_iff_ne]; exact h0
        go_wp2_with (go_at_call 122; refine (cmp_c _ _ _ HC _).mono ?_; rintro e w' ⟨rfl, rfl⟩)
        go_ret
        have hf : firstT (fun i => decide (at0 a i ≠ at0 b i)) a.length = k := firstT_at (by
          rw [HX.out, HY.out]
          apply decide_eq_true
          rintro rfl
          have := HC.out
          simp [cmpI] at this
          omega) (fun j hj => by simp [hall.out j hj]) (by have := HN.out; omega)
        exact ⟨ret_int (by rw [cmpF, hf, if_pos (by have := HN.out; omega), HX.out, HY.out, HC.out]), rfl⟩
    · obtain rfl : k = n := by omega
      go_wp2
      go_ret
      have hf : firstT (fun i => decide (at0 a i ≠ at0 b i)) a.length = a.length := firstT_none (fun j hj => by simp [hall.out j (by have := HN.out; omega)])
      exact ⟨ret_int (by rw [cmpF, hf, if_neg (by omega)]), rfl⟩
end Go.Proofs.YtlcakmbejjlmeaaGreat
/- The contract of errand's Wait. -/
set_option linter.unusedVariables false
set_option linter.unusedSimpArgs false
namespace Go.Proofs.YtlcakmbejjlmeaaGreat
open Go.RowKit

def leftF (moves : List Mov) (l : List Int) : List Int := selM (fun p => !bringsF moves l p) moves moves.length
def wstep (n : Nat) (home streets : List Rng) (start calls : Int) (moves : List Mov) (out l : List Int) : List Int :=
  if sureF n home streets start calls l = false then out
  else if (leftF moves l).length < out.length ∨ (leftF moves l).length = out.length ∧ cmpF (leftF moves l) out < 0 then leftF moves l else out
def waitRun (n : Nat) (home streets : List Rng) (start calls : Int) (moves : List Mov) (ls : List (List Int)) : List Int := ls.foldl (wstep n home streets start calls moves) (selM (fun _ => true) moves moves.length)
def waitL (women : List Wom) (pieces : List Pce) (wrong : Int) (home streets : List Rng) (start calls : Int) : List Int :=
  if errE women pieces wrong home streets start calls = 0 then waitRun women.length home streets start calls (movesF women pieces wrong) (walksFrom women.length calls.toNat []) else []
theorem waitRun_snoc (n : Nat) (home streets : List Rng) (start calls : Int) (moves : List Mov) (ls : List (List Int)) (l : List Int) : waitRun n home streets start calls moves (ls ++ [l]) = wstep n home streets start calls moves (waitRun n home streets start calls moves ls) l := by
  simp [waitRun]
theorem selM_all (moves : List Mov) (k : Nat) : (selM (fun _ => true) moves k).length = k := by
  rw [selM, List.length_map, List.filter_eq_self.2 (by simp), List.length_range]
theorem waitRun_len (n : Nat) (home streets : List Rng) (start calls : Int) (moves : List Mov) : ∀ ls, (waitRun n home streets start calls moves ls).length ≤ moves.length := by
  intro ls
  have : ∀ (ls : List (List Int)) (out : List Int), out.length ≤ moves.length → (ls.foldl (wstep n home streets start calls moves) out).length ≤ moves.length := by
    intro ls
    induction ls with
    | nil => intro out h; exact h
    | cons l ls ih =>
      intro out h
      refine ih _ ?_
      unfold wstep
      split
      · exact h
      · split
        · exact selM_len _ _ _
        · exact h
  exact this ls _ (by rw [selM_all]; exact Nat.le_refl _)
theorem appIn_one {F : Fence} {m : Nat} {P : Program} {ops : Array Oper} {rest : List Oper} {o : Oper} {a : Act} {Q : Exit → Act → World → Prop} {w W0 : World} (hgd : o.guard = none) (s x : Operand) (t e : TypeId)
    (ho : o.op = .call { callee := .builtin .append, args := #[s, x], argTypes := #[t, t] }) (ht : P.underlying t = some (.slice e)) (z : Value) (bytes : Nat) (cs : Array Value)
    (hinfo : (P.info? e).map (fun i => (i.zero, i.size, i.bytes)) = some (some z, cs.size, bytes)) (hzs : z.cells.size = cs.size) (hsz : 0 < cs.size) (hsz2 : cs.size ≤ 100) (hby : bytes ≤ 100) (h1 : ∀ u ∈ cs.toList, u.oneCell' = true)
    (base : Nat) (v : Value) (n : Nat) (xs : List Value) (hs : a.eval s = v) (hown : W0.ownsRow base e cs.size v n xs) (hext : Ext W0 w) (H : Nat) (hx : a.eval x = .slice (some ⟨H, 0, none⟩) 1 1) (hH : w.heap[H]? = some (.cells cs e (0, 0))) (hbase : base ≤ W0.heap.size) (hl : n ≤ 1000000)
    (h : ∀ g cap w', w'.ownsRow base e cs.size (.slice (some ⟨g, 0, none⟩) (n + 1) cap) (n + 1) (xs ++ cs.toList) → Below base w w' → w.grownBy w' v.ownBlock → (v.ownBlock = some g ∨ w.heap.size ≤ g) → wpListIn F m P ops Q rest (a.put o.dst (.slice (some ⟨g, 0, none⟩) (n + 1) cap)) w') :
    wpListIn F m P ops Q (o :: rest) a w := by
  have hown' := own_ext hown hext
  obtain ⟨g, cap, w', hr, h2, h3, h4⟩ := run_app_one (P := P) (w := w) t o.type e ht z bytes cs hinfo hzs hsz hsz2 hby h1 base v n xs hown' H hH (Nat.le_trans hbase hext.size) hl
  refine wpListIn_plain hgd fun K hK' => ?_
  unfold Oper.wpIn
  refine ⟨?_, ?_⟩
  · simp [Oper.about, ho, resolve, Target.leads, Sem.run_pure]
  · rw [Oper.semAt_plain F _ _ (by rw [ho]; intro c hc'; cases hc')]
    simp [execOp, ho, resolve, invoke, builtin, hs, hx, hr, Result.andThen]
    exact hK' _ _ (h g cap w' h2 ((Below.refl base w).grown h3 (Nat.le_trans hbase hext.size) fun k hk => (own_block hown' k hk).1) h3 h4)
structure WaitI (out : List Int) (B6 L : Nat) (Wd : World) (ow : Nat → Prop) (W : World) (v : Value) : Prop where
  iff : ∀ b, ow b ↔ b = B6
  kept : Kept (fun b => b = B6) Wd W
  h6 : W.heap[B6]? = some (.cells #[v] 29 (0, 0))
  ints : IsInts W v out
  off : Off L v
  off6 : Off B6 v
theorem WaitI.ext {out : List Int} {B6 L : Nat} {Wd : World} {ow : Nat → Prop} {W W' : World} {v : Value} (h : WaitI out B6 L Wd ow W v) (e : Ext W W') : WaitI out B6 L Wd ow W' v :=
  ⟨h.iff, h.kept.ext e, ext_blk_keep e h.h6, h.ints.ext e, h.off, h.off6⟩
theorem WaitI.put {out : List Int} {B6 L : Nat} {Wd : World} {ow : Nat → Prop} {W : World} {v : Value} (h : WaitI out B6 L Wd ow W v) (h6 : B6 ≠ L) (hL : Wd.heap.size ≤ L) (o : Obj) : WaitI out B6 L Wd ow (W.putObj L o) v :=
  ⟨h.iff, ⟨h.kept.os, h.kept.tape, h.kept.output, by simpa using h.kept.size, fun b hb ho => by rw [World.putObj_heap_other (fun e : b = L => by omega)]; exact h.kept.blk b hb ho⟩,
    by rw [World.putObj_heap_other h6]; exact h.h6, ints_put h.ints h.off o, h.off, h.off6⟩
theorem off_own {w : World} {base n : Nat} {e : TypeId} {size : Nat} {v : Value} {xs : List Value} {L : Nat} (h : w.ownsRow base e size v n xs) (hl : L < base ∨ w.heap.size ≤ L) : Off L v := by
  rintro A m c rfl hm b o rfl rfl
  have := own_block h b rfl
  omega
section
variable (A : Option Addr) (n wc : Nat) (S : Option Addr) (pn pc : Nat) (wrong : Int) (H : Option Addr) (hn hc : Nat) (T : Option Addr) (sn sc : Nat) (start calls : Int) (women : List Wom) (pieces : List Pce) (home streets : List Rng)
set_option maxHeartbeats 6400000 in
set_option maxRecDepth 100000 in
theorem wait_c (w : World) (h : ErrAt w A n wc S pn pc H hn hc T sn sc women pieces home streets) :
    Calls Tryz.prog 44 #[.agg #[.slice A n wc, .slice S pn pc, .int .i64 wrong, .slice H hn hc, .slice T sn sc, .int .i64 start, .int .i64 calls]] w
      fun e w' => ∃ v, e = .returned (.tuple #[v, .int .i64 (errE women pieces wrong home streets start calls)]) ∧ IsInts w' v (waitL women pieces wrong home streets start calls) ∧ Ext w w' := by
  have KE := hid h
  clear h
  obtain ⟨code, hcd⟩ : ∃ code, errE women pieces wrong home streets start calls = code := ⟨_, rfl⟩
  have HCD := hid hcd
  have HCB : Hid (wErr (errE women pieces wrong home streets start calls) true = code) := hid (by rw [wErr_true]; exact hcd)
  have HNL := hid KE.out.wl
  rw [hcd]
  clear hcd
  have hcall : Hid (∀ W, Ext (w.alloc (.cells #[.slice A n wc, .slice S pn pc, .int .i64 wrong, .slice H hn hc, .slice T sn sc, .int .i64 start, .int .i64 calls] 41)) W → Calls Tryz.prog 90 #[] W fun e w' => e = .returned (.bool true) ∧ Ext W w') := hid fun W _ => always_c W
  refine (callsIn_wide (n := 0)).1 (callsIn_of_wp_marks Tryz.func44 rfl trivial ?_ rfl)
  simp only [Tryz.ntmps44, List.size_toArray, List.length_cons, List.length_nil, Nat.reduceAdd, Nat.reduceSub, Array.replicate_succ, Array.replicate_zero, List.push_toArray, List.append_toArray, List.nil_append, List.cons_append]
  refine wpIn_wide.2 ?_
  by_cases h0 : code = 0
  · subst h0
    obtain ⟨hnn, hok⟩ := errOk_of KE.out HCD.out
    have hnn' : n = hn := hnn.symm
    subst hnn'
    have hcl := errE_zero HCD.out
    obtain ⟨cn, rfl⟩ : ∃ cn : Nat, calls = (cn : Int) := ⟨calls.toNat, by omega⟩
    have hcn : cn ≤ 7 := by omega
    have KO := hid hok
    obtain ⟨moves, hmv⟩ : ∃ moves, movesF women pieces wrong = moves := ⟨_, rfl⟩
    have HMV := hid hmv
    clear hnn hok hcl hmv
    go_wp2_with (first
      | (go_at_call 66; refine (wask_yes_all A n wc S pn pc wrong H n hc T sn sc start (cn : Int) women pieces home streets _ (KE.out.ext (by go_grown)) hcall HCD.out).mono ?_; unfold WaskOk; rintro e w1 ⟨q, M, mn, mc, rfl, hq, hmn, hwork, hB1⟩
         rw [HMV.out] at hmn hwork
         have b1 := ext_blk_keep hB1 (heap_alloc_new w (.cells #[.slice A n wc, .slice S pn pc, .int .i64 wrong, .slice H n hc, .slice T sn sc, .int .i64 start, .int .i64 (cn : Int)] 41))
         have e1 : Ext w w1 := ext_trans (by go_grown) hB1
         have hqc := blk_cell hwork.cells
         have hql : q < w1.heap.size := (Array.getElem?_eq_some_iff.1 hwork.cells).1
         have HMN := hid hmn
         have HWORK := hid hwork
         have HB1 := hid b1
         clear hmn hwork b1))
    refine wp_gen ?_
    intro Wl hWl
    have hEl : Ext w1 Wl := by rw [hWl]; go_grown
    have l4 : Wl.heap[w1.heap.size]? = some (.cells #[.pointer (some ⟨q, 0, none⟩)] 102 (0, 0)) := by rw [hWl]; exact (by repeat (first | exact heap_alloc_at _ _ (by simp) | refine heap_alloc_keep ?_))
    have l6 : Wl.heap[w1.heap.size + 1]? = some (.cells #[.slice none 0 0] 29 (0, 0)) := by rw [hWl]; first | exact (by repeat (first | exact heap_alloc_at _ _ (by simp) | refine heap_alloc_keep ?_)) | exact heap_alloc_at _ _ (by simp)
    have hsl : Wl.heap.size = w1.heap.size + 2 := by rw [hWl]; simp
    have L4 := hid l4
    have L6 := hid l6
    have HSL := hid hsl
    have HEL := hid hEl
    have hm7 := HWORK.out.m7
    have HMO := hid (HWORK.out.movs.ext hEl)
    clear hWl l4 l6 hsl hEl hqc
    go_loopw [27] (fun i wr => ∃ (k : Nat) (v : Value), k ≤ mn ∧ i = .int .i64 k ∧ wr.heap[w1.heap.size + 1]? = some (.cells #[v] 29 (0, 0)) ∧ wr.ownsRow Wl.heap.size 3 1 v k ((selM (fun _ => true) moves k).map (Value.int .i64)) ∧ Kept (fun b => b = w1.heap.size + 1) Wl wr) (fun i _ => mn - (intOf i).toNat)
    case atStart => exact ⟨0, .slice none 0 0, Nat.zero_le _, rfl, L6.out, own_nil _ _ _ _, Kept.refl _ _⟩
    case round =>
      obtain ⟨k, v, hk, rfl, hv, hown, hkp⟩ := hrel
      by_cases hlt : k < mn
      · obtain ⟨mb, mo, hS, hmc⟩ := (movs_from HMO.out (fun b hb hne => hkp.blk b hb hne) L6.out (fun x h => by cases h) : IsMovs wr (.slice M mn mc) moves).at (by omega)
        obtain ⟨m0, m1, m2⟩ := hmc k hlt
        obtain ⟨p, hp⟩ : ∃ p, mPc moves k = p := ⟨_, rfl⟩
        obtain ⟨sr, hsr⟩ : ∃ p, mSr moves k = p := ⟨_, rfl⟩
        obtain ⟨ds, hds⟩ : ∃ p, mDs moves k = p := ⟨_, rfl⟩
        have hs := selM_succ (fun _ => true) moves k
        simp only [if_true] at hs
        rw [hp] at m0 hs
        rw [hsr] at m1
        rw [hds] at m2
        have HS := hid hs
        obtain ⟨O, oc, rfl⟩ := own_slice hown
        have c6 := blk_cell hv
        have hl6 : w1.heap.size + 1 < wr.heap.size := (Array.getElem?_eq_some_iff.1 hv).1
        have eA : Ext wr (wr.alloc (.cells #[.int .i64 p, .int .i64 sr, .int .i64 ds] 85)) := by go_grown
        have hsz : Wl.heap.size ≤ wr.heap.size := hkp.size
        have HOW := hid hown
        have HKP := hid hkp
        have HV := hid hv
        have hsl := HSL.out
        have HSX := hid hsl
        have hMe := hid hS
        clear hmc hs hp hsr hds hown hkp hv hsl
        subst hS
        go_wp2_with (at_builtin; refine app_intH rfl _ _ 29 3 rfl Tryz.underlying29 info_int Wl.heap.size _ k (selM (fun _ => true) moves k) p _ rfl rfl (by simp) (own_ext HOW.out eA) (Nat.le_trans hsz eA.size) (by omega) ?_; intro g cap w3 hown3 hB3 hg3 hlt3 hbg3
                     have b3 : w3.heap[w1.heap.size + 1]? = some (.cells #[.slice O k oc] 29 (0, 0)) := by
                       rw [hB3.block _ (by have := HSX.out; omega)]
                       exact ext_blk_keep eA HV.out
                     have c3 := blk_cell b3
                     have z3 : ∀ j, w3.frozen? ⟨w1.heap.size + 1, j, none⟩ = false := fun j => frozen_of_row w3 _ j _ _ b3
                     have B3 := hid b3
                     clear b3)
        go_roundw
        case rel =>
          refine ⟨k + 1, .slice (some ⟨g, 0, none⟩) (k + 1) cap, hlt, by go_num, heap_set_at B3.out rfl, ?_, ?_⟩
          · rw [HS.out]
            have hbg' : w1.heap.size + 1 < g := by have := HSX.out; omega
            obtain ⟨h1, h2⟩ := hown3
            refine ⟨h1, h2.imp id ?_⟩
            rintro ⟨g', cap', cur, he, hg', hc', r⟩
            have he' : g' = g := by injection he with h; injection h with h; injection h with h; exact h.symm
            exact ⟨g', cap', cur, he, hg', heap_set_keep (by omega) hc', r⟩
          · refine Kept.set ?_ _ rfl
            have hE3 : Below Wl.heap.size (wr.alloc (.cells #[.int .i64 p, .int .i64 sr, .int .i64 ds] 85)) w3 := hB3
            exact ⟨hE3.os.trans (HKP.out.ext eA).os, hE3.tape.trans (HKP.out.ext eA).tape, hE3.output.trans (HKP.out.ext eA).output, Nat.le_trans (HKP.out.ext eA).size hE3.size, fun b hb hob => (hE3.block b hb).trans ((HKP.out.ext eA).blk b hb hob)⟩
        case measure => simp [intOf]; omega
      · obtain rfl : k = mn := by omega
        have hE1 := hid (ext_trans e1 HEL.out)
        have c1 := blk_cell (hkp.keep (ext_blk_keep HEL.out HB1.out) (by have := (Array.getElem?_eq_some_iff.1 HB1.out).1; omega))
        have hl0 : w.heap.size < w1.heap.size := (Array.getElem?_eq_some_iff.1 HB1.out).1
        have hl1 : w.heap.size < wr.heap.size := by have := hkp.size; have := HEL.out.size; omega
        have HOW := hid hown
        have HKP := hid hkp
        have HV := hid hv
        clear hown hkp hv
        go_wp2_with (go_at_call 91; refine (walks_c _ _ _).mono ?_; rintro e w3 ⟨rfl, rfl⟩)
        obtain ⟨Wd, hWd⟩ : ∃ Wd, (wr.alloc (.cells #[.slice A n wc, .slice S pn pc, .int .i64 wrong, .slice H n hc, .slice T sn sc, .int .i64 start, .int .i64 (cn : Int)] 41)).alloc (.cells #[.int .i64 (cn : Int)] 3) = Wd := ⟨_, rfl⟩
        have d7 : Wd.heap[wr.heap.size]? = some (.cells #[.slice A n wc, .slice S pn pc, .int .i64 wrong, .slice H n hc, .slice T sn sc, .int .i64 start, .int .i64 (cn : Int)] 41 (0, 0)) := by rw [← hWd]; exact heap_alloc_keep (heap_alloc_new wr _)
        have d8 : Wd.heap[wr.heap.size + 1]? = some (.cells #[.int .i64 (cn : Int)] 3 (0, 0)) := by rw [← hWd]; exact heap_alloc_at _ _ (by simp)
        have hEd : Ext wr Wd := by rw [← hWd]; go_grown
        have hsd : Wd.heap.size = wr.heap.size + 2 := by rw [← hWd]; simp
        rw [hWd]
        have hl6 : w1.heap.size + 1 < wr.heap.size := (Array.getElem?_eq_some_iff.1 HV.out).1
        have D7 := hid d7
        have D8 := hid d8
        have HED := hid hEd
        have HSD := hid hsd
        have HKL := hid (HKP.out.ext hEd)
        have HD6 := hid (ext_blk_keep hEd HV.out)
        have hwd : w1.heap.size + 1 < Wd.heap.size := by omega
        clear d7 d8 hEd hsd hWd c1 hl1
        refine wp_range (gf := 116) (lb := #[.pointer (some ⟨wr.heap.size, 0, none⟩), .pointer (some ⟨wr.heap.size + 1, 0, none⟩)]) rfl ?eg (walks_iter wr.heap.size (wr.heap.size + 1) A n wc _ _ _ wrong start (cn : Int) cn (by omega) (by have := KE.out.n3; omega) Wd D7.out D8.out) (ext_refl Wd) (fun D ow W1 W2 h => ⟨Below.size h, fun b hb hl => Below.block h b hl⟩)
          (fun b => b = w1.heap.size + 1) ?hcb (fun ow pre W' => ∃ v', WaitI (waitRun n home streets start (cn : Int) moves pre) (w1.heap.size + 1) (Wd.heap.size + 1) Wd ow W' v') (fun _ _ _ => False) ?hIb ?hIst ?hIl (fun _ _ _ _ h => h) ?hstart ?hround ?hdone (fun _ _ _ _ h => h.elim)
        case eg =>
          have h1 : (Tryz.f116.name == "runtime.NumGoroutine") = false := by kernel_rfl
          have h2 : Tryz.f116.body.isNone = false := by kernel_rfl
          have h1' : ¬ Tryz.f116.name = "runtime.NumGoroutine" := by simpa using h1
          have h2' : ¬ Tryz.f116.body = none := by
            intro h
            rw [h] at h2
            cases h2
          exact fun args w => by simp [go_sem, callFunc, Tryz.func116, h1', h2']
        case hcb =>
          intro b hb
          have := HSD.out
          rcases hb with rfl | rfl <;> exact ⟨by omega, by omega⟩
        case hIb =>
          rintro ow pre W' b ⟨v', hI⟩ hob
          have := HSD.out
          have := hI.kept.size
          obtain rfl := (hI.iff b).1 hob
          exact ⟨by omega, by omega, by omega⟩
        case hIst =>
          rintro ow pre W1 W2 ⟨v', hI⟩ hfr
          exact ⟨v', hI.ext hfr⟩
        case hIl =>
          rintro ow pre W' o ⟨v', hI⟩
          have := HSD.out
          exact ⟨v', hI.put (by omega) (by omega) o⟩
        case hstart =>
          intro W1 he hs
          have hsl := HSL.out
          have hsd := HSD.out
          refine ⟨v, fun b => Iff.rfl, Kept.of_ext he, ext_blk_keep he HD6.out, ?_, off_own HOW.out (by omega), off_own HOW.out (by omega)⟩
          have h1 : IsInts wr v (selM (fun _ => true) moves k) := own_ints HOW.out (by rw [selM_all]; omega)
          have h2 := h1.ext (ext_trans HED.out he)
          rw [waitRun, HMN.out]
          exact h2
        case hround =>
          rintro ow pre x xv W' ⟨bv, hI⟩ hpre ⟨hx, hnew⟩ ⟨lr, hlr⟩
          have hsd := HSD.out
          have hsem := Oper.semAt_some (Wd.heap.size + 1)
          have HI1 := hid hI
          have HPRE := hid hpre
          have HSX := hid hsd
          clear hI hpre hnew hsd
          gi_wp2_with fail
          refine ⟨by first | exact ext_refl _ | go_grown, ?_⟩
          rintro W2 ⟨ob, hW2⟩
          have hI2 : WaitI (waitRun n home streets start (cn : Int) moves pre) (w1.heap.size + 1) (Wd.heap.size + 1) Wd ow W2 bv := by rw [hW2]; exact HI1.out.put (by omega) (by omega) ob
          have hX2 : IsInts W2 xv x := by rw [hW2]; exact ints_loop hx hlr
          have hLW : Wd.heap.size + 1 < W2.heap.size := by rw [hW2]; simpa using (Array.getElem?_eq_some_iff.1 hlr).1
          have hxw := walks_ok hcn (prefix_mem HPRE.out)
          have hkl : Kept (fun b => b = w1.heap.size + 1) Wl W2 := HKL.out.trans hI2.kept
          have i1 := hkl.keep (ext_blk_keep HEL.out HB1.out) (by omega)
          have i4 := hkl.keep L4.out (by omega)
          have hwq := (Array.getElem?_eq_some_iff.1 HWORK.out.cells).1
          have hwk : WorkAt W2 q A n wc S pn pc wrong H n hc T sn sc start (cn : Int) M k mc moves :=
            ⟨hkl.keep (ext_blk_keep HEL.out HWORK.out.cells) (by omega), movs_from HMO.out (fun b hb hne => hkl.blk b hb hne) L6.out (fun x h => by cases h), HMN.out, HWORK.out.m7⟩
          have hew : Ext w W2 := hkl.extOld hE1.out (fun b hb h => by omega)
          have hko := KO.out.ext hew
          have hc1 := blk_cell i1
          obtain ⟨out, hs⟩ : ∃ out, waitRun n home streets start (cn : Int) moves pre = out := ⟨_, rfl⟩
          have hol := waitRun_len n home streets start (cn : Int) moves pre
          have hsn := waitRun_snoc n home streets start (cn : Int) moves pre x
          rw [hs] at hI2 hsn hol
          rw [HMN.out] at hol
          have HI2 := hid hI2
          have HSN := hid hsn
          have HX2 := hid hX2
          have HWT := hid hwk
          have HKO := hid hko
          have I4 := hid i4
          have hxl := hxw.len
          obtain ⟨V, vc, rfl⟩ := hx.val
          obtain ⟨sb, hsb⟩ : ∃ sb, sureF n home streets start (cn : Int) x = sb := ⟨_, rfl⟩
          have HSB := hid hsb
          clear hI2 hsn hX2 hwk hko hkl i1 i4 hs hW2 hx hlr hew hsb
          cases sb
          · gi_wp2_with fail
            refine ⟨trivial, rfl, (callsIn_round (sure_c HKO.out _ _ wrong (cn : Int) A wc x HX2.out hxw)).mono ?_⟩
            rintro e W3 ⟨rfl, hE3⟩
            rw [HSB.out]
            gi_wp2_with fail
            have hb : wstep n home streets start (cn : Int) moves out x = out := by rw [wstep, if_pos HSB.out]
            exact ⟨Kept.of_ext hE3, ow, ⟨bv, by rw [HSN.out, hb]; exact HI2.out.ext hE3⟩, fun b hb => .inl hb⟩
          · gi_wp2_with fail
            refine ⟨trivial, rfl, (callsIn_round (sure_c HKO.out _ _ wrong (cn : Int) A wc x HX2.out hxw)).mono ?_⟩
            rintro e W3 ⟨rfl, hE3⟩
            rw [HSB.out]
            have hc4 := blk_cell (ext_blk_keep hE3 I4.out)
            clear hc1
            gi_wp2_with fail
            refine ⟨trivial, rfl, (callsIn_round (brings_c q _ _ _ _ _ _ _ M k mc moves (.slice V x.length vc) x W3 (ext_blk_keep hE3 HWT.out.cells) (HWT.out.movs.ext hE3) HMN.out (by omega) (HX2.out.ext hE3) (by omega))).mono ?_⟩
            rintro e W4 ⟨rfl, hset, hE4⟩
            have hE24 := ext_trans hE3 hE4
            have hcq := blk_cell (ext_blk_keep hE24 HWT.out.cells)
            have hc4' := blk_cell (ext_blk_keep hE24 I4.out)
            obtain ⟨F, hF⟩ : ∃ F, bringsF moves x = F := ⟨_, rfl⟩
            rw [hF] at hset
            have HF := hid hF
            have HSET := hid hset
            clear hc4 hset hF
            gi_wp2_with fail
            have HMO4 := hid (HWT.out.movs.ext hE24)
            have HE24 := hid hE24
            clear hcq hc4'
            gi_loopw [11, 54] (fun o2 i wv => ∃ j : Nat, j ≤ k ∧ i = .int .i64 j ∧ wv.ownsRow W4.heap.size 3 1 o2 (selM (fun p => !F p) moves j).length ((selM (fun p => !F p) moves j).map (Value.int .i64)) ∧ Ext W4 wv) (fun _ i _ => k - (intOf i).toNat)
            case atStart => exact ⟨0, Nat.zero_le _, rfl, own_nil _ _ _ _, ext_refl _⟩
            case round =>
              obtain ⟨j, hj, rfl, hown, hE⟩ := hrel
              by_cases hjl : j < k
              · obtain ⟨mb, mo, hS, hmc⟩ := HMO4.out.at (by omega)
                obtain ⟨m0, m1, m2⟩ := hmc j hjl
                replace m0 := cell_ext hE m0
                replace m1 := cell_ext hE m1
                replace m2 := cell_ext hE m2
                have hs := selM_succ (fun p => !F p) moves j
                have hol2 := selM_len (fun p => !F p) moves j
                obtain ⟨p, hp⟩ : ∃ p, mPc moves j = p := ⟨_, rfl⟩
                obtain ⟨sr, hsr⟩ : ∃ p, mSr moves j = p := ⟨_, rfl⟩
                obtain ⟨ds, hds⟩ : ∃ p, mDs moves j = p := ⟨_, rfl⟩
                rw [hp] at m0 hs
                rw [hsr] at m1
                rw [hds] at m2
                have eA : Ext wr (wr.alloc (.cells #[.int .i64 p, .int .i64 sr, .int .i64 ds] 85)) := by go_grown
                have hlk := set_look (HSET.out.ext (ext_trans hE eA)) p
                have hsz := hE.size
                obtain ⟨O, oc, rfl⟩ := own_slice hown
                obtain ⟨l, hl⟩ : ∃ l, (selM (fun p => !F p) moves j).length = l := ⟨_, rfl⟩
                have HS := hid hs
                have HLN := hid hl
                rw [hl] at hown hol2
                have HOW2 := hid hown
                clear hmc hs hp hsr hds hown
                subst hS
                cases hT : F p
                · rw [hT] at hlk
                  have HT := hid hT
                  clear hT
                  rw [hl]
                  clear hl
                  gi_wp2_with (gi_at_builtin; refine appIn_one (W0 := wr) rfl _ _ 29 3 rfl Tryz.underlying29 (.int .i64 0) 8 #[.int .i64 p] (by kernel_rfl) rfl (by simp) (by simp) (by decide) (by simp [Value.oneCell']) W4.heap.size _ l _ rfl HOW2.out (ext_alloc eA _) _ rfl (heap_alloc_at _ _ (by simp)) hsz (by omega) ?_; intro g cap w6 hown6 hB6 hg6 hor6)
                  have hrow : w6.ownsRow W4.heap.size 3 1 (.slice (some ⟨g, 0, none⟩) (l + 1) cap) (l + 1) ((selM (fun p => !F p) moves j ++ [p]).map (Value.int .i64)) := by simpa using hown6
                  have e6 : Ext W4 w6 := (Below.trans hE (Below.mono (ext_alloc eA _) hsz)).trans hB6
                  exact ⟨⟨j + 1, hjl, by go_num, by rw [HS.out, HT.out]; simp only [Bool.not_false, if_true, List.length_append, List.length_cons, List.length_nil, Nat.zero_add]; rw [HLN.out]; exact hrow, e6⟩, by simp [intOf]; omega⟩
                · rw [hT] at hlk
                  have HT := hid hT
                  clear hT
                  rw [hl]
                  clear hl
                  gi_wp2_with fail
                  exact ⟨⟨j + 1, hjl, by go_num, by rw [HS.out, HT.out]; simp only [Bool.not_true, Bool.false_eq_true, if_false, List.append_nil]; rw [HLN.out]; exact own_ext HOW2.out eA, ext_trans hE eA⟩, by simp [intOf]; omega⟩
              · obtain rfl : k = j := by omega
                have hlf : leftF moves x = selM (fun p => !F p) moves k := by rw [leftF, HF.out, HMN.out]
                obtain ⟨lf, hlfe⟩ : ∃ lf, selM (fun p => !F p) moves k = lf := ⟨_, rfl⟩
                have hlen := selM_len (fun p => !F p) moves k
                rw [hlfe] at hown hlf hlen
                obtain ⟨O, oc, rfl⟩ := own_slice hown
                obtain ⟨ll, hll⟩ : ∃ ll, lf.length = ll := ⟨_, rfl⟩
                obtain ⟨ol, hol'⟩ : ∃ ol, out.length = ol := ⟨_, rfl⟩
                have hIw := HI2.out.ext (ext_trans HE24.out hE)
                obtain ⟨U, uc, rfl⟩ := hIw.ints.val
                have hli : IsInts wr (.slice O lf.length oc) lf := own_ints hown (by omega)
                have HLI := hid hli
                have HIW := hid hIw
                have hsz4 : Wd.heap.size + 1 < W4.heap.size := by
                  have h1 := HE24.out.size
                  omega
                have hoff1 : Off (Wd.heap.size + 1) (.slice O lf.length oc) := off_own hown (.inl hsz4)
                have hoff2 : Off (w1.heap.size + 1) (.slice O lf.length oc) := off_own hown (.inl (by omega))
                have HO1 := hid hoff1
                have HO2 := hid hoff2
                have hHow := hid hown
                have c6 := blk_cell hIw.h6
                have z6 : ∀ j, wr.frozen? ⟨w1.heap.size + 1, j, none⟩ = false := fun j => frozen_of_row wr _ j _ _ hIw.h6
                have HLF := hid hlf
                have HLL := hid hll
                have HOL := hid hol'
                have EW := hid (ext_trans HE24.out hE)
                have hsn' := HSN.out
                rw [wstep, if_neg (by rw [HSB.out]; simp), hlf, hll, hol'] at hsn'
                have HSN2 := hid hsn'
                clear hown hlf hIw hli hoff1 hoff2 hlfe hE hsn'
                rw [hll]
                rw [hol'] at c6
                clear hll hol'
                by_cases ca : ll < ol
                · have cad : decide (ll < ol) = true := decide_eq_true ca
                  have hw : waitRun n home streets start (cn : Int) moves (pre ++ [x]) = lf := by rw [HSN2.out, if_pos (.inl ca)]
                  have hud : undef = Value.tuple #[] := rfl
                  gi_wp2_with fail
                  refine ⟨trivial, ?_⟩
                  gi_wp2_with fail
                  have hkf : Kept (fun b => b = w1.heap.size + 1) W2 (wr.setCell ⟨w1.heap.size + 1, 0, none⟩ (.slice O ll oc)) := (Kept.of_ext EW.out).set _ rfl
                  refine ⟨hkf.mono fun b h => (HI2.out.iff b).2 h, ow, ⟨.slice O ll oc, ?_⟩, fun b hb => .inl hb⟩
                  rw [hw]
                  have hlv := HLL.out
                  refine ⟨HI2.out.iff, HI2.out.kept.trans hkf, heap_set_at HIW.out.h6 rfl, ?_, by rw [← hlv]; exact HO1.out, by rw [← hlv]; exact HO2.out⟩
                  rw [← hlv]
                  exact ints_kept2 (ow := fun b => b = w1.heap.size + 1) (HLI.out) (fun b h => by rw [h]; exact HO2.out) ((Kept.refl _ _).set _ rfl)
                · have cad : decide (ll < ol) = false := decide_eq_false ca
                  by_cases cb : ll = ol
                  · have cbd : ((ll : Int) == (ol : Int)) = true := by rw [beq_iff_eq]; omega
                    have cbn : (ll == ol) = true := by rw [beq_iff_eq]; exact cb
                    have CB := hid cb
                    clear cb
                    obtain ⟨cc, hcc⟩ : ∃ cc, cmpF lf out = cc := ⟨_, rfl⟩
                    have HCC := hid hcc
                    clear hcc
                    have hA : IsInts wr (.slice O ll oc) lf := by rw [← HLL.out]; exact HLI.out
                    have hB : IsInts wr (.slice U ol uc) out := by rw [← HOL.out]; exact HIW.out.ints
                    have hcmp := hid (callsIn_round (l := Wd.heap.size + 1) (n := 0) (compare_c _ _ lf out wr hA hB (by rw [HLL.out, HOL.out]; exact CB.out)))
                    clear hA hB
                    by_cases cz : cc < 0
                    · have hw : waitRun n home streets start (cn : Int) moves (pre ++ [x]) = lf := by rw [HSN2.out, if_pos (.inr ⟨CB.out, by rw [HCC.out]; exact cz⟩)]
                      have HW := hid hw
                      clear hw
                      gi_wp2_with fail
                      refine ⟨trivial, rfl, hcmp.out.mono ?_⟩
                      rintro e W6 ⟨rfl, rfl⟩
                      rw [HCC.out]
                      gi_wp2_with fail
                      have hw := HW.out
                      have hkf : Kept (fun b => b = w1.heap.size + 1) W2 (wr.setCell ⟨w1.heap.size + 1, 0, none⟩ (.slice O ll oc)) := (Kept.of_ext EW.out).set _ rfl
                      refine ⟨hkf.mono fun b h => (HI2.out.iff b).2 h, ow, ⟨.slice O ll oc, ?_⟩, fun b hb => .inl hb⟩
                      rw [hw]
                      have hlv := HLL.out
                      refine ⟨HI2.out.iff, HI2.out.kept.trans hkf, heap_set_at HIW.out.h6 rfl, ?_, by rw [← hlv]; exact HO1.out, by rw [← hlv]; exact HO2.out⟩
                      rw [← hlv]
                      exact ints_kept2 (ow := fun b => b = w1.heap.size + 1) (HLI.out) (fun b h => by rw [h]; exact HO2.out) ((Kept.refl _ _).set _ rfl)
                    · have hw : waitRun n home streets start (cn : Int) moves (pre ++ [x]) = out := by rw [HSN2.out, if_neg (fun hh => hh.elim ca (fun h => cz (by rw [← HCC.out]; exact h.2)))]
                      have HW := hid hw
                      clear hw
                      gi_wp2_with fail
                      refine ⟨trivial, rfl, hcmp.out.mono ?_⟩
                      rintro e W6 ⟨rfl, rfl⟩
                      rw [HCC.out]
                      gi_wp2_with fail
                      exact ⟨Kept.of_ext EW.out, ow, ⟨_, by rw [HW.out]; exact HIW.out⟩, fun b hb => .inl hb⟩
                  · have cbd : ((ll : Int) == (ol : Int)) = false := by rw [beq_eq_false_iff_ne]; omega
                    have cbn : (ll == ol) = false := by rw [beq_eq_false_iff_ne]; exact cb
                    have hw : waitRun n home streets start (cn : Int) moves (pre ++ [x]) = out := by rw [HSN2.out, if_neg (fun hh => hh.elim ca (fun h => cb h.1))]
                    have HW := hid hw
                    clear hw
                    gi_wp2_with fail
                    refine ⟨trivial, ?_⟩
                    gi_wp2_with fail
                    exact ⟨Kept.of_ext EW.out, ow, ⟨_, by rw [HW.out]; exact HIW.out⟩, fun b hb => .inl hb⟩
        case hdone =>
          rintro ow W' ⟨bv, hI⟩ hK
          have hbs : waitL women pieces wrong home streets start (cn : Int) = waitRun n home streets start (cn : Int) moves (walksFrom n cn []) := by rw [waitL, if_pos HCD.out, HNL.out, HMV.out, Int.toNat_natCast]
          have HBS := hid hbs
          have HK := hid hK
          have HI := hid hI
          have c6 := blk_cell hI.h6
          obtain ⟨U, uc, rfl⟩ := hI.ints.val
          have hew : Ext w W' := (HKL.out.trans hI.kept).extOld hE1.out (fun b hb h => by omega)
          have HEW := hid hew
          clear hbs hK hI hew
          go_wp2
          refine leaves_mark HK.out (results_tmp2 rfl _ _ _) ⟨_, rfl, ?_, ((Kept.refl (fun b => b = Wd.heap.size) W').putObj _ rfl).extOld HEW.out (fun b hb h => by omega)⟩
          rw [HBS.out]
          exact ints_put HI.out.ints (ints_off2 HI.out.ints HK.out) _
  · have h0' : (code == 0) = false := beq_eq_false_iff_ne.2 h0
    go_wp2_with (go_at_call 66; refine (wask_no_all A n wc S pn pc wrong H hn hc T sn sc start calls women pieces home streets true _ (KE.out.ext (by go_grown)) hcall code HCB h0).mono ?_; rintro e w1 ⟨rfl, hB1⟩)
    refine leaves_nil (results_tmp2 rfl _ _ _) ⟨_, rfl, ?_, ext_trans (by go_grown) (ext_trans hB1 (by go_grown))⟩
    rw [waitL, if_neg (by rw [HCD.out]; exact h0)]
    exact IsInts.nil _ _
end
end Go.Proofs.YtlcakmbejjlmeaaGreat
