/- Helpers of the statements: between, way, list, ints. -/
import Derived.Test.YtlcakmbejjlmeaaGreatK5
set_option linter.unusedVariables false
set_option linter.unusedSimpArgs false
namespace Go.Proofs.YtlcakmbejjlmeaaGreat
open Go.RowKit

set_option maxHeartbeats 400000 in
theorem between_c (a b : Int) (w : World) : Calls Tryz.prog 35 #[.int .i64 a, .int .i64 b] w fun e w' => e = .returned (.agg #[.int .i64 a, .int .i64 b]) ∧ Ext w w' := by
  go_enter Tryz.func35, Tryz.ntmps35
  go_wp2
  refine bodyPost_ret (v := .agg #[.int .i64 a, .int .i64 b]) (results_cell_row (fn := Tryz.f35) (p := 4) (ty := 57) rfl _ _ w.heap.size 57 _ (0, 0) _ rfl (by first | exact heap_alloc_new w _ | exact heap_set_at (heap_set_at (heap_alloc_new w _) rfl) rfl) Tryz.underlying57 rfl (by kernel_rfl)) rfl ⟨rfl, by go_grown⟩
set_option maxHeartbeats 400000 in
theorem way_c (w : World) : Calls Tryz.prog 65 #[] w fun e w' => ∃ v, e = .returned v ∧ IsInts w' v [0, 1, 2, 0] ∧ Ext w w' := by
  go_enter Tryz.func65, Tryz.ntmps65
  go_wp2
  go_ret
  refine ⟨_, rfl, ⟨by decide, _, _, rfl, fun _ => ⟨w.heap.size, 0, rfl, fun i hi => ?_⟩⟩, by go_grown⟩
  rw [blk_cell (heap_alloc_new w _)]
  have : i = 0 ∨ i = 1 ∨ i = 2 ∨ i = 3 := by simp at hi; omega
  rcases this with rfl | rfl | rfl | rfl <;> rfl
set_option maxHeartbeats 400000 in
theorem list_c (v : Value) (xs : List Int) (w : World) (hv : IsInts w v xs) (hl : xs.length ≤ 1000) : Calls Tryz.prog 24 #[v] w fun e w' => ∃ v', e = .returned v' ∧ IsInts w' v' xs ∧ Ext w w' := by
  obtain ⟨V, vc, rfl⟩ := hv.val
  have KV := hid hv
  clear hv
  go_enter Tryz.func24, Tryz.ntmps24
  go_wp2_with (at_builtin; refine app_ints rfl _ _ 29 3 rfl Tryz.underlying29 info_int w.heap.size (.slice none 0 0) 0 [] rfl (own_nil _ _ _ _) _ xs xs.length rfl rfl KV.out (Nat.le_refl _) (by omega) ?_; intro A cap w1 hown hB hg)
  go_ret
  exact ⟨_, rfl, own_ints (xs := xs) (by simpa using hown) (by omega), hB⟩
set_option maxHeartbeats 400000 in
theorem list3_c (v : Value) (xs : List Int) (w : World) (hv : IsInts w v xs) (hl : xs.length ≤ 1000) : Calls Tryz.prog 98 #[v] w fun e w' => ∃ v', e = .returned v' ∧ IsInts w' v' xs ∧ Ext w w' := by
  obtain ⟨V, vc, rfl⟩ := hv.val
  have KV := hid hv
  clear hv
  go_enter Tryz.func98, Tryz.ntmps98
  go_wp2_with (at_builtin; refine app_ints rfl _ _ 29 3 rfl Tryz.underlying29 info_int w.heap.size (.slice none 0 0) 0 [] rfl (own_nil _ _ _ _) _ xs xs.length rfl rfl KV.out (Nat.le_refl _) (by omega) ?_; intro A cap w1 hown hB hg)
  go_ret
  exact ⟨_, rfl, own_ints (xs := xs) (by simpa using hown) (by omega), hB⟩
def intsF (a b : List Int) : Bool := decide (a.length = b.length) && decide (firstT (fun i => decide (at0 a i ≠ at0 b i)) a.length = a.length)
theorem intsF_iff (a b : List Int) : intsF a b = true ↔ a = b := by
  unfold intsF
  simp only [Bool.and_eq_true, decide_eq_true_eq]
  constructor
  · rintro ⟨h1, h2⟩
    apply List.ext_getElem h1
    intro i hi hj
    obtain ⟨_, h3, _⟩ := firstT_spec (fun i => decide (at0 a i ≠ at0 b i)) a.length
    have := h3 i (by omega)
    simpa [at0, List.getD_eq_getElem?_getD, List.getElem?_eq_getElem hi, List.getElem?_eq_getElem hj] using this
  · rintro rfl
    exact ⟨rfl, firstT_none (fun j _ => by simp)⟩
set_option maxHeartbeats 1600000 in
theorem ints_c (av bv : Value) (a b : List Int) (w : World) (ha : IsInts w av a) (hb : IsInts w bv b) :
    Calls Tryz.prog 29 #[av, bv] w fun e w' => e = .returned (.bool (intsF a b)) ∧ Ext w w' := by
  obtain ⟨hal, A, ac, rfl, hA⟩ := ha
  obtain ⟨hbl, B, bc, rfl, hB⟩ := hb
  obtain ⟨n, hn⟩ : ∃ n, a.length = n := ⟨_, rfl⟩
  obtain ⟨m, hm⟩ : ∃ m, b.length = m := ⟨_, rfl⟩
  rw [hn] at hA hal
  rw [hm] at hB hbl
  rw [hn, hm]
  have HA := hid hA
  have HB := hid hB
  have HN := hid hn
  have HM := hid hm
  clear hA hB hn hm
  by_cases hnm : n = m
  · subst hnm
    go_enter Tryz.func29, Tryz.ntmps29
    go_wp2
    go_loopw [5] (fun i wr => ∃ k : Nat, k ≤ n ∧ i = .int .i64 k ∧ Hid (∀ j, j < k → at0 a j = at0 b j) ∧ Ext w wr) (fun i _ => n - (intOf i).toNat)
    case atStart => exact ⟨0, Nat.zero_le _, rfl, hid (fun j h => absurd h (Nat.not_lt_zero j)), ext_refl _⟩
    case round =>
      obtain ⟨k, hk, rfl, hall, hE⟩ := hrel
      by_cases hlt : k < n
      · obtain ⟨ab, ao, rfl, hac⟩ := HA.out (by omega)
        obtain ⟨bb, bo, rfl, hbc⟩ := HB.out (by omega)
        have c1 := ext_cell (hac k hlt) hE (Nat.le_refl _)
        have c2 := ext_cell (hbc k hlt) hE (Nat.le_refl _)
        obtain ⟨x, hx⟩ : ∃ x, at0 a k = x := ⟨_, rfl⟩
        obtain ⟨y, hy⟩ : ∃ y, at0 b k = y := ⟨_, rfl⟩
        rw [hx] at c1
        rw [hy] at c2
        have HX := hid hx
        have HY := hid hy
        have hi0 : (0 : Int) ≤ (k : Int) := by omega
        have hi1 : (k : Int) < (n : Int) := by omega
        clear hx hy hac hbc
        have e0 : Ext wr wr := ext_refl wr
        by_cases hxy : x = y
        · subst hxy
          have hd : (x != x) = false := by simp
          go_wp2
          go_region_held3 (fun W => Ext wr W) (first | exact Below.drew (by assumption) | assumption) (fail)
          go_wp2
          go_roundw
          case rel => exact ⟨k + 1, hlt, by go_num, hid (lt_or_eq_all hall.out (by rw [HX.out, HY.out])), by first | exact hE | exact Below.drew hE⟩
          case measure => simp [intOf]; omega
        · have hd : (x != y) = true := by rw [bne_iff_ne]; exact hxy
          go_wp2
          go_region_held3 (fun W => Ext wr W) (first | exact Below.drew (by assumption) | assumption) (fail)
          go_wp2
          go_ret
          have hf : firstT (fun i => decide (at0 a i ≠ at0 b i)) a.length = k := firstT_at (by rw [HX.out, HY.out]; exact decide_eq_true hxy) (fun j hj => by simp [hall.out j hj]) (by have := HN.out; omega)
          exact ⟨ret_bool (by rw [intsF, hf, HN.out, HM.out, decide_eq_false (show ¬ k = n from by omega), Bool.and_false]), by first | exact hE | exact Below.drew hE⟩
      · obtain rfl : k = n := by omega
        go_wp2
        go_ret
        have hf : firstT (fun i => decide (at0 a i ≠ at0 b i)) a.length = a.length := firstT_none (fun j hj => by simp [hall.out j (by have := HN.out; omega)])
        exact ⟨ret_bool (by rw [intsF, hf, HN.out, HM.out]; simp), hE⟩
  · have hd : ((n : Int) != (m : Int)) = true := by rw [bne_iff_ne]; omega
    go_enter Tryz.func29, Tryz.ntmps29
    go_wp2
    go_ret
    exact ⟨ret_bool (by rw [intsF, HN.out, HM.out, decide_eq_false hnm]; rfl), ext_refl _⟩
end Go.Proofs.YtlcakmbejjlmeaaGreat
/- The chapter's errand, as the statements make it. -/
set_option linter.unusedVariables false
set_option linter.unusedSimpArgs false
namespace Go.Proofs.YtlcakmbejjlmeaaGreat
open Go.RowKit

def women3 : List Wom := [⟨1, 1, 1⟩, ⟨2, 1, 1⟩, ⟨3, 1, 1⟩]
def pieces3 : List Pce := [⟨[1], 1⟩, ⟨[2], 0⟩, ⟨[3], 0⟩]
def home3 (last : Int) : List Rng := [⟨600, 640⟩, ⟨610, last⟩, ⟨600, 640⟩]
def streets3 : List Rng := [⟨5, 6⟩, ⟨7, 7⟩, ⟨4, 4⟩, ⟨3, 5⟩, ⟨6, 8⟩, ⟨9, 9⟩]
theorem rngs_block {W : World} {B n : Nat} {cs : Array Value} {t : TypeId} {fr : Nat × Nat} (l : List Rng) (hb : W.heap[B]? = some (.cells cs t fr)) (hn : l.length = n) (h3 : n ≤ 1000) (h : cs = (rngCells l).toArray) : IsRngs W (.slice (some ⟨B, 0, none⟩) n n) l := by
  subst hn
  refine ⟨by omega, _, _, rfl, fun _ => ⟨B, 0, rfl, fun i hi => ?_⟩⟩
  have h4 := rngCells_at l i hi
  rw [blk_cell hb, blk_cell hb, h, Nat.zero_add]
  simpa using h4
theorem ints_one' {W : World} {B : Nat} {x : Int} {t : TypeId} {fr : Nat × Nat} (h : W.heap[B]? = some (.cells #[.int .i64 x] t fr)) : IsInts W (.slice (some ⟨B, 0, none⟩) 1 1) [x] := ints_one h
theorem three_err {W : World} {B BH BT : Nat} {last : Int} {t2 t3 t4 t5 t6 tH tT : TypeId}
    (h2 : W.heap[B + 1 + 1]? = some (.cells #[.int .i64 1, .int .i64 1, .int .i64 1, .int .i64 2, .int .i64 1, .int .i64 1, .int .i64 3, .int .i64 1, .int .i64 1] t2 (0, 0)))
    (h3 : W.heap[B + 1 + 1 + 1]? = some (.cells #[.int .i64 1] t3 (0, 0))) (h4 : W.heap[B + 1 + 1 + 1 + 1]? = some (.cells #[.int .i64 2] t4 (0, 0))) (h5 : W.heap[B + 1 + 1 + 1 + 1 + 1]? = some (.cells #[.int .i64 3] t5 (0, 0)))
    (h6 : W.heap[B + 1 + 1 + 1 + 1 + 1 + 1]? = some (.cells #[.slice (some ⟨B + 1 + 1 + 1, 0, none⟩) 1 1, .int .i64 1, .slice (some ⟨B + 1 + 1 + 1 + 1, 0, none⟩) 1 1, .int .i64 0, .slice (some ⟨B + 1 + 1 + 1 + 1 + 1, 0, none⟩) 1 1, .int .i64 0] t6 (0, 0)))
    (hH : W.heap[BH]? = some (.cells #[.int .i64 600, .int .i64 640, .int .i64 610, .int .i64 last, .int .i64 600, .int .i64 640] tH (0, 0)))
    (hT : W.heap[BT]? = some (.cells #[.int .i64 5, .int .i64 6, .int .i64 7, .int .i64 7, .int .i64 4, .int .i64 4, .int .i64 3, .int .i64 5, .int .i64 6, .int .i64 8, .int .i64 9, .int .i64 9] tT (0, 0))) :
    ErrAt W (some ⟨B + 1 + 1, 0, none⟩) 3 3 (some ⟨B + 1 + 1 + 1 + 1 + 1 + 1, 0, none⟩) 3 3 (some ⟨BH, 0, none⟩) 3 3 (some ⟨BT, 0, none⟩) 6 6 women3 pieces3 (home3 last) streets3 := by
  refine ⟨⟨by decide, _, _, rfl, fun _ => ⟨_, 0, rfl, fun i hi => ?_⟩⟩, rfl, ⟨by decide, _, _, rfl, fun _ => ⟨_, 0, rfl, fun i hi => ?_⟩⟩, rfl, rngs_block (home3 last) hH rfl (by decide) rfl, rfl, rngs_block streets3 hT rfl (by decide) rfl, rfl, by decide, by decide, by decide, by decide⟩
  · rw [blk_cell h2, blk_cell h2, blk_cell h2]
    have : i = 0 ∨ i = 1 ∨ i = 2 := by simp [women3] at hi; omega
    rcases this with rfl | rfl | rfl <;> exact ⟨rfl, rfl, rfl⟩
  · have : i = 0 ∨ i = 1 ∨ i = 2 := by simp [pieces3] at hi; omega
    rcases this with rfl | rfl | rfl
    · exact ⟨_, (blk_cell h6 0).trans rfl, ints_one h3, (blk_cell h6 1).trans rfl⟩
    · exact ⟨_, (blk_cell h6 2).trans rfl, ints_one h4, (blk_cell h6 3).trans rfl⟩
    · exact ⟨_, (blk_cell h6 4).trans rfl, ints_one h5, (blk_cell h6 5).trans rfl⟩
set_option maxHeartbeats 6400000 in
set_option maxRecDepth 100000 in
theorem three_c (calls last : Int) (w : World) : Calls Tryz.prog 64 #[.int .i64 calls, .int .i64 last] w
    fun e w' => ∃ A S H T, e = .returned (.agg #[.slice A 3 3, .slice S 3 3, .int .i64 0, .slice H 3 3, .slice T 6 6, .int .i64 600, .int .i64 calls]) ∧ ErrAt w' A 3 3 S 3 3 H 3 3 T 6 6 women3 pieces3 (home3 last) streets3 ∧ Ext w w' := by
  go_enter Tryz.func64, Tryz.ntmps64
  go_wp2
  refine wp_gen ?_
  intro W0 hW0
  have b0 : W0.heap[w.heap.size]? = some (.cells #[.slice none 0 0, .slice none 0 0, .int .i64 0, .slice none 0 0, .slice none 0 0, .int .i64 0, .int .i64 0] 41 (0, 0)) := by rw [hW0]; exact (by repeat (first | exact heap_alloc_at _ _ (by simp) | refine heap_alloc_keep ?_))
  have b2 : W0.heap[w.heap.size + 1 + 1]? = some (.cells #[.int .i64 1, .int .i64 1, .int .i64 1, .int .i64 2, .int .i64 1, .int .i64 1, .int .i64 3, .int .i64 1, .int .i64 1] 148 (0, 0)) := by rw [hW0]; exact (by repeat (first | exact heap_alloc_at _ _ (by simp) | refine heap_alloc_keep ?_))
  have b3 : W0.heap[w.heap.size + 1 + 1 + 1]? = some (.cells #[.int .i64 1] 3 (0, 0)) := by rw [hW0]; exact (by repeat (first | exact heap_alloc_at _ _ (by simp) | refine heap_alloc_keep ?_))
  have b4 : W0.heap[w.heap.size + 1 + 1 + 1 + 1]? = some (.cells #[.int .i64 2] 3 (0, 0)) := by rw [hW0]; exact (by repeat (first | exact heap_alloc_at _ _ (by simp) | refine heap_alloc_keep ?_))
  have b5 : W0.heap[w.heap.size + 1 + 1 + 1 + 1 + 1]? = some (.cells #[.int .i64 3] 3 (0, 0)) := by rw [hW0]; exact (by repeat (first | exact heap_alloc_at _ _ (by simp) | refine heap_alloc_keep ?_))
  have b6 : W0.heap[w.heap.size + 1 + 1 + 1 + 1 + 1 + 1]? = some (.cells #[.slice (some ⟨w.heap.size + 1 + 1 + 1, 0, none⟩) 1 1, .int .i64 1, .slice (some ⟨w.heap.size + 1 + 1 + 1 + 1, 0, none⟩) 1 1, .int .i64 0, .slice (some ⟨w.heap.size + 1 + 1 + 1 + 1 + 1, 0, none⟩) 1 1, .int .i64 0] 143 (0, 0)) := by rw [hW0]; exact (by repeat (first | exact heap_alloc_at _ _ (by simp) | refine heap_alloc_keep ?_))
  have b7 : W0.heap[w.heap.size + 1 + 1 + 1 + 1 + 1 + 1 + 1]? = some (.cells #[.slice (some ⟨w.heap.size + 1 + 1, 0, none⟩) 3 3, .slice (some ⟨w.heap.size + 1 + 1 + 1 + 1 + 1 + 1, 0, none⟩) 3 3, .int .i64 0] 38 (0, 0)) := by rw [hW0]; exact (by repeat (first | exact heap_alloc_at _ _ (by simp) | refine heap_alloc_keep ?_))
  have hE0 : Ext w W0 := by rw [hW0]; go_grown
  have hs0 : W0.heap.size = w.heap.size + 8 := by rw [hW0]; simp
  have B0 := hid b0
  have B2 := hid b2
  have B3 := hid b3
  have B4 := hid b4
  have B5 := hid b5
  have B6 := hid b6
  have HS0 := hid hs0
  have f7 : ∀ W', Kept (fun b => b = w.heap.size) W0 W' → ∀ j, W'.cell? ⟨w.heap.size + 1 + 1 + 1 + 1 + 1 + 1 + 1, j, none⟩ = (#[.slice (some ⟨w.heap.size + 1 + 1, 0, none⟩) 3 3, .slice (some ⟨w.heap.size + 1 + 1 + 1 + 1 + 1 + 1, 0, none⟩) 3 3, .int .i64 0] : Array Value)[j]? := fun W' hk => blk_cell (hk.keep b7 (by omega))
  have HE0 := hid hE0
  clear hW0 b0 b2 b3 b4 b5 b6 b7 hs0 hE0
  refine region_plainR (Kept (fun b => b = w.heap.size) W0) 16 #[false, false, false, false, false, false, false, false, false, false, false, false, false, false, false, false] (by kernel_rfl) (by kernel_rfl) (by kernel_rfl) (fun R HR => ?_)
  obtain ⟨V0, hV0⟩ : ∃ V0, W0.drew = V0 := ⟨_, rfl⟩
  rw [hV0]
  have x0 : Ext W0 V0 := by rw [← hV0]; exact (ext_refl W0).drew
  have hS0 : Kept (fun b => b = w.heap.size) W0 V0 := Kept.of_ext x0
  clear hV0
  refine takeR (i := 0) (oi := ?_) (v := ?_) ?_ (by kernel_rfl) (by kernel_rfl) (by kernel_rfl) ?_ ?_ (by assumption) ?_
  rotate_left 2
  · simp only [List.getElem?_toArray, List.getElem?_cons_succ, List.getElem?_cons_zero]; rfl
  · kernel_rfl
  · intro Wx hSx
    try dsimp only at hSx
    go_simp
    try with_reducible rfl
  simp only [Act.put, List.setIfInBounds_toArray, List.set_cons_zero, List.set_cons_succ]
  refine takeR (i := 2) (oi := ?_) (v := ?_) ?_ (by kernel_rfl) (by kernel_rfl) (by kernel_rfl) ?_ ?_ (by assumption) ?_
  rotate_left 2
  · simp only [List.getElem?_toArray, List.getElem?_cons_succ, List.getElem?_cons_zero]; rfl
  · kernel_rfl
  · intro Wx hSx
    try dsimp only at hSx
    go_simp
    try with_reducible rfl
  simp only [Act.put, List.setIfInBounds_toArray, List.set_cons_zero, List.set_cons_succ]
  refine takeR (i := 13) (oi := ?_) (v := ?_) ?_ (by kernel_rfl) (by kernel_rfl) (by kernel_rfl) ?_ ?_ (by assumption) ?_
  rotate_left 2
  · simp only [List.getElem?_toArray, List.getElem?_cons_succ, List.getElem?_cons_zero]; rfl
  · kernel_rfl
  · intro Wx hSx
    try dsimp only at hSx
    go_simp
    try with_reducible rfl
  simp only [Act.put, List.setIfInBounds_toArray, List.set_cons_zero, List.set_cons_succ]
  refine wpAnyH_ready (rs := [1]) (by kernel_rfl) (by simp) ?_
  refine AllReadyH.cons (o := ?_) ?_ (fun K hK => ?_) AllReadyH.nil
  rotate_left
  · simp only [List.getElem?_toArray, List.getElem?_cons_succ, List.getElem?_cons_zero]; rfl
  · skip
    go_simp
    refine (between_c _ _ _).mono ?_
    rintro e V1 ⟨rfl, x1⟩
    refine hK.out _ _ (Kept.of_ext (ext_trans x0 x1)) (fun hHeld => ?_)
    clear hK K
    simp only [Act.put, List.setIfInBounds_toArray, List.set_cons_zero, List.set_cons_succ]
    refine wpAnyH_ready (rs := [3]) (by kernel_rfl) (by simp) ?_
    refine AllReadyH.cons (o := ?_) ?_ (fun K hK => ?_) AllReadyH.nil
    rotate_left
    · simp only [List.getElem?_toArray, List.getElem?_cons_succ, List.getElem?_cons_zero]; rfl
    · skip
      go_simp
      refine (between_c _ _ _).mono ?_
      rintro e V2 ⟨rfl, x2⟩
      refine hK.out _ _ (Kept.of_ext (ext_trans (ext_trans x0 x1) x2)) (fun hHeld => ?_)
      clear hK K
      simp only [Act.put, List.setIfInBounds_toArray, List.set_cons_zero, List.set_cons_succ]
      refine wpAnyH_ready (rs := [4]) (by kernel_rfl) (by simp) ?_
      refine AllReadyH.cons (o := ?_) ?_ (fun K hK => ?_) AllReadyH.nil
      rotate_left
      · simp only [List.getElem?_toArray, List.getElem?_cons_succ, List.getElem?_cons_zero]; rfl
      · skip
        go_simp
        refine (between_c _ _ _).mono ?_
        rintro e V3 ⟨rfl, x3⟩
        refine hK.out _ _ (Kept.of_ext (ext_trans (ext_trans (ext_trans x0 x1) x2) x3)) (fun hHeld => ?_)
        clear hK K
        simp only [Act.put, List.setIfInBounds_toArray, List.set_cons_zero, List.set_cons_succ]
        refine wpAnyH_ready (rs := [5, 6]) (by kernel_rfl) (by simp) ?_
        refine AllReadyH.cons (o := ?_) ?_ (fun K hK => ?_) ?_
        rotate_left
        · simp only [List.getElem?_toArray, List.getElem?_cons_succ, List.getElem?_cons_zero]; rfl
        · skip
          go_simp
          refine hK.out _ _ (Kept.of_ext (ext_alloc (ext_trans (ext_trans (ext_trans x0 x1) x2) x3) _)) (fun hHeld => ?_)
          obtain ⟨V4, hV⟩ : ∃ V, V3.alloc (.cells #[.int .i64 600, .int .i64 640, .int .i64 610, .int .i64 last, .int .i64 600, .int .i64 640] 57) = V := ⟨_, rfl⟩
          rw [hV]
          have x4 : Ext V3 V4 := by rw [← hV]; exact ext_alloc (ext_refl _) _
          have b5 := hid (show V4.heap[V3.heap.size]? = some (.cells #[.int .i64 600, .int .i64 640, .int .i64 610, .int .i64 last, .int .i64 600, .int .i64 640] 57 (0, 0)) from by rw [← hV]; exact heap_alloc_new _ _)
          clear hV
          clear hK K
          simp only [Act.put, List.setIfInBounds_toArray, List.set_cons_zero, List.set_cons_succ]
          refine wpAnyH_ready (rs := [6]) (by kernel_rfl) (by simp) ?_
          refine AllReadyH.cons (o := ?_) ?_ (fun K hK => ?_) AllReadyH.nil
          rotate_left
          · simp only [List.getElem?_toArray, List.getElem?_cons_succ, List.getElem?_cons_zero]; rfl
          · skip
            go_simp
            refine (between_c _ _ _).mono ?_
            rintro e V5 ⟨rfl, x5⟩
            refine hK.out _ _ (Kept.of_ext (ext_trans (ext_trans (ext_trans (ext_trans (ext_trans x0 x1) x2) x3) x4) x5)) (fun hHeld => ?_)
            clear hK K
            simp only [Act.put, List.setIfInBounds_toArray, List.set_cons_zero, List.set_cons_succ]
            refine wpAnyH_ready (rs := [7]) (by kernel_rfl) (by simp) ?_
            refine AllReadyH.cons (o := ?_) ?_ (fun K hK => ?_) AllReadyH.nil
            rotate_left
            · simp only [List.getElem?_toArray, List.getElem?_cons_succ, List.getElem?_cons_zero]; rfl
            · skip
              go_simp
              refine (between_c _ _ _).mono ?_
              rintro e V6 ⟨rfl, x6⟩
              refine hK.out _ _ (Kept.of_ext (ext_trans (ext_trans (ext_trans (ext_trans (ext_trans (ext_trans x0 x1) x2) x3) x4) x5) x6)) (fun hHeld => ?_)
              clear hK K
              simp only [Act.put, List.setIfInBounds_toArray, List.set_cons_zero, List.set_cons_succ]
              refine wpAnyH_ready (rs := [8]) (by kernel_rfl) (by simp) ?_
              refine AllReadyH.cons (o := ?_) ?_ (fun K hK => ?_) AllReadyH.nil
              rotate_left
              · simp only [List.getElem?_toArray, List.getElem?_cons_succ, List.getElem?_cons_zero]; rfl
              · skip
                go_simp
                refine (between_c _ _ _).mono ?_
                rintro e V7 ⟨rfl, x7⟩
                refine hK.out _ _ (Kept.of_ext (ext_trans (ext_trans (ext_trans (ext_trans (ext_trans (ext_trans (ext_trans x0 x1) x2) x3) x4) x5) x6) x7)) (fun hHeld => ?_)
                clear hK K
                simp only [Act.put, List.setIfInBounds_toArray, List.set_cons_zero, List.set_cons_succ]
                refine wpAnyH_ready (rs := [9]) (by kernel_rfl) (by simp) ?_
                refine AllReadyH.cons (o := ?_) ?_ (fun K hK => ?_) AllReadyH.nil
                rotate_left
                · simp only [List.getElem?_toArray, List.getElem?_cons_succ, List.getElem?_cons_zero]; rfl
                · skip
                  go_simp
                  refine (between_c _ _ _).mono ?_
                  rintro e V8 ⟨rfl, x8⟩
                  refine hK.out _ _ (Kept.of_ext (ext_trans (ext_trans (ext_trans (ext_trans (ext_trans (ext_trans (ext_trans (ext_trans x0 x1) x2) x3) x4) x5) x6) x7) x8)) (fun hHeld => ?_)
                  clear hK K
                  simp only [Act.put, List.setIfInBounds_toArray, List.set_cons_zero, List.set_cons_succ]
                  refine wpAnyH_ready (rs := [10]) (by kernel_rfl) (by simp) ?_
                  refine AllReadyH.cons (o := ?_) ?_ (fun K hK => ?_) AllReadyH.nil
                  rotate_left
                  · simp only [List.getElem?_toArray, List.getElem?_cons_succ, List.getElem?_cons_zero]; rfl
                  · skip
                    go_simp
                    refine (between_c _ _ _).mono ?_
                    rintro e V9 ⟨rfl, x9⟩
                    refine hK.out _ _ (Kept.of_ext (ext_trans (ext_trans (ext_trans (ext_trans (ext_trans (ext_trans (ext_trans (ext_trans (ext_trans x0 x1) x2) x3) x4) x5) x6) x7) x8) x9)) (fun hHeld => ?_)
                    clear hK K
                    simp only [Act.put, List.setIfInBounds_toArray, List.set_cons_zero, List.set_cons_succ]
                    refine wpAnyH_ready (rs := [11]) (by kernel_rfl) (by simp) ?_
                    refine AllReadyH.cons (o := ?_) ?_ (fun K hK => ?_) AllReadyH.nil
                    rotate_left
                    · simp only [List.getElem?_toArray, List.getElem?_cons_succ, List.getElem?_cons_zero]; rfl
                    · skip
                      go_simp
                      refine (between_c _ _ _).mono ?_
                      rintro e V10 ⟨rfl, x10⟩
                      refine hK.out _ _ (Kept.of_ext (ext_trans (ext_trans (ext_trans (ext_trans (ext_trans (ext_trans (ext_trans (ext_trans (ext_trans (ext_trans x0 x1) x2) x3) x4) x5) x6) x7) x8) x9) x10)) (fun hHeld => ?_)
                      clear hK K
                      simp only [Act.put, List.setIfInBounds_toArray, List.set_cons_zero, List.set_cons_succ]
                      refine wpAnyH_ready (rs := [12]) (by kernel_rfl) (by simp) ?_
                      refine AllReadyH.cons (o := ?_) ?_ (fun K hK => ?_) AllReadyH.nil
                      rotate_left
                      · simp only [List.getElem?_toArray, List.getElem?_cons_succ, List.getElem?_cons_zero]; rfl
                      · skip
                        go_simp
                        refine hK.out _ _ (Kept.of_ext (ext_alloc (ext_trans (ext_trans (ext_trans (ext_trans (ext_trans (ext_trans (ext_trans (ext_trans (ext_trans (ext_trans x0 x1) x2) x3) x4) x5) x6) x7) x8) x9) x10) _)) (fun hHeld => ?_)
                        obtain ⟨V11, hV⟩ : ∃ V, V10.alloc (.cells #[.int .i64 5, .int .i64 6, .int .i64 7, .int .i64 7, .int .i64 4, .int .i64 4, .int .i64 3, .int .i64 5, .int .i64 6, .int .i64 8, .int .i64 9, .int .i64 9] 57) = V := ⟨_, rfl⟩
                        rw [hV]
                        have x11 : Ext V10 V11 := by rw [← hV]; exact ext_alloc (ext_refl _) _
                        have b12 := hid (show V11.heap[V10.heap.size]? = some (.cells #[.int .i64 5, .int .i64 6, .int .i64 7, .int .i64 7, .int .i64 4, .int .i64 4, .int .i64 3, .int .i64 5, .int .i64 6, .int .i64 8, .int .i64 9, .int .i64 9] 57 (0, 0)) from by rw [← hV]; exact heap_alloc_new _ _)
                        clear hV
                        clear hK K
                        simp only [Act.put, List.setIfInBounds_toArray, List.set_cons_zero, List.set_cons_succ]
                        have C5 := hid (ext_blk_keep (ext_trans (ext_trans (ext_trans (ext_trans (ext_trans (ext_trans x5 x6) x7) x8) x9) x10) x11) b5.out)
                        have C12 := hid (b12.out)
                        have hxx := ext_trans (ext_trans (ext_trans (ext_trans (ext_trans (ext_trans (ext_trans (ext_trans (ext_trans (ext_trans (ext_trans x0 x1) x2) x3) x4) x5) x6) x7) x8) x9) x10) x11
                        have lH := (ext_trans (ext_trans (ext_trans x0 x1) x2) x3).size
                        have lT := (ext_trans (ext_trans (ext_trans (ext_trans (ext_trans (ext_trans (ext_trans (ext_trans (ext_trans (ext_trans x0 x1) x2) x3) x4) x5) x6) x7) x8) x9) x10).size
                        have hSz : Kept (fun b => b = w.heap.size) W0 V11 := Kept.of_ext hxx
                        refine takeR (i := 14) (oi := ?_) (v := ?_) ?_ (by kernel_rfl) (by kernel_rfl) (by kernel_rfl) ?_ ?_ (by assumption) ?_
                        rotate_left 2
                        · simp only [List.getElem?_toArray, List.getElem?_cons_succ, List.getElem?_cons_zero]; rfl
                        · kernel_rfl
                        · intro Wx hSx
                          try dsimp only at hSx
                          go_simp
                          try with_reducible rfl
                        simp only [Act.put, List.setIfInBounds_toArray, List.set_cons_zero, List.set_cons_succ]
                        have C0 := ext_blk_keep hxx B0.out
                        have c0 := blk_cell C0
                        have z0 : ∀ j, V11.frozen? ⟨w.heap.size, j, none⟩ = false := fun j => frozen_of_row V11 _ j _ _ C0
                        have G0 := hid C0
                        clear C0
                        refine wpAnyH_ready (rs := [15]) (by kernel_rfl) (by simp) ?_
                        refine AllReadyH.cons (o := ?_) ?_ (fun K hK => ?_) AllReadyH.nil
                        rotate_left
                        · simp only [List.getElem?_toArray, List.getElem?_cons_succ, List.getElem?_cons_zero]; rfl
                        go_simp
                        have hkc : Kept (fun b => b = w.heap.size) V11 (((((((V11.setCell ⟨w.heap.size, 0, none⟩ (.slice (some ⟨w.heap.size + 1 + 1, 0, none⟩) 3 3)).setCell ⟨w.heap.size, 1, none⟩ (.slice (some ⟨w.heap.size + 1 + 1 + 1 + 1 + 1 + 1, 0, none⟩) 3 3)).setCell ⟨w.heap.size, 2, none⟩ (.int .i64 0)).setCell ⟨w.heap.size, 3, none⟩ (.slice (some ⟨(V3.heap.size), 0, none⟩) 3 3)).setCell ⟨w.heap.size, 4, none⟩ (.slice (some ⟨(V10.heap.size), 0, none⟩) 6 6)).setCell ⟨w.heap.size, 5, none⟩ (.int .i64 600)).setCell ⟨w.heap.size, 6, none⟩ (.int .i64 calls)) := ((((((((Kept.refl (fun b => b = w.heap.size) V11).set _ rfl).set _ rfl).set _ rfl).set _ rfl).set _ rfl).set _ rfl).set _ rfl)
                        have g0 := set7 G0.out rfl (.slice (some ⟨w.heap.size + 1 + 1, 0, none⟩) 3 3) (.slice (some ⟨w.heap.size + 1 + 1 + 1 + 1 + 1 + 1, 0, none⟩) 3 3) (.int .i64 0) (.slice (some ⟨(V3.heap.size), 0, none⟩) 3 3) (.slice (some ⟨(V10.heap.size), 0, none⟩) 6 6) (.int .i64 600) (.int .i64 calls)
                        refine hK.out _ _ ((Kept.of_ext hxx).trans hkc) (fun hHeld => ?_)
                        clear hK K
                        simp only [Act.put, List.setIfInBounds_toArray, List.set_cons_zero, List.set_cons_succ]
                        refine wpAnyH_done (by kernel_rfl) (HR.out _ _ ?_) _
                        clear HR c0 z0
                        go_wp2
                        have hs0 := HS0.out
                        have hfin := three_err (B := w.heap.size) (hkc.keep (ext_blk_keep hxx B2.out) (by omega)) (hkc.keep (ext_blk_keep hxx B3.out) (by omega)) (hkc.keep (ext_blk_keep hxx B4.out) (by omega)) (hkc.keep (ext_blk_keep hxx B5.out) (by omega)) (hkc.keep (ext_blk_keep hxx B6.out) (by omega)) (hkc.keep C5.out (by omega)) (hkc.keep C12.out (by omega))
                        have hend : Ext w _ := hkc.extOld (ext_trans HE0.out hxx) (fun b hb h => by omega)
                        refine bodyPost_ret (v := .agg #[.slice (some ⟨w.heap.size + 1 + 1, 0, none⟩) 3 3, .slice (some ⟨w.heap.size + 1 + 1 + 1 + 1 + 1 + 1, 0, none⟩) 3 3, .int .i64 0, .slice (some ⟨(V3.heap.size), 0, none⟩) 3 3, .slice (some ⟨(V10.heap.size), 0, none⟩) 6 6, .int .i64 600, .int .i64 calls]) (results_cell_row (fn := Tryz.f64) (p := 4) (ty := 41) rfl _ _ w.heap.size 41 _ (0, 0) _ rfl g0 Tryz.underlying41 rfl (by kernel_rfl)) rfl ⟨_, _, _, _, rfl, hfin, hend⟩
        refine AllReadyH.cons (o := ?_) ?_ (fun K hK => ?_) AllReadyH.nil
        rotate_left
        · simp only [List.getElem?_toArray, List.getElem?_cons_succ, List.getElem?_cons_zero]; rfl
        · skip
          go_simp
          refine (between_c _ _ _).mono ?_
          rintro e V4 ⟨rfl, x4⟩
          refine hK.out _ _ (Kept.of_ext (ext_trans (ext_trans (ext_trans (ext_trans x0 x1) x2) x3) x4)) (fun hHeld => ?_)
          clear hK K
          simp only [Act.put, List.setIfInBounds_toArray, List.set_cons_zero, List.set_cons_succ]
          refine wpAnyH_ready (rs := [5, 7]) (by kernel_rfl) (by simp) ?_
          refine AllReadyH.cons (o := ?_) ?_ (fun K hK => ?_) ?_
          rotate_left
          · simp only [List.getElem?_toArray, List.getElem?_cons_succ, List.getElem?_cons_zero]; rfl
          · skip
            go_simp
            refine hK.out _ _ (Kept.of_ext (ext_alloc (ext_trans (ext_trans (ext_trans (ext_trans x0 x1) x2) x3) x4) _)) (fun hHeld => ?_)
            obtain ⟨V5, hV⟩ : ∃ V, V4.alloc (.cells #[.int .i64 600, .int .i64 640, .int .i64 610, .int .i64 last, .int .i64 600, .int .i64 640] 57) = V := ⟨_, rfl⟩
            rw [hV]
            have x5 : Ext V4 V5 := by rw [← hV]; exact ext_alloc (ext_refl _) _
            have b5 := hid (show V5.heap[V4.heap.size]? = some (.cells #[.int .i64 600, .int .i64 640, .int .i64 610, .int .i64 last, .int .i64 600, .int .i64 640] 57 (0, 0)) from by rw [← hV]; exact heap_alloc_new _ _)
            clear hV
            clear hK K
            simp only [Act.put, List.setIfInBounds_toArray, List.set_cons_zero, List.set_cons_succ]
            refine wpAnyH_ready (rs := [7]) (by kernel_rfl) (by simp) ?_
            refine AllReadyH.cons (o := ?_) ?_ (fun K hK => ?_) AllReadyH.nil
            rotate_left
            · simp only [List.getElem?_toArray, List.getElem?_cons_succ, List.getElem?_cons_zero]; rfl
            · skip
              go_simp
              refine (between_c _ _ _).mono ?_
              rintro e V6 ⟨rfl, x6⟩
              refine hK.out _ _ (Kept.of_ext (ext_trans (ext_trans (ext_trans (ext_trans (ext_trans (ext_trans x0 x1) x2) x3) x4) x5) x6)) (fun hHeld => ?_)
              clear hK K
              simp only [Act.put, List.setIfInBounds_toArray, List.set_cons_zero, List.set_cons_succ]
              refine wpAnyH_ready (rs := [8]) (by kernel_rfl) (by simp) ?_
              refine AllReadyH.cons (o := ?_) ?_ (fun K hK => ?_) AllReadyH.nil
              rotate_left
              · simp only [List.getElem?_toArray, List.getElem?_cons_succ, List.getElem?_cons_zero]; rfl
              · skip
                go_simp
                refine (between_c _ _ _).mono ?_
                rintro e V7 ⟨rfl, x7⟩
                refine hK.out _ _ (Kept.of_ext (ext_trans (ext_trans (ext_trans (ext_trans (ext_trans (ext_trans (ext_trans x0 x1) x2) x3) x4) x5) x6) x7)) (fun hHeld => ?_)
                clear hK K
                simp only [Act.put, List.setIfInBounds_toArray, List.set_cons_zero, List.set_cons_succ]
                refine wpAnyH_ready (rs := [9]) (by kernel_rfl) (by simp) ?_
                refine AllReadyH.cons (o := ?_) ?_ (fun K hK => ?_) AllReadyH.nil
                rotate_left
                · simp only [List.getElem?_toArray, List.getElem?_cons_succ, List.getElem?_cons_zero]; rfl
                · skip
                  go_simp
                  refine (between_c _ _ _).mono ?_
                  rintro e V8 ⟨rfl, x8⟩
                  refine hK.out _ _ (Kept.of_ext (ext_trans (ext_trans (ext_trans (ext_trans (ext_trans (ext_trans (ext_trans (ext_trans x0 x1) x2) x3) x4) x5) x6) x7) x8)) (fun hHeld => ?_)
                  clear hK K
                  simp only [Act.put, List.setIfInBounds_toArray, List.set_cons_zero, List.set_cons_succ]
                  refine wpAnyH_ready (rs := [10]) (by kernel_rfl) (by simp) ?_
                  refine AllReadyH.cons (o := ?_) ?_ (fun K hK => ?_) AllReadyH.nil
                  rotate_left
                  · simp only [List.getElem?_toArray, List.getElem?_cons_succ, List.getElem?_cons_zero]; rfl
                  · skip
                    go_simp
                    refine (between_c _ _ _).mono ?_
                    rintro e V9 ⟨rfl, x9⟩
                    refine hK.out _ _ (Kept.of_ext (ext_trans (ext_trans (ext_trans (ext_trans (ext_trans (ext_trans (ext_trans (ext_trans (ext_trans x0 x1) x2) x3) x4) x5) x6) x7) x8) x9)) (fun hHeld => ?_)
                    clear hK K
                    simp only [Act.put, List.setIfInBounds_toArray, List.set_cons_zero, List.set_cons_succ]
                    refine wpAnyH_ready (rs := [11]) (by kernel_rfl) (by simp) ?_
                    refine AllReadyH.cons (o := ?_) ?_ (fun K hK => ?_) AllReadyH.nil
                    rotate_left
                    · simp only [List.getElem?_toArray, List.getElem?_cons_succ, List.getElem?_cons_zero]; rfl
                    · skip
                      go_simp
                      refine (between_c _ _ _).mono ?_
                      rintro e V10 ⟨rfl, x10⟩
                      refine hK.out _ _ (Kept.of_ext (ext_trans (ext_trans (ext_trans (ext_trans (ext_trans (ext_trans (ext_trans (ext_trans (ext_trans (ext_trans x0 x1) x2) x3) x4) x5) x6) x7) x8) x9) x10)) (fun hHeld => ?_)
                      clear hK K
                      simp only [Act.put, List.setIfInBounds_toArray, List.set_cons_zero, List.set_cons_succ]
                      refine wpAnyH_ready (rs := [12]) (by kernel_rfl) (by simp) ?_
                      refine AllReadyH.cons (o := ?_) ?_ (fun K hK => ?_) AllReadyH.nil
                      rotate_left
                      · simp only [List.getElem?_toArray, List.getElem?_cons_succ, List.getElem?_cons_zero]; rfl
                      · skip
                        go_simp
                        refine hK.out _ _ (Kept.of_ext (ext_alloc (ext_trans (ext_trans (ext_trans (ext_trans (ext_trans (ext_trans (ext_trans (ext_trans (ext_trans (ext_trans x0 x1) x2) x3) x4) x5) x6) x7) x8) x9) x10) _)) (fun hHeld => ?_)
                        obtain ⟨V11, hV⟩ : ∃ V, V10.alloc (.cells #[.int .i64 5, .int .i64 6, .int .i64 7, .int .i64 7, .int .i64 4, .int .i64 4, .int .i64 3, .int .i64 5, .int .i64 6, .int .i64 8, .int .i64 9, .int .i64 9] 57) = V := ⟨_, rfl⟩
                        rw [hV]
                        have x11 : Ext V10 V11 := by rw [← hV]; exact ext_alloc (ext_refl _) _
                        have b12 := hid (show V11.heap[V10.heap.size]? = some (.cells #[.int .i64 5, .int .i64 6, .int .i64 7, .int .i64 7, .int .i64 4, .int .i64 4, .int .i64 3, .int .i64 5, .int .i64 6, .int .i64 8, .int .i64 9, .int .i64 9] 57 (0, 0)) from by rw [← hV]; exact heap_alloc_new _ _)
                        clear hV
                        clear hK K
                        simp only [Act.put, List.setIfInBounds_toArray, List.set_cons_zero, List.set_cons_succ]
                        have C5 := hid (ext_blk_keep (ext_trans (ext_trans (ext_trans (ext_trans (ext_trans x6 x7) x8) x9) x10) x11) b5.out)
                        have C12 := hid (b12.out)
                        have hxx := ext_trans (ext_trans (ext_trans (ext_trans (ext_trans (ext_trans (ext_trans (ext_trans (ext_trans (ext_trans (ext_trans x0 x1) x2) x3) x4) x5) x6) x7) x8) x9) x10) x11
                        have lH := (ext_trans (ext_trans (ext_trans (ext_trans x0 x1) x2) x3) x4).size
                        have lT := (ext_trans (ext_trans (ext_trans (ext_trans (ext_trans (ext_trans (ext_trans (ext_trans (ext_trans (ext_trans x0 x1) x2) x3) x4) x5) x6) x7) x8) x9) x10).size
                        have hSz : Kept (fun b => b = w.heap.size) W0 V11 := Kept.of_ext hxx
                        refine takeR (i := 14) (oi := ?_) (v := ?_) ?_ (by kernel_rfl) (by kernel_rfl) (by kernel_rfl) ?_ ?_ (by assumption) ?_
                        rotate_left 2
                        · simp only [List.getElem?_toArray, List.getElem?_cons_succ, List.getElem?_cons_zero]; rfl
                        · kernel_rfl
                        · intro Wx hSx
                          try dsimp only at hSx
                          go_simp
                          try with_reducible rfl
                        simp only [Act.put, List.setIfInBounds_toArray, List.set_cons_zero, List.set_cons_succ]
                        have C0 := ext_blk_keep hxx B0.out
                        have c0 := blk_cell C0
                        have z0 : ∀ j, V11.frozen? ⟨w.heap.size, j, none⟩ = false := fun j => frozen_of_row V11 _ j _ _ C0
                        have G0 := hid C0
                        clear C0
                        refine wpAnyH_ready (rs := [15]) (by kernel_rfl) (by simp) ?_
                        refine AllReadyH.cons (o := ?_) ?_ (fun K hK => ?_) AllReadyH.nil
                        rotate_left
                        · simp only [List.getElem?_toArray, List.getElem?_cons_succ, List.getElem?_cons_zero]; rfl
                        go_simp
                        have hkc : Kept (fun b => b = w.heap.size) V11 (((((((V11.setCell ⟨w.heap.size, 0, none⟩ (.slice (some ⟨w.heap.size + 1 + 1, 0, none⟩) 3 3)).setCell ⟨w.heap.size, 1, none⟩ (.slice (some ⟨w.heap.size + 1 + 1 + 1 + 1 + 1 + 1, 0, none⟩) 3 3)).setCell ⟨w.heap.size, 2, none⟩ (.int .i64 0)).setCell ⟨w.heap.size, 3, none⟩ (.slice (some ⟨(V4.heap.size), 0, none⟩) 3 3)).setCell ⟨w.heap.size, 4, none⟩ (.slice (some ⟨(V10.heap.size), 0, none⟩) 6 6)).setCell ⟨w.heap.size, 5, none⟩ (.int .i64 600)).setCell ⟨w.heap.size, 6, none⟩ (.int .i64 calls)) := ((((((((Kept.refl (fun b => b = w.heap.size) V11).set _ rfl).set _ rfl).set _ rfl).set _ rfl).set _ rfl).set _ rfl).set _ rfl)
                        have g0 := set7 G0.out rfl (.slice (some ⟨w.heap.size + 1 + 1, 0, none⟩) 3 3) (.slice (some ⟨w.heap.size + 1 + 1 + 1 + 1 + 1 + 1, 0, none⟩) 3 3) (.int .i64 0) (.slice (some ⟨(V4.heap.size), 0, none⟩) 3 3) (.slice (some ⟨(V10.heap.size), 0, none⟩) 6 6) (.int .i64 600) (.int .i64 calls)
                        refine hK.out _ _ ((Kept.of_ext hxx).trans hkc) (fun hHeld => ?_)
                        clear hK K
                        simp only [Act.put, List.setIfInBounds_toArray, List.set_cons_zero, List.set_cons_succ]
                        refine wpAnyH_done (by kernel_rfl) (HR.out _ _ ?_) _
                        clear HR c0 z0
                        go_wp2
                        have hs0 := HS0.out
                        have hfin := three_err (B := w.heap.size) (hkc.keep (ext_blk_keep hxx B2.out) (by omega)) (hkc.keep (ext_blk_keep hxx B3.out) (by omega)) (hkc.keep (ext_blk_keep hxx B4.out) (by omega)) (hkc.keep (ext_blk_keep hxx B5.out) (by omega)) (hkc.keep (ext_blk_keep hxx B6.out) (by omega)) (hkc.keep C5.out (by omega)) (hkc.keep C12.out (by omega))
                        have hend : Ext w _ := hkc.extOld (ext_trans HE0.out hxx) (fun b hb h => by omega)
                        refine bodyPost_ret (v := .agg #[.slice (some ⟨w.heap.size + 1 + 1, 0, none⟩) 3 3, .slice (some ⟨w.heap.size + 1 + 1 + 1 + 1 + 1 + 1, 0, none⟩) 3 3, .int .i64 0, .slice (some ⟨(V4.heap.size), 0, none⟩) 3 3, .slice (some ⟨(V10.heap.size), 0, none⟩) 6 6, .int .i64 600, .int .i64 calls]) (results_cell_row (fn := Tryz.f64) (p := 4) (ty := 41) rfl _ _ w.heap.size 41 _ (0, 0) _ rfl g0 Tryz.underlying41 rfl (by kernel_rfl)) rfl ⟨_, _, _, _, rfl, hfin, hend⟩
          refine AllReadyH.cons (o := ?_) ?_ (fun K hK => ?_) AllReadyH.nil
          rotate_left
          · simp only [List.getElem?_toArray, List.getElem?_cons_succ, List.getElem?_cons_zero]; rfl
          · skip
            go_simp
            refine (between_c _ _ _).mono ?_
            rintro e V5 ⟨rfl, x5⟩
            refine hK.out _ _ (Kept.of_ext (ext_trans (ext_trans (ext_trans (ext_trans (ext_trans x0 x1) x2) x3) x4) x5)) (fun hHeld => ?_)
            clear hK K
            simp only [Act.put, List.setIfInBounds_toArray, List.set_cons_zero, List.set_cons_succ]
            refine wpAnyH_ready (rs := [5, 8]) (by kernel_rfl) (by simp) ?_
            refine AllReadyH.cons (o := ?_) ?_ (fun K hK => ?_) ?_
            rotate_left
            · simp only [List.getElem?_toArray, List.getElem?_cons_succ, List.getElem?_cons_zero]; rfl
            · skip
              go_simp
              refine hK.out _ _ (Kept.of_ext (ext_alloc (ext_trans (ext_trans (ext_trans (ext_trans (ext_trans x0 x1) x2) x3) x4) x5) _)) (fun hHeld => ?_)
              obtain ⟨V6, hV⟩ : ∃ V, V5.alloc (.cells #[.int .i64 600, .int .i64 640, .int .i64 610, .int .i64 last, .int .i64 600, .int .i64 640] 57) = V := ⟨_, rfl⟩
              rw [hV]
              have x6 : Ext V5 V6 := by rw [← hV]; exact ext_alloc (ext_refl _) _
              have b5 := hid (show V6.heap[V5.heap.size]? = some (.cells #[.int .i64 600, .int .i64 640, .int .i64 610, .int .i64 last, .int .i64 600, .int .i64 640] 57 (0, 0)) from by rw [← hV]; exact heap_alloc_new _ _)
              clear hV
              clear hK K
              simp only [Act.put, List.setIfInBounds_toArray, List.set_cons_zero, List.set_cons_succ]
              refine wpAnyH_ready (rs := [8]) (by kernel_rfl) (by simp) ?_
              refine AllReadyH.cons (o := ?_) ?_ (fun K hK => ?_) AllReadyH.nil
              rotate_left
              · simp only [List.getElem?_toArray, List.getElem?_cons_succ, List.getElem?_cons_zero]; rfl
              · skip
                go_simp
                refine (between_c _ _ _).mono ?_
                rintro e V7 ⟨rfl, x7⟩
                refine hK.out _ _ (Kept.of_ext (ext_trans (ext_trans (ext_trans (ext_trans (ext_trans (ext_trans (ext_trans x0 x1) x2) x3) x4) x5) x6) x7)) (fun hHeld => ?_)
                clear hK K
                simp only [Act.put, List.setIfInBounds_toArray, List.set_cons_zero, List.set_cons_succ]
                refine wpAnyH_ready (rs := [9]) (by kernel_rfl) (by simp) ?_
                refine AllReadyH.cons (o := ?_) ?_ (fun K hK => ?_) AllReadyH.nil
                rotate_left
                · simp only [List.getElem?_toArray, List.getElem?_cons_succ, List.getElem?_cons_zero]; rfl
                · skip
                  go_simp
                  refine (between_c _ _ _).mono ?_
                  rintro e V8 ⟨rfl, x8⟩
                  refine hK.out _ _ (Kept.of_ext (ext_trans (ext_trans (ext_trans (ext_trans (ext_trans (ext_trans (ext_trans (ext_trans x0 x1) x2) x3) x4) x5) x6) x7) x8)) (fun hHeld => ?_)
                  clear hK K
                  simp only [Act.put, List.setIfInBounds_toArray, List.set_cons_zero, List.set_cons_succ]
                  refine wpAnyH_ready (rs := [10]) (by kernel_rfl) (by simp) ?_
                  refine AllReadyH.cons (o := ?_) ?_ (fun K hK => ?_) AllReadyH.nil
                  rotate_left
                  · simp only [List.getElem?_toArray, List.getElem?_cons_succ, List.getElem?_cons_zero]; rfl
                  · skip
                    go_simp
                    refine (between_c _ _ _).mono ?_
                    rintro e V9 ⟨rfl, x9⟩
                    refine hK.out _ _ (Kept.of_ext (ext_trans (ext_trans (ext_trans (ext_trans (ext_trans (ext_trans (ext_trans (ext_trans (ext_trans x0 x1) x2) x3) x4) x5) x6) x7) x8) x9)) (fun hHeld => ?_)
                    clear hK K
                    simp only [Act.put, List.setIfInBounds_toArray, List.set_cons_zero, List.set_cons_succ]
                    refine wpAnyH_ready (rs := [11]) (by kernel_rfl) (by simp) ?_
                    refine AllReadyH.cons (o := ?_) ?_ (fun K hK => ?_) AllReadyH.nil
                    rotate_left
                    · simp only [List.getElem?_toArray, List.getElem?_cons_succ, List.getElem?_cons_zero]; rfl
                    · skip
                      go_simp
                      refine (between_c _ _ _).mono ?_
                      rintro e V10 ⟨rfl, x10⟩
                      refine hK.out _ _ (Kept.of_ext (ext_trans (ext_trans (ext_trans (ext_trans (ext_trans (ext_trans (ext_trans (ext_trans (ext_trans (ext_trans x0 x1) x2) x3) x4) x5) x6) x7) x8) x9) x10)) (fun hHeld => ?_)
                      clear hK K
                      simp only [Act.put, List.setIfInBounds_toArray, List.set_cons_zero, List.set_cons_succ]
                      refine wpAnyH_ready (rs := [12]) (by kernel_rfl) (by simp) ?_
                      refine AllReadyH.cons (o := ?_) ?_ (fun K hK => ?_) AllReadyH.nil
                      rotate_left
                      · simp only [List.getElem?_toArray, List.getElem?_cons_succ, List.getElem?_cons_zero]; rfl
                      · skip
                        go_simp
                        refine hK.out _ _ (Kept.of_ext (ext_alloc (ext_trans (ext_trans (ext_trans (ext_trans (ext_trans (ext_trans (ext_trans (ext_trans (ext_trans (ext_trans x0 x1) x2) x3) x4) x5) x6) x7) x8) x9) x10) _)) (fun hHeld => ?_)
                        obtain ⟨V11, hV⟩ : ∃ V, V10.alloc (.cells #[.int .i64 5, .int .i64 6, .int .i64 7, .int .i64 7, .int .i64 4, .int .i64 4, .int .i64 3, .int .i64 5, .int .i64 6, .int .i64 8, .int .i64 9, .int .i64 9] 57) = V := ⟨_, rfl⟩
                        rw [hV]
                        have x11 : Ext V10 V11 := by rw [← hV]; exact ext_alloc (ext_refl _) _
                        have b12 := hid (show V11.heap[V10.heap.size]? = some (.cells #[.int .i64 5, .int .i64 6, .int .i64 7, .int .i64 7, .int .i64 4, .int .i64 4, .int .i64 3, .int .i64 5, .int .i64 6, .int .i64 8, .int .i64 9, .int .i64 9] 57 (0, 0)) from by rw [← hV]; exact heap_alloc_new _ _)
                        clear hV
                        clear hK K
                        simp only [Act.put, List.setIfInBounds_toArray, List.set_cons_zero, List.set_cons_succ]
                        have C5 := hid (ext_blk_keep (ext_trans (ext_trans (ext_trans (ext_trans x7 x8) x9) x10) x11) b5.out)
                        have C12 := hid (b12.out)
                        have hxx := ext_trans (ext_trans (ext_trans (ext_trans (ext_trans (ext_trans (ext_trans (ext_trans (ext_trans (ext_trans (ext_trans x0 x1) x2) x3) x4) x5) x6) x7) x8) x9) x10) x11
                        have lH := (ext_trans (ext_trans (ext_trans (ext_trans (ext_trans x0 x1) x2) x3) x4) x5).size
                        have lT := (ext_trans (ext_trans (ext_trans (ext_trans (ext_trans (ext_trans (ext_trans (ext_trans (ext_trans (ext_trans x0 x1) x2) x3) x4) x5) x6) x7) x8) x9) x10).size
                        have hSz : Kept (fun b => b = w.heap.size) W0 V11 := Kept.of_ext hxx
                        refine takeR (i := 14) (oi := ?_) (v := ?_) ?_ (by kernel_rfl) (by kernel_rfl) (by kernel_rfl) ?_ ?_ (by assumption) ?_
                        rotate_left 2
                        · simp only [List.getElem?_toArray, List.getElem?_cons_succ, List.getElem?_cons_zero]; rfl
                        · kernel_rfl
                        · intro Wx hSx
                          try dsimp only at hSx
                          go_simp
                          try with_reducible rfl
                        simp only [Act.put, List.setIfInBounds_toArray, List.set_cons_zero, List.set_cons_succ]
                        have C0 := ext_blk_keep hxx B0.out
                        have c0 := blk_cell C0
                        have z0 : ∀ j, V11.frozen? ⟨w.heap.size, j, none⟩ = false := fun j => frozen_of_row V11 _ j _ _ C0
                        have G0 := hid C0
                        clear C0
                        refine wpAnyH_ready (rs := [15]) (by kernel_rfl) (by simp) ?_
                        refine AllReadyH.cons (o := ?_) ?_ (fun K hK => ?_) AllReadyH.nil
                        rotate_left
                        · simp only [List.getElem?_toArray, List.getElem?_cons_succ, List.getElem?_cons_zero]; rfl
                        go_simp
                        have hkc : Kept (fun b => b = w.heap.size) V11 (((((((V11.setCell ⟨w.heap.size, 0, none⟩ (.slice (some ⟨w.heap.size + 1 + 1, 0, none⟩) 3 3)).setCell ⟨w.heap.size, 1, none⟩ (.slice (some ⟨w.heap.size + 1 + 1 + 1 + 1 + 1 + 1, 0, none⟩) 3 3)).setCell ⟨w.heap.size, 2, none⟩ (.int .i64 0)).setCell ⟨w.heap.size, 3, none⟩ (.slice (some ⟨(V5.heap.size), 0, none⟩) 3 3)).setCell ⟨w.heap.size, 4, none⟩ (.slice (some ⟨(V10.heap.size), 0, none⟩) 6 6)).setCell ⟨w.heap.size, 5, none⟩ (.int .i64 600)).setCell ⟨w.heap.size, 6, none⟩ (.int .i64 calls)) := ((((((((Kept.refl (fun b => b = w.heap.size) V11).set _ rfl).set _ rfl).set _ rfl).set _ rfl).set _ rfl).set _ rfl).set _ rfl)
                        have g0 := set7 G0.out rfl (.slice (some ⟨w.heap.size + 1 + 1, 0, none⟩) 3 3) (.slice (some ⟨w.heap.size + 1 + 1 + 1 + 1 + 1 + 1, 0, none⟩) 3 3) (.int .i64 0) (.slice (some ⟨(V5.heap.size), 0, none⟩) 3 3) (.slice (some ⟨(V10.heap.size), 0, none⟩) 6 6) (.int .i64 600) (.int .i64 calls)
                        refine hK.out _ _ ((Kept.of_ext hxx).trans hkc) (fun hHeld => ?_)
                        clear hK K
                        simp only [Act.put, List.setIfInBounds_toArray, List.set_cons_zero, List.set_cons_succ]
                        refine wpAnyH_done (by kernel_rfl) (HR.out _ _ ?_) _
                        clear HR c0 z0
                        go_wp2
                        have hs0 := HS0.out
                        have hfin := three_err (B := w.heap.size) (hkc.keep (ext_blk_keep hxx B2.out) (by omega)) (hkc.keep (ext_blk_keep hxx B3.out) (by omega)) (hkc.keep (ext_blk_keep hxx B4.out) (by omega)) (hkc.keep (ext_blk_keep hxx B5.out) (by omega)) (hkc.keep (ext_blk_keep hxx B6.out) (by omega)) (hkc.keep C5.out (by omega)) (hkc.keep C12.out (by omega))
                        have hend : Ext w _ := hkc.extOld (ext_trans HE0.out hxx) (fun b hb h => by omega)
                        refine bodyPost_ret (v := .agg #[.slice (some ⟨w.heap.size + 1 + 1, 0, none⟩) 3 3, .slice (some ⟨w.heap.size + 1 + 1 + 1 + 1 + 1 + 1, 0, none⟩) 3 3, .int .i64 0, .slice (some ⟨(V5.heap.size), 0, none⟩) 3 3, .slice (some ⟨(V10.heap.size), 0, none⟩) 6 6, .int .i64 600, .int .i64 calls]) (results_cell_row (fn := Tryz.f64) (p := 4) (ty := 41) rfl _ _ w.heap.size 41 _ (0, 0) _ rfl g0 Tryz.underlying41 rfl (by kernel_rfl)) rfl ⟨_, _, _, _, rfl, hfin, hend⟩
            refine AllReadyH.cons (o := ?_) ?_ (fun K hK => ?_) AllReadyH.nil
            rotate_left
            · simp only [List.getElem?_toArray, List.getElem?_cons_succ, List.getElem?_cons_zero]; rfl
            · skip
              go_simp
              refine (between_c _ _ _).mono ?_
              rintro e V6 ⟨rfl, x6⟩
              refine hK.out _ _ (Kept.of_ext (ext_trans (ext_trans (ext_trans (ext_trans (ext_trans (ext_trans x0 x1) x2) x3) x4) x5) x6)) (fun hHeld => ?_)
              clear hK K
              simp only [Act.put, List.setIfInBounds_toArray, List.set_cons_zero, List.set_cons_succ]
              refine wpAnyH_ready (rs := [5, 9]) (by kernel_rfl) (by simp) ?_
              refine AllReadyH.cons (o := ?_) ?_ (fun K hK => ?_) ?_
              rotate_left
              · simp only [List.getElem?_toArray, List.getElem?_cons_succ, List.getElem?_cons_zero]; rfl
              · skip
                go_simp
                refine hK.out _ _ (Kept.of_ext (ext_alloc (ext_trans (ext_trans (ext_trans (ext_trans (ext_trans (ext_trans x0 x1) x2) x3) x4) x5) x6) _)) (fun hHeld => ?_)
                obtain ⟨V7, hV⟩ : ∃ V, V6.alloc (.cells #[.int .i64 600, .int .i64 640, .int .i64 610, .int .i64 last, .int .i64 600, .int .i64 640] 57) = V := ⟨_, rfl⟩
                rw [hV]
                have x7 : Ext V6 V7 := by rw [← hV]; exact ext_alloc (ext_refl _) _
                have b5 := hid (show V7.heap[V6.heap.size]? = some (.cells #[.int .i64 600, .int .i64 640, .int .i64 610, .int .i64 last, .int .i64 600, .int .i64 640] 57 (0, 0)) from by rw [← hV]; exact heap_alloc_new _ _)
                clear hV
                clear hK K
                simp only [Act.put, List.setIfInBounds_toArray, List.set_cons_zero, List.set_cons_succ]
                refine wpAnyH_ready (rs := [9]) (by kernel_rfl) (by simp) ?_
                refine AllReadyH.cons (o := ?_) ?_ (fun K hK => ?_) AllReadyH.nil
                rotate_left
                · simp only [List.getElem?_toArray, List.getElem?_cons_succ, List.getElem?_cons_zero]; rfl
                · skip
                  go_simp
                  refine (between_c _ _ _).mono ?_
                  rintro e V8 ⟨rfl, x8⟩
                  refine hK.out _ _ (Kept.of_ext (ext_trans (ext_trans (ext_trans (ext_trans (ext_trans (ext_trans (ext_trans (ext_trans x0 x1) x2) x3) x4) x5) x6) x7) x8)) (fun hHeld => ?_)
                  clear hK K
                  simp only [Act.put, List.setIfInBounds_toArray, List.set_cons_zero, List.set_cons_succ]
                  refine wpAnyH_ready (rs := [10]) (by kernel_rfl) (by simp) ?_
                  refine AllReadyH.cons (o := ?_) ?_ (fun K hK => ?_) AllReadyH.nil
                  rotate_left
                  · simp only [List.getElem?_toArray, List.getElem?_cons_succ, List.getElem?_cons_zero]; rfl
                  · skip
                    go_simp
                    refine (between_c _ _ _).mono ?_
                    rintro e V9 ⟨rfl, x9⟩
                    refine hK.out _ _ (Kept.of_ext (ext_trans (ext_trans (ext_trans (ext_trans (ext_trans (ext_trans (ext_trans (ext_trans (ext_trans x0 x1) x2) x3) x4) x5) x6) x7) x8) x9)) (fun hHeld => ?_)
                    clear hK K
                    simp only [Act.put, List.setIfInBounds_toArray, List.set_cons_zero, List.set_cons_succ]
                    refine wpAnyH_ready (rs := [11]) (by kernel_rfl) (by simp) ?_
                    refine AllReadyH.cons (o := ?_) ?_ (fun K hK => ?_) AllReadyH.nil
                    rotate_left
                    · simp only [List.getElem?_toArray, List.getElem?_cons_succ, List.getElem?_cons_zero]; rfl
                    · skip
                      go_simp
                      refine (between_c _ _ _).mono ?_
                      rintro e V10 ⟨rfl, x10⟩
                      refine hK.out _ _ (Kept.of_ext (ext_trans (ext_trans (ext_trans (ext_trans (ext_trans (ext_trans (ext_trans (ext_trans (ext_trans (ext_trans x0 x1) x2) x3) x4) x5) x6) x7) x8) x9) x10)) (fun hHeld => ?_)
                      clear hK K
                      simp only [Act.put, List.setIfInBounds_toArray, List.set_cons_zero, List.set_cons_succ]
                      refine wpAnyH_ready (rs := [12]) (by kernel_rfl) (by simp) ?_
                      refine AllReadyH.cons (o := ?_) ?_ (fun K hK => ?_) AllReadyH.nil
                      rotate_left
                      · simp only [List.getElem?_toArray, List.getElem?_cons_succ, List.getElem?_cons_zero]; rfl
                      · skip
                        go_simp
                        refine hK.out _ _ (Kept.of_ext (ext_alloc (ext_trans (ext_trans (ext_trans (ext_trans (ext_trans (ext_trans (ext_trans (ext_trans (ext_trans (ext_trans x0 x1) x2) x3) x4) x5) x6) x7) x8) x9) x10) _)) (fun hHeld => ?_)
                        obtain ⟨V11, hV⟩ : ∃ V, V10.alloc (.cells #[.int .i64 5, .int .i64 6, .int .i64 7, .int .i64 7, .int .i64 4, .int .i64 4, .int .i64 3, .int .i64 5, .int .i64 6, .int .i64 8, .int .i64 9, .int .i64 9] 57) = V := ⟨_, rfl⟩
                        rw [hV]
                        have x11 : Ext V10 V11 := by rw [← hV]; exact ext_alloc (ext_refl _) _
                        have b12 := hid (show V11.heap[V10.heap.size]? = some (.cells #[.int .i64 5, .int .i64 6, .int .i64 7, .int .i64 7, .int .i64 4, .int .i64 4, .int .i64 3, .int .i64 5, .int .i64 6, .int .i64 8, .int .i64 9, .int .i64 9] 57 (0, 0)) from by rw [← hV]; exact heap_alloc_new _ _)
                        clear hV
                        clear hK K
                        simp only [Act.put, List.setIfInBounds_toArray, List.set_cons_zero, List.set_cons_succ]
                        have C5 := hid (ext_blk_keep (ext_trans (ext_trans (ext_trans x8 x9) x10) x11) b5.out)
                        have C12 := hid (b12.out)
                        have hxx := ext_trans (ext_trans (ext_trans (ext_trans (ext_trans (ext_trans (ext_trans (ext_trans (ext_trans (ext_trans (ext_trans x0 x1) x2) x3) x4) x5) x6) x7) x8) x9) x10) x11
                        have lH := (ext_trans (ext_trans (ext_trans (ext_trans (ext_trans (ext_trans x0 x1) x2) x3) x4) x5) x6).size
                        have lT := (ext_trans (ext_trans (ext_trans (ext_trans (ext_trans (ext_trans (ext_trans (ext_trans (ext_trans (ext_trans x0 x1) x2) x3) x4) x5) x6) x7) x8) x9) x10).size
                        have hSz : Kept (fun b => b = w.heap.size) W0 V11 := Kept.of_ext hxx
                        refine takeR (i := 14) (oi := ?_) (v := ?_) ?_ (by kernel_rfl) (by kernel_rfl) (by kernel_rfl) ?_ ?_ (by assumption) ?_
                        rotate_left 2
                        · simp only [List.getElem?_toArray, List.getElem?_cons_succ, List.getElem?_cons_zero]; rfl
                        · kernel_rfl
                        · intro Wx hSx
                          try dsimp only at hSx
                          go_simp
                          try with_reducible rfl
                        simp only [Act.put, List.setIfInBounds_toArray, List.set_cons_zero, List.set_cons_succ]
                        have C0 := ext_blk_keep hxx B0.out
                        have c0 := blk_cell C0
                        have z0 : ∀ j, V11.frozen? ⟨w.heap.size, j, none⟩ = false := fun j => frozen_of_row V11 _ j _ _ C0
                        have G0 := hid C0
                        clear C0
                        refine wpAnyH_ready (rs := [15]) (by kernel_rfl) (by simp) ?_
                        refine AllReadyH.cons (o := ?_) ?_ (fun K hK => ?_) AllReadyH.nil
                        rotate_left
                        · simp only [List.getElem?_toArray, List.getElem?_cons_succ, List.getElem?_cons_zero]; rfl
                        go_simp
                        have hkc : Kept (fun b => b = w.heap.size) V11 (((((((V11.setCell ⟨w.heap.size, 0, none⟩ (.slice (some ⟨w.heap.size + 1 + 1, 0, none⟩) 3 3)).setCell ⟨w.heap.size, 1, none⟩ (.slice (some ⟨w.heap.size + 1 + 1 + 1 + 1 + 1 + 1, 0, none⟩) 3 3)).setCell ⟨w.heap.size, 2, none⟩ (.int .i64 0)).setCell ⟨w.heap.size, 3, none⟩ (.slice (some ⟨(V6.heap.size), 0, none⟩) 3 3)).setCell ⟨w.heap.size, 4, none⟩ (.slice (some ⟨(V10.heap.size), 0, none⟩) 6 6)).setCell ⟨w.heap.size, 5, none⟩ (.int .i64 600)).setCell ⟨w.heap.size, 6, none⟩ (.int .i64 calls)) := ((((((((Kept.refl (fun b => b = w.heap.size) V11).set _ rfl).set _ rfl).set _ rfl).set _ rfl).set _ rfl).set _ rfl).set _ rfl)
                        have g0 := set7 G0.out rfl (.slice (some ⟨w.heap.size + 1 + 1, 0, none⟩) 3 3) (.slice (some ⟨w.heap.size + 1 + 1 + 1 + 1 + 1 + 1, 0, none⟩) 3 3) (.int .i64 0) (.slice (some ⟨(V6.heap.size), 0, none⟩) 3 3) (.slice (some ⟨(V10.heap.size), 0, none⟩) 6 6) (.int .i64 600) (.int .i64 calls)
                        refine hK.out _ _ ((Kept.of_ext hxx).trans hkc) (fun hHeld => ?_)
                        clear hK K
                        simp only [Act.put, List.setIfInBounds_toArray, List.set_cons_zero, List.set_cons_succ]
                        refine wpAnyH_done (by kernel_rfl) (HR.out _ _ ?_) _
                        clear HR c0 z0
                        go_wp2
                        have hs0 := HS0.out
                        have hfin := three_err (B := w.heap.size) (hkc.keep (ext_blk_keep hxx B2.out) (by omega)) (hkc.keep (ext_blk_keep hxx B3.out) (by omega)) (hkc.keep (ext_blk_keep hxx B4.out) (by omega)) (hkc.keep (ext_blk_keep hxx B5.out) (by omega)) (hkc.keep (ext_blk_keep hxx B6.out) (by omega)) (hkc.keep C5.out (by omega)) (hkc.keep C12.out (by omega))
                        have hend : Ext w _ := hkc.extOld (ext_trans HE0.out hxx) (fun b hb h => by omega)
                        refine bodyPost_ret (v := .agg #[.slice (some ⟨w.heap.size + 1 + 1, 0, none⟩) 3 3, .slice (some ⟨w.heap.size + 1 + 1 + 1 + 1 + 1 + 1, 0, none⟩) 3 3, .int .i64 0, .slice (some ⟨(V6.heap.size), 0, none⟩) 3 3, .slice (some ⟨(V10.heap.size), 0, none⟩) 6 6, .int .i64 600, .int .i64 calls]) (results_cell_row (fn := Tryz.f64) (p := 4) (ty := 41) rfl _ _ w.heap.size 41 _ (0, 0) _ rfl g0 Tryz.underlying41 rfl (by kernel_rfl)) rfl ⟨_, _, _, _, rfl, hfin, hend⟩
              refine AllReadyH.cons (o := ?_) ?_ (fun K hK => ?_) AllReadyH.nil
              rotate_left
              · simp only [List.getElem?_toArray, List.getElem?_cons_succ, List.getElem?_cons_zero]; rfl
              · skip
                go_simp
                refine (between_c _ _ _).mono ?_
                rintro e V7 ⟨rfl, x7⟩
                refine hK.out _ _ (Kept.of_ext (ext_trans (ext_trans (ext_trans (ext_trans (ext_trans (ext_trans (ext_trans x0 x1) x2) x3) x4) x5) x6) x7)) (fun hHeld => ?_)
                clear hK K
                simp only [Act.put, List.setIfInBounds_toArray, List.set_cons_zero, List.set_cons_succ]
                refine wpAnyH_ready (rs := [5, 10]) (by kernel_rfl) (by simp) ?_
                refine AllReadyH.cons (o := ?_) ?_ (fun K hK => ?_) ?_
                rotate_left
                · simp only [List.getElem?_toArray, List.getElem?_cons_succ, List.getElem?_cons_zero]; rfl
                · skip
                  go_simp
                  refine hK.out _ _ (Kept.of_ext (ext_alloc (ext_trans (ext_trans (ext_trans (ext_trans (ext_trans (ext_trans (ext_trans x0 x1) x2) x3) x4) x5) x6) x7) _)) (fun hHeld => ?_)
                  obtain ⟨V8, hV⟩ : ∃ V, V7.alloc (.cells #[.int .i64 600, .int .i64 640, .int .i64 610, .int .i64 last, .int .i64 600, .int .i64 640] 57) = V := ⟨_, rfl⟩
                  rw [hV]
                  have x8 : Ext V7 V8 := by rw [← hV]; exact ext_alloc (ext_refl _) _
                  have b5 := hid (show V8.heap[V7.heap.size]? = some (.cells #[.int .i64 600, .int .i64 640, .int .i64 610, .int .i64 last, .int .i64 600, .int .i64 640] 57 (0, 0)) from by rw [← hV]; exact heap_alloc_new _ _)
                  clear hV
                  clear hK K
                  simp only [Act.put, List.setIfInBounds_toArray, List.set_cons_zero, List.set_cons_succ]
                  refine wpAnyH_ready (rs := [10]) (by kernel_rfl) (by simp) ?_
                  refine AllReadyH.cons (o := ?_) ?_ (fun K hK => ?_) AllReadyH.nil
                  rotate_left
                  · simp only [List.getElem?_toArray, List.getElem?_cons_succ, List.getElem?_cons_zero]; rfl
                  · skip
                    go_simp
                    refine (between_c _ _ _).mono ?_
                    rintro e V9 ⟨rfl, x9⟩
                    refine hK.out _ _ (Kept.of_ext (ext_trans (ext_trans (ext_trans (ext_trans (ext_trans (ext_trans (ext_trans (ext_trans (ext_trans x0 x1) x2) x3) x4) x5) x6) x7) x8) x9)) (fun hHeld => ?_)
                    clear hK K
                    simp only [Act.put, List.setIfInBounds_toArray, List.set_cons_zero, List.set_cons_succ]
                    refine wpAnyH_ready (rs := [11]) (by kernel_rfl) (by simp) ?_
                    refine AllReadyH.cons (o := ?_) ?_ (fun K hK => ?_) AllReadyH.nil
                    rotate_left
                    · simp only [List.getElem?_toArray, List.getElem?_cons_succ, List.getElem?_cons_zero]; rfl
                    · skip
                      go_simp
                      refine (between_c _ _ _).mono ?_
                      rintro e V10 ⟨rfl, x10⟩
                      refine hK.out _ _ (Kept.of_ext (ext_trans (ext_trans (ext_trans (ext_trans (ext_trans (ext_trans (ext_trans (ext_trans (ext_trans (ext_trans x0 x1) x2) x3) x4) x5) x6) x7) x8) x9) x10)) (fun hHeld => ?_)
                      clear hK K
                      simp only [Act.put, List.setIfInBounds_toArray, List.set_cons_zero, List.set_cons_succ]
                      refine wpAnyH_ready (rs := [12]) (by kernel_rfl) (by simp) ?_
                      refine AllReadyH.cons (o := ?_) ?_ (fun K hK => ?_) AllReadyH.nil
                      rotate_left
                      · simp only [List.getElem?_toArray, List.getElem?_cons_succ, List.getElem?_cons_zero]; rfl
                      · skip
                        go_simp
                        refine hK.out _ _ (Kept.of_ext (ext_alloc (ext_trans (ext_trans (ext_trans (ext_trans (ext_trans (ext_trans (ext_trans (ext_trans (ext_trans (ext_trans x0 x1) x2) x3) x4) x5) x6) x7) x8) x9) x10) _)) (fun hHeld => ?_)
                        obtain ⟨V11, hV⟩ : ∃ V, V10.alloc (.cells #[.int .i64 5, .int .i64 6, .int .i64 7, .int .i64 7, .int .i64 4, .int .i64 4, .int .i64 3, .int .i64 5, .int .i64 6, .int .i64 8, .int .i64 9, .int .i64 9] 57) = V := ⟨_, rfl⟩
                        rw [hV]
                        have x11 : Ext V10 V11 := by rw [← hV]; exact ext_alloc (ext_refl _) _
                        have b12 := hid (show V11.heap[V10.heap.size]? = some (.cells #[.int .i64 5, .int .i64 6, .int .i64 7, .int .i64 7, .int .i64 4, .int .i64 4, .int .i64 3, .int .i64 5, .int .i64 6, .int .i64 8, .int .i64 9, .int .i64 9] 57 (0, 0)) from by rw [← hV]; exact heap_alloc_new _ _)
                        clear hV
                        clear hK K
                        simp only [Act.put, List.setIfInBounds_toArray, List.set_cons_zero, List.set_cons_succ]
                        have C5 := hid (ext_blk_keep (ext_trans (ext_trans x9 x10) x11) b5.out)
                        have C12 := hid (b12.out)
                        have hxx := ext_trans (ext_trans (ext_trans (ext_trans (ext_trans (ext_trans (ext_trans (ext_trans (ext_trans (ext_trans (ext_trans x0 x1) x2) x3) x4) x5) x6) x7) x8) x9) x10) x11
                        have lH := (ext_trans (ext_trans (ext_trans (ext_trans (ext_trans (ext_trans (ext_trans x0 x1) x2) x3) x4) x5) x6) x7).size
                        have lT := (ext_trans (ext_trans (ext_trans (ext_trans (ext_trans (ext_trans (ext_trans (ext_trans (ext_trans (ext_trans x0 x1) x2) x3) x4) x5) x6) x7) x8) x9) x10).size
                        have hSz : Kept (fun b => b = w.heap.size) W0 V11 := Kept.of_ext hxx
                        refine takeR (i := 14) (oi := ?_) (v := ?_) ?_ (by kernel_rfl) (by kernel_rfl) (by kernel_rfl) ?_ ?_ (by assumption) ?_
                        rotate_left 2
                        · simp only [List.getElem?_toArray, List.getElem?_cons_succ, List.getElem?_cons_zero]; rfl
                        · kernel_rfl
                        · intro Wx hSx
                          try dsimp only at hSx
                          go_simp
                          try with_reducible rfl
                        simp only [Act.put, List.setIfInBounds_toArray, List.set_cons_zero, List.set_cons_succ]
                        have C0 := ext_blk_keep hxx B0.out
                        have c0 := blk_cell C0
                        have z0 : ∀ j, V11.frozen? ⟨w.heap.size, j, none⟩ = false := fun j => frozen_of_row V11 _ j _ _ C0
                        have G0 := hid C0
                        clear C0
                        refine wpAnyH_ready (rs := [15]) (by kernel_rfl) (by simp) ?_
                        refine AllReadyH.cons (o := ?_) ?_ (fun K hK => ?_) AllReadyH.nil
                        rotate_left
                        · simp only [List.getElem?_toArray, List.getElem?_cons_succ, List.getElem?_cons_zero]; rfl
                        go_simp
                        have hkc : Kept (fun b => b = w.heap.size) V11 (((((((V11.setCell ⟨w.heap.size, 0, none⟩ (.slice (some ⟨w.heap.size + 1 + 1, 0, none⟩) 3 3)).setCell ⟨w.heap.size, 1, none⟩ (.slice (some ⟨w.heap.size + 1 + 1 + 1 + 1 + 1 + 1, 0, none⟩) 3 3)).setCell ⟨w.heap.size, 2, none⟩ (.int .i64 0)).setCell ⟨w.heap.size, 3, none⟩ (.slice (some ⟨(V7.heap.size), 0, none⟩) 3 3)).setCell ⟨w.heap.size, 4, none⟩ (.slice (some ⟨(V10.heap.size), 0, none⟩) 6 6)).setCell ⟨w.heap.size, 5, none⟩ (.int .i64 600)).setCell ⟨w.heap.size, 6, none⟩ (.int .i64 calls)) := ((((((((Kept.refl (fun b => b = w.heap.size) V11).set _ rfl).set _ rfl).set _ rfl).set _ rfl).set _ rfl).set _ rfl).set _ rfl)
                        have g0 := set7 G0.out rfl (.slice (some ⟨w.heap.size + 1 + 1, 0, none⟩) 3 3) (.slice (some ⟨w.heap.size + 1 + 1 + 1 + 1 + 1 + 1, 0, none⟩) 3 3) (.int .i64 0) (.slice (some ⟨(V7.heap.size), 0, none⟩) 3 3) (.slice (some ⟨(V10.heap.size), 0, none⟩) 6 6) (.int .i64 600) (.int .i64 calls)
                        refine hK.out _ _ ((Kept.of_ext hxx).trans hkc) (fun hHeld => ?_)
                        clear hK K
                        simp only [Act.put, List.setIfInBounds_toArray, List.set_cons_zero, List.set_cons_succ]
                        refine wpAnyH_done (by kernel_rfl) (HR.out _ _ ?_) _
                        clear HR c0 z0
                        go_wp2
                        have hs0 := HS0.out
                        have hfin := three_err (B := w.heap.size) (hkc.keep (ext_blk_keep hxx B2.out) (by omega)) (hkc.keep (ext_blk_keep hxx B3.out) (by omega)) (hkc.keep (ext_blk_keep hxx B4.out) (by omega)) (hkc.keep (ext_blk_keep hxx B5.out) (by omega)) (hkc.keep (ext_blk_keep hxx B6.out) (by omega)) (hkc.keep C5.out (by omega)) (hkc.keep C12.out (by omega))
                        have hend : Ext w _ := hkc.extOld (ext_trans HE0.out hxx) (fun b hb h => by omega)
                        refine bodyPost_ret (v := .agg #[.slice (some ⟨w.heap.size + 1 + 1, 0, none⟩) 3 3, .slice (some ⟨w.heap.size + 1 + 1 + 1 + 1 + 1 + 1, 0, none⟩) 3 3, .int .i64 0, .slice (some ⟨(V7.heap.size), 0, none⟩) 3 3, .slice (some ⟨(V10.heap.size), 0, none⟩) 6 6, .int .i64 600, .int .i64 calls]) (results_cell_row (fn := Tryz.f64) (p := 4) (ty := 41) rfl _ _ w.heap.size 41 _ (0, 0) _ rfl g0 Tryz.underlying41 rfl (by kernel_rfl)) rfl ⟨_, _, _, _, rfl, hfin, hend⟩
                refine AllReadyH.cons (o := ?_) ?_ (fun K hK => ?_) AllReadyH.nil
                rotate_left
                · simp only [List.getElem?_toArray, List.getElem?_cons_succ, List.getElem?_cons_zero]; rfl
                · skip
                  go_simp
                  refine (between_c _ _ _).mono ?_
                  rintro e V8 ⟨rfl, x8⟩
                  refine hK.out _ _ (Kept.of_ext (ext_trans (ext_trans (ext_trans (ext_trans (ext_trans (ext_trans (ext_trans (ext_trans x0 x1) x2) x3) x4) x5) x6) x7) x8)) (fun hHeld => ?_)
                  clear hK K
                  simp only [Act.put, List.setIfInBounds_toArray, List.set_cons_zero, List.set_cons_succ]
                  refine wpAnyH_ready (rs := [5, 11]) (by kernel_rfl) (by simp) ?_
                  refine AllReadyH.cons (o := ?_) ?_ (fun K hK => ?_) ?_
                  rotate_left
                  · simp only [List.getElem?_toArray, List.getElem?_cons_succ, List.getElem?_cons_zero]; rfl
                  · skip
                    go_simp
                    refine hK.out _ _ (Kept.of_ext (ext_alloc (ext_trans (ext_trans (ext_trans (ext_trans (ext_trans (ext_trans (ext_trans (ext_trans x0 x1) x2) x3) x4) x5) x6) x7) x8) _)) (fun hHeld => ?_)
                    obtain ⟨V9, hV⟩ : ∃ V, V8.alloc (.cells #[.int .i64 600, .int .i64 640, .int .i64 610, .int .i64 last, .int .i64 600, .int .i64 640] 57) = V := ⟨_, rfl⟩
                    rw [hV]
                    have x9 : Ext V8 V9 := by rw [← hV]; exact ext_alloc (ext_refl _) _
                    have b5 := hid (show V9.heap[V8.heap.size]? = some (.cells #[.int .i64 600, .int .i64 640, .int .i64 610, .int .i64 last, .int .i64 600, .int .i64 640] 57 (0, 0)) from by rw [← hV]; exact heap_alloc_new _ _)
                    clear hV
                    clear hK K
                    simp only [Act.put, List.setIfInBounds_toArray, List.set_cons_zero, List.set_cons_succ]
                    refine wpAnyH_ready (rs := [11]) (by kernel_rfl) (by simp) ?_
                    refine AllReadyH.cons (o := ?_) ?_ (fun K hK => ?_) AllReadyH.nil
                    rotate_left
                    · simp only [List.getElem?_toArray, List.getElem?_cons_succ, List.getElem?_cons_zero]; rfl
                    · skip
                      go_simp
                      refine (between_c _ _ _).mono ?_
                      rintro e V10 ⟨rfl, x10⟩
                      refine hK.out _ _ (Kept.of_ext (ext_trans (ext_trans (ext_trans (ext_trans (ext_trans (ext_trans (ext_trans (ext_trans (ext_trans (ext_trans x0 x1) x2) x3) x4) x5) x6) x7) x8) x9) x10)) (fun hHeld => ?_)
                      clear hK K
                      simp only [Act.put, List.setIfInBounds_toArray, List.set_cons_zero, List.set_cons_succ]
                      refine wpAnyH_ready (rs := [12]) (by kernel_rfl) (by simp) ?_
                      refine AllReadyH.cons (o := ?_) ?_ (fun K hK => ?_) AllReadyH.nil
                      rotate_left
                      · simp only [List.getElem?_toArray, List.getElem?_cons_succ, List.getElem?_cons_zero]; rfl
                      · skip
                        go_simp
                        refine hK.out _ _ (Kept.of_ext (ext_alloc (ext_trans (ext_trans (ext_trans (ext_trans (ext_trans (ext_trans (ext_trans (ext_trans (ext_trans (ext_trans x0 x1) x2) x3) x4) x5) x6) x7) x8) x9) x10) _)) (fun hHeld => ?_)
                        obtain ⟨V11, hV⟩ : ∃ V, V10.alloc (.cells #[.int .i64 5, .int .i64 6, .int .i64 7, .int .i64 7, .int .i64 4, .int .i64 4, .int .i64 3, .int .i64 5, .int .i64 6, .int .i64 8, .int .i64 9, .int .i64 9] 57) = V := ⟨_, rfl⟩
                        rw [hV]
                        have x11 : Ext V10 V11 := by rw [← hV]; exact ext_alloc (ext_refl _) _
                        have b12 := hid (show V11.heap[V10.heap.size]? = some (.cells #[.int .i64 5, .int .i64 6, .int .i64 7, .int .i64 7, .int .i64 4, .int .i64 4, .int .i64 3, .int .i64 5, .int .i64 6, .int .i64 8, .int .i64 9, .int .i64 9] 57 (0, 0)) from by rw [← hV]; exact heap_alloc_new _ _)
                        clear hV
                        clear hK K
                        simp only [Act.put, List.setIfInBounds_toArray, List.set_cons_zero, List.set_cons_succ]
                        have C5 := hid (ext_blk_keep (ext_trans x10 x11) b5.out)
                        have C12 := hid (b12.out)
                        have hxx := ext_trans (ext_trans (ext_trans (ext_trans (ext_trans (ext_trans (ext_trans (ext_trans (ext_trans (ext_trans (ext_trans x0 x1) x2) x3) x4) x5) x6) x7) x8) x9) x10) x11
                        have lH := (ext_trans (ext_trans (ext_trans (ext_trans (ext_trans (ext_trans (ext_trans (ext_trans x0 x1) x2) x3) x4) x5) x6) x7) x8).size
                        have lT := (ext_trans (ext_trans (ext_trans (ext_trans (ext_trans (ext_trans (ext_trans (ext_trans (ext_trans (ext_trans x0 x1) x2) x3) x4) x5) x6) x7) x8) x9) x10).size
                        have hSz : Kept (fun b => b = w.heap.size) W0 V11 := Kept.of_ext hxx
                        refine takeR (i := 14) (oi := ?_) (v := ?_) ?_ (by kernel_rfl) (by kernel_rfl) (by kernel_rfl) ?_ ?_ (by assumption) ?_
                        rotate_left 2
                        · simp only [List.getElem?_toArray, List.getElem?_cons_succ, List.getElem?_cons_zero]; rfl
                        · kernel_rfl
                        · intro Wx hSx
                          try dsimp only at hSx
                          go_simp
                          try with_reducible rfl
                        simp only [Act.put, List.setIfInBounds_toArray, List.set_cons_zero, List.set_cons_succ]
                        have C0 := ext_blk_keep hxx B0.out
                        have c0 := blk_cell C0
                        have z0 : ∀ j, V11.frozen? ⟨w.heap.size, j, none⟩ = false := fun j => frozen_of_row V11 _ j _ _ C0
                        have G0 := hid C0
                        clear C0
                        refine wpAnyH_ready (rs := [15]) (by kernel_rfl) (by simp) ?_
                        refine AllReadyH.cons (o := ?_) ?_ (fun K hK => ?_) AllReadyH.nil
                        rotate_left
                        · simp only [List.getElem?_toArray, List.getElem?_cons_succ, List.getElem?_cons_zero]; rfl
                        go_simp
                        have hkc : Kept (fun b => b = w.heap.size) V11 (((((((V11.setCell ⟨w.heap.size, 0, none⟩ (.slice (some ⟨w.heap.size + 1 + 1, 0, none⟩) 3 3)).setCell ⟨w.heap.size, 1, none⟩ (.slice (some ⟨w.heap.size + 1 + 1 + 1 + 1 + 1 + 1, 0, none⟩) 3 3)).setCell ⟨w.heap.size, 2, none⟩ (.int .i64 0)).setCell ⟨w.heap.size, 3, none⟩ (.slice (some ⟨(V8.heap.size), 0, none⟩) 3 3)).setCell ⟨w.heap.size, 4, none⟩ (.slice (some ⟨(V10.heap.size), 0, none⟩) 6 6)).setCell ⟨w.heap.size, 5, none⟩ (.int .i64 600)).setCell ⟨w.heap.size, 6, none⟩ (.int .i64 calls)) := ((((((((Kept.refl (fun b => b = w.heap.size) V11).set _ rfl).set _ rfl).set _ rfl).set _ rfl).set _ rfl).set _ rfl).set _ rfl)
                        have g0 := set7 G0.out rfl (.slice (some ⟨w.heap.size + 1 + 1, 0, none⟩) 3 3) (.slice (some ⟨w.heap.size + 1 + 1 + 1 + 1 + 1 + 1, 0, none⟩) 3 3) (.int .i64 0) (.slice (some ⟨(V8.heap.size), 0, none⟩) 3 3) (.slice (some ⟨(V10.heap.size), 0, none⟩) 6 6) (.int .i64 600) (.int .i64 calls)
                        refine hK.out _ _ ((Kept.of_ext hxx).trans hkc) (fun hHeld => ?_)
                        clear hK K
                        simp only [Act.put, List.setIfInBounds_toArray, List.set_cons_zero, List.set_cons_succ]
                        refine wpAnyH_done (by kernel_rfl) (HR.out _ _ ?_) _
                        clear HR c0 z0
                        go_wp2
                        have hs0 := HS0.out
                        have hfin := three_err (B := w.heap.size) (hkc.keep (ext_blk_keep hxx B2.out) (by omega)) (hkc.keep (ext_blk_keep hxx B3.out) (by omega)) (hkc.keep (ext_blk_keep hxx B4.out) (by omega)) (hkc.keep (ext_blk_keep hxx B5.out) (by omega)) (hkc.keep (ext_blk_keep hxx B6.out) (by omega)) (hkc.keep C5.out (by omega)) (hkc.keep C12.out (by omega))
                        have hend : Ext w _ := hkc.extOld (ext_trans HE0.out hxx) (fun b hb h => by omega)
                        refine bodyPost_ret (v := .agg #[.slice (some ⟨w.heap.size + 1 + 1, 0, none⟩) 3 3, .slice (some ⟨w.heap.size + 1 + 1 + 1 + 1 + 1 + 1, 0, none⟩) 3 3, .int .i64 0, .slice (some ⟨(V8.heap.size), 0, none⟩) 3 3, .slice (some ⟨(V10.heap.size), 0, none⟩) 6 6, .int .i64 600, .int .i64 calls]) (results_cell_row (fn := Tryz.f64) (p := 4) (ty := 41) rfl _ _ w.heap.size 41 _ (0, 0) _ rfl g0 Tryz.underlying41 rfl (by kernel_rfl)) rfl ⟨_, _, _, _, rfl, hfin, hend⟩
                  refine AllReadyH.cons (o := ?_) ?_ (fun K hK => ?_) AllReadyH.nil
                  rotate_left
                  · simp only [List.getElem?_toArray, List.getElem?_cons_succ, List.getElem?_cons_zero]; rfl
                  · skip
                    go_simp
                    refine (between_c _ _ _).mono ?_
                    rintro e V9 ⟨rfl, x9⟩
                    refine hK.out _ _ (Kept.of_ext (ext_trans (ext_trans (ext_trans (ext_trans (ext_trans (ext_trans (ext_trans (ext_trans (ext_trans x0 x1) x2) x3) x4) x5) x6) x7) x8) x9)) (fun hHeld => ?_)
                    clear hK K
                    simp only [Act.put, List.setIfInBounds_toArray, List.set_cons_zero, List.set_cons_succ]
                    refine wpAnyH_ready (rs := [5, 12]) (by kernel_rfl) (by simp) ?_
                    refine AllReadyH.cons (o := ?_) ?_ (fun K hK => ?_) ?_
                    rotate_left
                    · simp only [List.getElem?_toArray, List.getElem?_cons_succ, List.getElem?_cons_zero]; rfl
                    · skip
                      go_simp
                      refine hK.out _ _ (Kept.of_ext (ext_alloc (ext_trans (ext_trans (ext_trans (ext_trans (ext_trans (ext_trans (ext_trans (ext_trans (ext_trans x0 x1) x2) x3) x4) x5) x6) x7) x8) x9) _)) (fun hHeld => ?_)
                      obtain ⟨V10, hV⟩ : ∃ V, V9.alloc (.cells #[.int .i64 600, .int .i64 640, .int .i64 610, .int .i64 last, .int .i64 600, .int .i64 640] 57) = V := ⟨_, rfl⟩
                      rw [hV]
                      have x10 : Ext V9 V10 := by rw [← hV]; exact ext_alloc (ext_refl _) _
                      have b5 := hid (show V10.heap[V9.heap.size]? = some (.cells #[.int .i64 600, .int .i64 640, .int .i64 610, .int .i64 last, .int .i64 600, .int .i64 640] 57 (0, 0)) from by rw [← hV]; exact heap_alloc_new _ _)
                      clear hV
                      clear hK K
                      simp only [Act.put, List.setIfInBounds_toArray, List.set_cons_zero, List.set_cons_succ]
                      refine wpAnyH_ready (rs := [12]) (by kernel_rfl) (by simp) ?_
                      refine AllReadyH.cons (o := ?_) ?_ (fun K hK => ?_) AllReadyH.nil
                      rotate_left
                      · simp only [List.getElem?_toArray, List.getElem?_cons_succ, List.getElem?_cons_zero]; rfl
                      · skip
                        go_simp
                        refine hK.out _ _ (Kept.of_ext (ext_alloc (ext_trans (ext_trans (ext_trans (ext_trans (ext_trans (ext_trans (ext_trans (ext_trans (ext_trans (ext_trans x0 x1) x2) x3) x4) x5) x6) x7) x8) x9) x10) _)) (fun hHeld => ?_)
                        obtain ⟨V11, hV⟩ : ∃ V, V10.alloc (.cells #[.int .i64 5, .int .i64 6, .int .i64 7, .int .i64 7, .int .i64 4, .int .i64 4, .int .i64 3, .int .i64 5, .int .i64 6, .int .i64 8, .int .i64 9, .int .i64 9] 57) = V := ⟨_, rfl⟩
                        rw [hV]
                        have x11 : Ext V10 V11 := by rw [← hV]; exact ext_alloc (ext_refl _) _
                        have b12 := hid (show V11.heap[V10.heap.size]? = some (.cells #[.int .i64 5, .int .i64 6, .int .i64 7, .int .i64 7, .int .i64 4, .int .i64 4, .int .i64 3, .int .i64 5, .int .i64 6, .int .i64 8, .int .i64 9, .int .i64 9] 57 (0, 0)) from by rw [← hV]; exact heap_alloc_new _ _)
                        clear hV
                        clear hK K
                        simp only [Act.put, List.setIfInBounds_toArray, List.set_cons_zero, List.set_cons_succ]
                        have C5 := hid (ext_blk_keep (x11) b5.out)
                        have C12 := hid (b12.out)
                        have hxx := ext_trans (ext_trans (ext_trans (ext_trans (ext_trans (ext_trans (ext_trans (ext_trans (ext_trans (ext_trans (ext_trans x0 x1) x2) x3) x4) x5) x6) x7) x8) x9) x10) x11
                        have lH := (ext_trans (ext_trans (ext_trans (ext_trans (ext_trans (ext_trans (ext_trans (ext_trans (ext_trans x0 x1) x2) x3) x4) x5) x6) x7) x8) x9).size
                        have lT := (ext_trans (ext_trans (ext_trans (ext_trans (ext_trans (ext_trans (ext_trans (ext_trans (ext_trans (ext_trans x0 x1) x2) x3) x4) x5) x6) x7) x8) x9) x10).size
                        have hSz : Kept (fun b => b = w.heap.size) W0 V11 := Kept.of_ext hxx
                        refine takeR (i := 14) (oi := ?_) (v := ?_) ?_ (by kernel_rfl) (by kernel_rfl) (by kernel_rfl) ?_ ?_ (by assumption) ?_
                        rotate_left 2
                        · simp only [List.getElem?_toArray, List.getElem?_cons_succ, List.getElem?_cons_zero]; rfl
                        · kernel_rfl
                        · intro Wx hSx
                          try dsimp only at hSx
                          go_simp
                          try with_reducible rfl
                        simp only [Act.put, List.setIfInBounds_toArray, List.set_cons_zero, List.set_cons_succ]
                        have C0 := ext_blk_keep hxx B0.out
                        have c0 := blk_cell C0
                        have z0 : ∀ j, V11.frozen? ⟨w.heap.size, j, none⟩ = false := fun j => frozen_of_row V11 _ j _ _ C0
                        have G0 := hid C0
                        clear C0
                        refine wpAnyH_ready (rs := [15]) (by kernel_rfl) (by simp) ?_
                        refine AllReadyH.cons (o := ?_) ?_ (fun K hK => ?_) AllReadyH.nil
                        rotate_left
                        · simp only [List.getElem?_toArray, List.getElem?_cons_succ, List.getElem?_cons_zero]; rfl
                        go_simp
                        have hkc : Kept (fun b => b = w.heap.size) V11 (((((((V11.setCell ⟨w.heap.size, 0, none⟩ (.slice (some ⟨w.heap.size + 1 + 1, 0, none⟩) 3 3)).setCell ⟨w.heap.size, 1, none⟩ (.slice (some ⟨w.heap.size + 1 + 1 + 1 + 1 + 1 + 1, 0, none⟩) 3 3)).setCell ⟨w.heap.size, 2, none⟩ (.int .i64 0)).setCell ⟨w.heap.size, 3, none⟩ (.slice (some ⟨(V9.heap.size), 0, none⟩) 3 3)).setCell ⟨w.heap.size, 4, none⟩ (.slice (some ⟨(V10.heap.size), 0, none⟩) 6 6)).setCell ⟨w.heap.size, 5, none⟩ (.int .i64 600)).setCell ⟨w.heap.size, 6, none⟩ (.int .i64 calls)) := ((((((((Kept.refl (fun b => b = w.heap.size) V11).set _ rfl).set _ rfl).set _ rfl).set _ rfl).set _ rfl).set _ rfl).set _ rfl)
                        have g0 := set7 G0.out rfl (.slice (some ⟨w.heap.size + 1 + 1, 0, none⟩) 3 3) (.slice (some ⟨w.heap.size + 1 + 1 + 1 + 1 + 1 + 1, 0, none⟩) 3 3) (.int .i64 0) (.slice (some ⟨(V9.heap.size), 0, none⟩) 3 3) (.slice (some ⟨(V10.heap.size), 0, none⟩) 6 6) (.int .i64 600) (.int .i64 calls)
                        refine hK.out _ _ ((Kept.of_ext hxx).trans hkc) (fun hHeld => ?_)
                        clear hK K
                        simp only [Act.put, List.setIfInBounds_toArray, List.set_cons_zero, List.set_cons_succ]
                        refine wpAnyH_done (by kernel_rfl) (HR.out _ _ ?_) _
                        clear HR c0 z0
                        go_wp2
                        have hs0 := HS0.out
                        have hfin := three_err (B := w.heap.size) (hkc.keep (ext_blk_keep hxx B2.out) (by omega)) (hkc.keep (ext_blk_keep hxx B3.out) (by omega)) (hkc.keep (ext_blk_keep hxx B4.out) (by omega)) (hkc.keep (ext_blk_keep hxx B5.out) (by omega)) (hkc.keep (ext_blk_keep hxx B6.out) (by omega)) (hkc.keep C5.out (by omega)) (hkc.keep C12.out (by omega))
                        have hend : Ext w _ := hkc.extOld (ext_trans HE0.out hxx) (fun b hb h => by omega)
                        refine bodyPost_ret (v := .agg #[.slice (some ⟨w.heap.size + 1 + 1, 0, none⟩) 3 3, .slice (some ⟨w.heap.size + 1 + 1 + 1 + 1 + 1 + 1, 0, none⟩) 3 3, .int .i64 0, .slice (some ⟨(V9.heap.size), 0, none⟩) 3 3, .slice (some ⟨(V10.heap.size), 0, none⟩) 6 6, .int .i64 600, .int .i64 calls]) (results_cell_row (fn := Tryz.f64) (p := 4) (ty := 41) rfl _ _ w.heap.size 41 _ (0, 0) _ rfl g0 Tryz.underlying41 rfl (by kernel_rfl)) rfl ⟨_, _, _, _, rfl, hfin, hend⟩
                    refine AllReadyH.cons (o := ?_) ?_ (fun K hK => ?_) AllReadyH.nil
                    rotate_left
                    · simp only [List.getElem?_toArray, List.getElem?_cons_succ, List.getElem?_cons_zero]; rfl
                    · skip
                      go_simp
                      refine hK.out _ _ (Kept.of_ext (ext_alloc (ext_trans (ext_trans (ext_trans (ext_trans (ext_trans (ext_trans (ext_trans (ext_trans (ext_trans x0 x1) x2) x3) x4) x5) x6) x7) x8) x9) _)) (fun hHeld => ?_)
                      obtain ⟨V10, hV⟩ : ∃ V, V9.alloc (.cells #[.int .i64 5, .int .i64 6, .int .i64 7, .int .i64 7, .int .i64 4, .int .i64 4, .int .i64 3, .int .i64 5, .int .i64 6, .int .i64 8, .int .i64 9, .int .i64 9] 57) = V := ⟨_, rfl⟩
                      rw [hV]
                      have x10 : Ext V9 V10 := by rw [← hV]; exact ext_alloc (ext_refl _) _
                      have b12 := hid (show V10.heap[V9.heap.size]? = some (.cells #[.int .i64 5, .int .i64 6, .int .i64 7, .int .i64 7, .int .i64 4, .int .i64 4, .int .i64 3, .int .i64 5, .int .i64 6, .int .i64 8, .int .i64 9, .int .i64 9] 57 (0, 0)) from by rw [← hV]; exact heap_alloc_new _ _)
                      clear hV
                      clear hK K
                      simp only [Act.put, List.setIfInBounds_toArray, List.set_cons_zero, List.set_cons_succ]
                      refine wpAnyH_ready (rs := [5]) (by kernel_rfl) (by simp) ?_
                      refine AllReadyH.cons (o := ?_) ?_ (fun K hK => ?_) AllReadyH.nil
                      rotate_left
                      · simp only [List.getElem?_toArray, List.getElem?_cons_succ, List.getElem?_cons_zero]; rfl
                      · skip
                        go_simp
                        refine hK.out _ _ (Kept.of_ext (ext_alloc (ext_trans (ext_trans (ext_trans (ext_trans (ext_trans (ext_trans (ext_trans (ext_trans (ext_trans (ext_trans x0 x1) x2) x3) x4) x5) x6) x7) x8) x9) x10) _)) (fun hHeld => ?_)
                        obtain ⟨V11, hV⟩ : ∃ V, V10.alloc (.cells #[.int .i64 600, .int .i64 640, .int .i64 610, .int .i64 last, .int .i64 600, .int .i64 640] 57) = V := ⟨_, rfl⟩
                        rw [hV]
                        have x11 : Ext V10 V11 := by rw [← hV]; exact ext_alloc (ext_refl _) _
                        have b5 := hid (show V11.heap[V10.heap.size]? = some (.cells #[.int .i64 600, .int .i64 640, .int .i64 610, .int .i64 last, .int .i64 600, .int .i64 640] 57 (0, 0)) from by rw [← hV]; exact heap_alloc_new _ _)
                        clear hV
                        clear hK K
                        simp only [Act.put, List.setIfInBounds_toArray, List.set_cons_zero, List.set_cons_succ]
                        have C5 := hid (b5.out)
                        have C12 := hid (ext_blk_keep (x11) b12.out)
                        have hxx := ext_trans (ext_trans (ext_trans (ext_trans (ext_trans (ext_trans (ext_trans (ext_trans (ext_trans (ext_trans (ext_trans x0 x1) x2) x3) x4) x5) x6) x7) x8) x9) x10) x11
                        have lH := (ext_trans (ext_trans (ext_trans (ext_trans (ext_trans (ext_trans (ext_trans (ext_trans (ext_trans (ext_trans x0 x1) x2) x3) x4) x5) x6) x7) x8) x9) x10).size
                        have lT := (ext_trans (ext_trans (ext_trans (ext_trans (ext_trans (ext_trans (ext_trans (ext_trans (ext_trans x0 x1) x2) x3) x4) x5) x6) x7) x8) x9).size
                        have hSz : Kept (fun b => b = w.heap.size) W0 V11 := Kept.of_ext hxx
                        refine takeR (i := 14) (oi := ?_) (v := ?_) ?_ (by kernel_rfl) (by kernel_rfl) (by kernel_rfl) ?_ ?_ (by assumption) ?_
                        rotate_left 2
                        · simp only [List.getElem?_toArray, List.getElem?_cons_succ, List.getElem?_cons_zero]; rfl
                        · kernel_rfl
                        · intro Wx hSx
                          try dsimp only at hSx
                          go_simp
                          try with_reducible rfl
                        simp only [Act.put, List.setIfInBounds_toArray, List.set_cons_zero, List.set_cons_succ]
                        have C0 := ext_blk_keep hxx B0.out
                        have c0 := blk_cell C0
                        have z0 : ∀ j, V11.frozen? ⟨w.heap.size, j, none⟩ = false := fun j => frozen_of_row V11 _ j _ _ C0
                        have G0 := hid C0
                        clear C0
                        refine wpAnyH_ready (rs := [15]) (by kernel_rfl) (by simp) ?_
                        refine AllReadyH.cons (o := ?_) ?_ (fun K hK => ?_) AllReadyH.nil
                        rotate_left
                        · simp only [List.getElem?_toArray, List.getElem?_cons_succ, List.getElem?_cons_zero]; rfl
                        go_simp
                        have hkc : Kept (fun b => b = w.heap.size) V11 (((((((V11.setCell ⟨w.heap.size, 0, none⟩ (.slice (some ⟨w.heap.size + 1 + 1, 0, none⟩) 3 3)).setCell ⟨w.heap.size, 1, none⟩ (.slice (some ⟨w.heap.size + 1 + 1 + 1 + 1 + 1 + 1, 0, none⟩) 3 3)).setCell ⟨w.heap.size, 2, none⟩ (.int .i64 0)).setCell ⟨w.heap.size, 3, none⟩ (.slice (some ⟨(V10.heap.size), 0, none⟩) 3 3)).setCell ⟨w.heap.size, 4, none⟩ (.slice (some ⟨(V9.heap.size), 0, none⟩) 6 6)).setCell ⟨w.heap.size, 5, none⟩ (.int .i64 600)).setCell ⟨w.heap.size, 6, none⟩ (.int .i64 calls)) := ((((((((Kept.refl (fun b => b = w.heap.size) V11).set _ rfl).set _ rfl).set _ rfl).set _ rfl).set _ rfl).set _ rfl).set _ rfl)
                        have g0 := set7 G0.out rfl (.slice (some ⟨w.heap.size + 1 + 1, 0, none⟩) 3 3) (.slice (some ⟨w.heap.size + 1 + 1 + 1 + 1 + 1 + 1, 0, none⟩) 3 3) (.int .i64 0) (.slice (some ⟨(V10.heap.size), 0, none⟩) 3 3) (.slice (some ⟨(V9.heap.size), 0, none⟩) 6 6) (.int .i64 600) (.int .i64 calls)
                        refine hK.out _ _ ((Kept.of_ext hxx).trans hkc) (fun hHeld => ?_)
                        clear hK K
                        simp only [Act.put, List.setIfInBounds_toArray, List.set_cons_zero, List.set_cons_succ]
                        refine wpAnyH_done (by kernel_rfl) (HR.out _ _ ?_) _
                        clear HR c0 z0
                        go_wp2
                        have hs0 := HS0.out
                        have hfin := three_err (B := w.heap.size) (hkc.keep (ext_blk_keep hxx B2.out) (by omega)) (hkc.keep (ext_blk_keep hxx B3.out) (by omega)) (hkc.keep (ext_blk_keep hxx B4.out) (by omega)) (hkc.keep (ext_blk_keep hxx B5.out) (by omega)) (hkc.keep (ext_blk_keep hxx B6.out) (by omega)) (hkc.keep C5.out (by omega)) (hkc.keep C12.out (by omega))
                        have hend : Ext w _ := hkc.extOld (ext_trans HE0.out hxx) (fun b hb h => by omega)
                        refine bodyPost_ret (v := .agg #[.slice (some ⟨w.heap.size + 1 + 1, 0, none⟩) 3 3, .slice (some ⟨w.heap.size + 1 + 1 + 1 + 1 + 1 + 1, 0, none⟩) 3 3, .int .i64 0, .slice (some ⟨(V10.heap.size), 0, none⟩) 3 3, .slice (some ⟨(V9.heap.size), 0, none⟩) 6 6, .int .i64 600, .int .i64 calls]) (results_cell_row (fn := Tryz.f64) (p := 4) (ty := 41) rfl _ _ w.heap.size 41 _ (0, 0) _ rfl g0 Tryz.underlying41 rfl (by kernel_rfl)) rfl ⟨_, _, _, _, rfl, hfin, hend⟩
end Go.Proofs.YtlcakmbejjlmeaaGreat
/- The chapter's examples, reckoned out. -/
set_option linter.unusedVariables false
set_option linter.unusedSimpArgs false
namespace Go.Proofs.YtlcakmbejjlmeaaGreat
open Go.RowKit

theorem ex_err5 : errE women3 pieces3 0 (home3 640) streets3 600 5 = 0 := by decide +kernel
theorem ex_playC : playC women3 pieces3 0 (home3 640) streets3 600 5 [5, 7, 4, 4, 7, 9] [0, 1, 2] = 0 := by decide +kernel
theorem ex_playL : playL women3 pieces3 0 (home3 640) streets3 600 5 [5, 7, 4, 4, 7, 9] [0, 1, 2] = [604, 610, 614] := by decide +kernel
theorem ex_walkC : walkC women3 pieces3 0 (home3 640) streets3 600 5 [0, 1, 2, 0] = 0 := by decide +kernel
theorem ex_comes1 : (comesL women3 pieces3 0 (home3 640) streets3 600 5 [0, 1, 2, 0]).length = 4 ∧ rLo (comesL women3 pieces3 0 (home3 640) streets3 600 5 [0, 1, 2, 0]) 1 = 610 ∧ rHi (comesL women3 pieces3 0 (home3 640) streets3 600 5 [0, 1, 2, 0]) 1 = 610 ∧ rLo (comesL women3 pieces3 0 (home3 640) streets3 600 5 [0, 1, 2, 0]) 3 = 620 ∧ rHi (comesL women3 pieces3 0 (home3 640) streets3 600 5 [0, 1, 2, 0]) 3 = 622 := by decide +kernel
theorem ex_brings : bringsL women3 pieces3 0 (home3 640) streets3 600 5 [0, 1, 2, 0] = [0, 1, 2] := by decide +kernel
theorem ex_lateC : lateC women3 pieces3 0 (home3 621) streets3 600 5 [1, 0, 1, 2] = 0 := by decide +kernel
theorem ex_lateN : lateN women3 pieces3 0 (home3 621) streets3 600 5 [1, 0, 1, 2] = 2 := by decide +kernel
theorem ex_bestC : bestC women3 pieces3 0 (home3 640) streets3 600 5 = 0 := by decide +kernel
theorem ex_bestL : bestL women3 pieces3 0 (home3 640) streets3 600 5 = [0, 1, 2, 0] := by decide +kernel
theorem ex_bestN : bestN women3 pieces3 0 (home3 640) streets3 600 5 = 622 := by decide +kernel
theorem ex_err3 : errE women3 pieces3 0 (home3 640) streets3 600 3 = 0 := by decide +kernel
theorem ex_few : fewestN women3 pieces3 0 (home3 640) streets3 600 3 = 4 := by decide +kernel
theorem ex_wait : waitL women3 pieces3 0 (home3 640) streets3 600 3 = [0] := by decide +kernel
end Go.Proofs.YtlcakmbejjlmeaaGreat
/- The examples hold: the contract of 'awake'. -/
set_option linter.unusedVariables false
set_option linter.unusedSimpArgs false
namespace Go.Proofs.YtlcakmbejjlmeaaGreat
open Go.RowKit

theorem ints_block3 {W : World} {B : Nat} {x y z : Int} {t : TypeId} {fr : Nat × Nat} (h : W.heap[B]? = some (.cells #[.int .i64 x, .int .i64 y, .int .i64 z] t fr)) : IsInts W (.slice (some ⟨B, 0, none⟩) 3 3) [x, y, z] :=
  ⟨by simp, _, _, rfl, fun _ => ⟨B, 0, rfl, fun i hi => by
    rw [blk_cell h]
    have : i = 0 ∨ i = 1 ∨ i = 2 := by simp at hi; omega
    rcases this with rfl | rfl | rfl <;> rfl⟩⟩
theorem ints_block4 {W : World} {B : Nat} {x y z u : Int} {t : TypeId} {fr : Nat × Nat} (h : W.heap[B]? = some (.cells #[.int .i64 x, .int .i64 y, .int .i64 z, .int .i64 u] t fr)) : IsInts W (.slice (some ⟨B, 0, none⟩) 4 4) [x, y, z, u] :=
  ⟨by simp, _, _, rfl, fun _ => ⟨B, 0, rfl, fun i hi => by
    rw [blk_cell h]
    have : i = 0 ∨ i = 1 ∨ i = 2 ∨ i = 3 := by simp at hi; omega
    rcases this with rfl | rfl | rfl | rfl <;> rfl⟩⟩
theorem ints_block6 {W : World} {B : Nat} {x y z u v s : Int} {t : TypeId} {fr : Nat × Nat} (h : W.heap[B]? = some (.cells #[.int .i64 x, .int .i64 y, .int .i64 z, .int .i64 u, .int .i64 v, .int .i64 s] t fr)) : IsInts W (.slice (some ⟨B, 0, none⟩) 6 6) [x, y, z, u, v, s] :=
  ⟨by simp, _, _, rfl, fun _ => ⟨B, 0, rfl, fun i hi => by
    rw [blk_cell h]
    have : i = 0 ∨ i = 1 ∨ i = 2 ∨ i = 3 ∨ i = 4 ∨ i = 5 := by simp at hi; omega
    rcases this with rfl | rfl | rfl | rfl | rfl | rfl <;> rfl⟩⟩
set_option maxHeartbeats 6400000 in
set_option maxRecDepth 100000 in
theorem awake_c (w : World) : Calls Tryz.prog 21 #[] w fun e w' => e = .returned (.bool true) ∧ Ext w w' := by
  go_enter Tryz.func21, Tryz.ntmps21
  go_wp2_with fail
  refine (three_c _ _ _).mono ?_
  rintro e w1 ⟨A1, S1, H1, T1, rfl, h1, x1⟩
  go_wp2_with fail
  refine (play_c A1 3 3 S1 3 3 0 H1 3 3 T1 6 6 600 5 women3 pieces3 (home3 640) streets3 (by decide) _ (h1.ext (by go_grown)) _ _ [5, 7, 4, 4, 7, 9] [0, 1, 2] (ints_block6 (by repeat (first | exact heap_alloc_at _ _ (by simp) | refine heap_alloc_keep ?_))) (ints_block3 (heap_alloc_at _ _ (by simp)))).mono ?_
  rintro e w2 ⟨v1, rfl, k1, x2⟩
  rw [ex_playC]
  rw [ex_playL] at k1
  have K1 := hid k1
  have E2 := hid (ext_trans x1 (ext_trans (by go_grown) x2) : Ext w w2)
  clear k1 h1 x1 x2
  go_wp2_with fail
  refine (three_c _ _ _).mono ?_
  rintro e w3 ⟨A2, S2, H2, T2, rfl, h2, x3⟩
  go_wp2_with fail
  refine (way_c _).mono ?_
  rintro e w4 ⟨wv, rfl, hw, x4⟩
  go_wp2_with fail
  refine (comes_c A2 3 3 S2 3 3 0 H2 3 3 T2 6 6 600 5 women3 pieces3 (home3 640) streets3 (by decide) _ (h2.ext x4) _ [0, 1, 2, 0] hw).mono ?_
  rintro e w5 ⟨v3, rfl, k3, x5⟩
  rw [ex_walkC]
  have K3 := hid k3
  have E5 := hid (ext_trans x3 (ext_trans x4 x5))
  clear k3 h2 hw x3 x4 x5
  go_wp2_with fail
  refine (three_c _ _ _).mono ?_
  rintro e w6 ⟨A3, S3, H3, T3, rfl, h3, x6⟩
  go_wp2_with fail
  refine (way_c _).mono ?_
  rintro e w7 ⟨wv3, rfl, hw3, x7⟩
  go_wp2_with fail
  refine (bringsX_c A3 3 3 S3 3 3 0 H3 3 3 T3 6 6 600 5 women3 pieces3 (home3 640) streets3 (by decide) _ (h3.ext x7) _ [0, 1, 2, 0] hw3).mono ?_
  rintro e w8 ⟨v5, rfl, k5, x8⟩
  rw [ex_walkC]
  rw [ex_brings] at k5
  have K5 := hid k5
  have E8 := hid (ext_trans x6 (ext_trans x7 x8))
  clear k5 h3 hw3 x6 x7 x8
  go_wp2_with fail
  refine (three_c _ _ _).mono ?_
  rintro e w9 ⟨A4, S4, H4, T4, rfl, h4, x9⟩
  go_wp2_with fail
  refine (lateX_c A4 3 3 S4 3 3 0 H4 3 3 T4 6 6 600 5 women3 pieces3 (home3 621) streets3 (by decide) _ (h4.ext (by go_grown)) _ [1, 0, 1, 2] (ints_block4 (heap_alloc_new _ _))).mono ?_
  rintro e w10 ⟨rfl, x10⟩
  rw [ex_lateC, ex_lateN]
  have E10 := hid (ext_trans x9 (ext_trans (by go_grown) x10) : Ext w8 w10)
  clear h4 x9 x10
  go_wp2_with fail
  refine (three_c _ _ _).mono ?_
  rintro e w11 ⟨A5, S5, H5, T5, rfl, h5, x11⟩
  go_wp2_with fail
  refine (best_x A5 3 3 S5 3 3 0 H5 3 3 T5 6 6 600 5 women3 pieces3 (home3 640) streets3 _ h5).mono ?_
  rintro e w12 ⟨v9, rfl, k9, x12⟩
  rw [ex_bestC, ex_bestN]
  rw [ex_bestL] at k9
  have K9 := hid k9
  have E12 := hid (ext_trans x11 x12)
  clear k9 h5 x11 x12
  go_wp2_with fail
  refine (three_c _ _ _).mono ?_
  rintro e w13 ⟨A6, S6, H6, T6, rfl, h6, x13⟩
  go_wp2_with fail
  refine (fewest_c A6 3 3 S6 3 3 0 H6 3 3 T6 6 6 600 3 women3 pieces3 (home3 640) streets3 _ h6).mono ?_
  rintro e w14 ⟨rfl, x14⟩
  rw [ex_err3, ex_few]
  have E14 := hid (ext_trans x13 x14)
  clear h6 x13 x14
  go_wp2_with fail
  refine (three_c _ _ _).mono ?_
  rintro e w15 ⟨A7, S7, H7, T7, rfl, h7, x15⟩
  go_wp2_with fail
  refine (wait_c A7 3 3 S7 3 3 0 H7 3 3 T7 6 6 600 3 women3 pieces3 (home3 640) streets3 _ h7).mono ?_
  rintro e w16 ⟨v14, rfl, k14, x16⟩
  rw [ex_err3]
  rw [ex_wait] at k14
  have K14z := hid k14
  have E16 := hid (ext_trans x15 x16)
  clear k14 h7 x15 x16
  go_wp2_with fail
  have K14 := K14z
  replace K1 := hid (K1.out.ext (ext_trans E5.out (ext_trans E8.out (ext_trans E10.out (ext_trans E12.out (ext_trans E14.out E16.out))))))
  replace K5 := hid (K5.out.ext (ext_trans E10.out (ext_trans E12.out (ext_trans E14.out E16.out))))
  replace K9 := hid (K9.out.ext (ext_trans E14.out E16.out))
  have k3 := K3.out.ext (ext_trans E8.out (ext_trans E10.out (ext_trans E12.out (ext_trans E14.out E16.out))))
  have EW := hid (ext_trans E2.out (ext_trans E5.out (ext_trans E8.out (ext_trans E10.out (ext_trans E12.out (ext_trans E14.out E16.out))))))
  obtain ⟨C, cc, rfl⟩ := k3.val
  obtain ⟨ex1, ex2, ex3, ex4, ex5⟩ := ex_comes1
  rw [ex1] at k3
  rw [ex1]
  obtain ⟨cb, co, rfl, hcs⟩ := k3.at (by decide)
  have g1 := ext_cell (hcs 1 (by decide)).1 (ext_refl w16) (Nat.le_refl _)
  have g2 := ext_cell (hcs 1 (by decide)).2 (ext_refl w16) (Nat.le_refl _)
  have g3 := ext_cell (hcs 3 (by decide)).1 (ext_refl w16) (Nat.le_refl _)
  have g4 := ext_cell (hcs 3 (by decide)).2 (ext_refl w16) (Nat.le_refl _)
  rw [ex2] at g1
  rw [ex3] at g2
  rw [ex4] at g3
  rw [ex5] at g4
  simp only [Nat.reduceMul] at g1 g2 g3 g4
  clear hcs k3 ex1 ex2 ex3 ex4 ex5 K3 K14z E2 E5 E8 E10 E12 E14 E16
  refine region_plainR (fun W => Ext w16 W) 78 #[false, false, false, false, false, false, false, false, false, false, false, false, false, false, false, false, false, false, false, false, false, false, false, false, false, false, false, false, false, false, false, false, false, false, false, false, false, false, false, false, false, false, false, false, false, false, false, false, false, false, false, false, false, false, false, false, false, false, false, false, false, false, false, false, false, false, false, false, false, false, false, false, false, false, false, false, false, false] (by kernel_rfl) (by kernel_rfl) (by kernel_rfl) (fun R HR => ?_)
  simp only [List.append_eq, List.cons_append, List.nil_append]
  obtain ⟨Wf, hWf⟩ : ∃ Wf, w16 = Wf := ⟨_, rfl⟩
  obtain ⟨V0, hV0⟩ : ∃ V0, w16.drew = V0 := ⟨_, rfl⟩
  rw [hV0]
  have y0 : Ext w16 V0 := by rw [← hV0]; exact (ext_refl w16).drew
  have EF := hid (ext_refl w16)
  clear hV0 hWf Wf
  refine takeR (i := 0) (oi := ?_) (v := ?_) ?_ (by kernel_rfl) (by kernel_rfl) (by kernel_rfl) ?_ ?_ (by assumption) ?_
  rotate_left 2
  · simp only [List.getElem?_toArray, List.getElem?_cons_succ, List.getElem?_cons_zero]; rfl
  · kernel_rfl
  · intro Wx hSx
    try dsimp only at hSx
    go_simp
    try with_reducible rfl
  simp only [Act.put, List.setIfInBounds_toArray, List.set_cons_zero, List.set_cons_succ]
  refine takeR (i := 1) (oi := ?_) (v := ?_) ?_ (by kernel_rfl) (by kernel_rfl) (by kernel_rfl) ?_ ?_ (by assumption) ?_
  rotate_left 2
  · simp only [List.getElem?_toArray, List.getElem?_cons_succ, List.getElem?_cons_zero]; rfl
  · kernel_rfl
  · intro Wx hSx
    try dsimp only at hSx
    go_simp
    try with_reducible rfl
  simp only [Act.put, List.setIfInBounds_toArray, List.set_cons_zero, List.set_cons_succ]
  refine takeR (i := 2) (oi := ?_) (v := ?_) ?_ (by kernel_rfl) (by kernel_rfl) (by kernel_rfl) ?_ ?_ (by assumption) ?_
  rotate_left 2
  · simp only [List.getElem?_toArray, List.getElem?_cons_succ, List.getElem?_cons_zero]; rfl
  · kernel_rfl
  · intro Wx hSx
    try dsimp only at hSx
    go_simp
    try with_reducible rfl
  simp only [Act.put, List.setIfInBounds_toArray, List.set_cons_zero, List.set_cons_succ]
  refine takeR (i := 3) (oi := ?_) (v := ?_) ?_ (by kernel_rfl) (by kernel_rfl) (by kernel_rfl) ?_ ?_ (by assumption) ?_
  rotate_left 2
  · simp only [List.getElem?_toArray, List.getElem?_cons_succ, List.getElem?_cons_zero]; rfl
  · kernel_rfl
  · intro Wx hSx
    try dsimp only at hSx
    go_simp
    try with_reducible rfl
  simp only [Act.put, List.setIfInBounds_toArray, List.set_cons_zero, List.set_cons_succ]
  refine wpAnyH_ready (rs := [4]) (by kernel_rfl) (by simp) ?_
  refine AllReadyH.cons (o := ?_) ?_ (fun K hK => ?_) AllReadyH.nil
  rotate_left
  · simp only [List.getElem?_toArray, List.getElem?_cons_succ, List.getElem?_cons_zero]; rfl
  go_simp
  refine hK.out _ _ (ext_alloc y0 _) (fun hHeld => ?_)
  obtain ⟨V1, hV⟩ : ∃ V, V0.alloc (.cells #[.int .i64 604, .int .i64 610, .int .i64 614] 3) = V := ⟨_, rfl⟩
  rw [hV]
  have x1 : Ext V0 V1 := by rw [← hV]; exact ext_alloc (ext_refl _) _
  have G1 := hid (show V1.heap[V0.heap.size]? = some (.cells #[.int .i64 604, .int .i64 610, .int .i64 614] 3 (0, 0)) from by rw [← hV]; exact heap_alloc_new _ _)
  have y1 : Ext w16 V1 := ext_trans y0 x1
  clear hV
  clear hK K
  simp only [Act.put, List.setIfInBounds_toArray, List.set_cons_zero, List.set_cons_succ]
  refine wpAnyH_ready (rs := [5]) (by kernel_rfl) (by simp) ?_
  refine AllReadyH.cons (o := ?_) ?_ (fun K hK => ?_) AllReadyH.nil
  rotate_left
  · simp only [List.getElem?_toArray, List.getElem?_cons_succ, List.getElem?_cons_zero]; rfl
  go_simp
  refine (ints_c _ _ [604, 610, 614] [604, 610, 614] _ (K1.out.ext (ext_trans EF.out y1)) (ints_block3 G1.out)).mono ?_
  rintro e V2 ⟨rfl, x2⟩
  rw [show intsF [604, 610, 614] [604, 610, 614] = true from by decide]
  have y2 : Ext w16 V2 := ext_trans y1 x2
  refine hK.out _ _ y2 (fun hHeld => ?_)
  clear hK K
  simp only [Act.put, List.setIfInBounds_toArray, List.set_cons_zero, List.set_cons_succ]
  refine takeR (i := 6) (oi := ?_) (v := ?_) ?_ (by kernel_rfl) (by kernel_rfl) (by kernel_rfl) ?_ ?_ (by assumption) ?_
  rotate_left 2
  · simp only [List.getElem?_toArray, List.getElem?_cons_succ, List.getElem?_cons_zero]; rfl
  · kernel_rfl
  · intro Wx hSx
    try dsimp only at hSx
    go_simp
    try with_reducible rfl
  simp only [Act.put, List.setIfInBounds_toArray, List.set_cons_zero, List.set_cons_succ]
  refine takeR (i := 7) (oi := ?_) (v := ?_) ?_ (by kernel_rfl) (by kernel_rfl) (by kernel_rfl) ?_ ?_ (by assumption) ?_
  rotate_left 2
  · simp only [List.getElem?_toArray, List.getElem?_cons_succ, List.getElem?_cons_zero]; rfl
  · kernel_rfl
  · intro Wx hSx
    try dsimp only at hSx
    go_simp
    try with_reducible rfl
  simp only [Act.put, List.setIfInBounds_toArray, List.set_cons_zero, List.set_cons_succ]
  refine takeR (i := 8) (oi := ?_) (v := ?_) ?_ (by kernel_rfl) (by kernel_rfl) (by kernel_rfl) ?_ ?_ (by assumption) ?_
  rotate_left 2
  · simp only [List.getElem?_toArray, List.getElem?_cons_succ, List.getElem?_cons_zero]; rfl
  · kernel_rfl
  · intro Wx hSx
    try dsimp only at hSx
    go_simp
    try with_reducible rfl
  simp only [Act.put, List.setIfInBounds_toArray, List.set_cons_zero, List.set_cons_succ]
  refine takeR (i := 9) (oi := ?_) (v := ?_) ?_ (by kernel_rfl) (by kernel_rfl) (by kernel_rfl) ?_ ?_ (by assumption) ?_
  rotate_left 2
  · simp only [List.getElem?_toArray, List.getElem?_cons_succ, List.getElem?_cons_zero]; rfl
  · kernel_rfl
  · intro Wx hSx
    try dsimp only at hSx
    go_simp
    try with_reducible rfl
  simp only [Act.put, List.setIfInBounds_toArray, List.set_cons_zero, List.set_cons_succ]
  refine takeR (i := 10) (oi := ?_) (v := ?_) ?_ (by kernel_rfl) (by kernel_rfl) (by kernel_rfl) ?_ ?_ (by assumption) ?_
  rotate_left 2
  · simp only [List.getElem?_toArray, List.getElem?_cons_succ, List.getElem?_cons_zero]; rfl
  · kernel_rfl
  · intro Wx hSx
    try dsimp only at hSx
    go_simp
    try with_reducible rfl
  simp only [Act.put, List.setIfInBounds_toArray, List.set_cons_zero, List.set_cons_succ]
  refine takeR (i := 11) (oi := ?_) (v := ?_) ?_ (by kernel_rfl) (by kernel_rfl) (by kernel_rfl) ?_ ?_ (by assumption) ?_
  rotate_left 2
  · simp only [List.getElem?_toArray, List.getElem?_cons_succ, List.getElem?_cons_zero]; rfl
  · kernel_rfl
  · intro Wx hSx
    try dsimp only at hSx
    go_simp
    try with_reducible rfl
  simp only [Act.put, List.setIfInBounds_toArray, List.set_cons_zero, List.set_cons_succ]
  refine takeR (i := 12) (oi := ?_) (v := ?_) ?_ (by kernel_rfl) (by kernel_rfl) (by kernel_rfl) ?_ ?_ (by assumption) ?_
  rotate_left 2
  · simp only [List.getElem?_toArray, List.getElem?_cons_succ, List.getElem?_cons_zero]; rfl
  · kernel_rfl
  · intro Wx hSx
    try dsimp only at hSx
    go_simp
    try with_reducible rfl
  simp only [Act.put, List.setIfInBounds_toArray, List.set_cons_zero, List.set_cons_succ]
  refine takeR (i := 13) (oi := ?_) (v := ?_) ?_ (by kernel_rfl) (by kernel_rfl) (by kernel_rfl) ?_ ?_ (by assumption) ?_
  rotate_left 2
  · simp only [List.getElem?_toArray, List.getElem?_cons_succ, List.getElem?_cons_zero]; rfl
  · kernel_rfl
  · intro Wx hSx
    try dsimp only at hSx
    go_simp
    try with_reducible rfl
  simp only [Act.put, List.setIfInBounds_toArray, List.set_cons_zero, List.set_cons_succ]
  refine takeR (i := 14) (oi := ?_) (v := ?_) ?_ (by kernel_rfl) (by kernel_rfl) (by kernel_rfl) ?_ ?_ (by assumption) ?_
  rotate_left 2
  · simp only [List.getElem?_toArray, List.getElem?_cons_succ, List.getElem?_cons_zero]; rfl
  · kernel_rfl
  · intro Wx hSx
    try dsimp only at hSx
    go_simp
    try with_reducible rfl
  simp only [Act.put, List.setIfInBounds_toArray, List.set_cons_zero, List.set_cons_succ]
  refine takeR (i := 15) (oi := ?_) (v := ?_) ?_ (by kernel_rfl) (by kernel_rfl) (by kernel_rfl) ?_ ?_ (by assumption) ?_
  rotate_left 2
  · simp only [List.getElem?_toArray, List.getElem?_cons_succ, List.getElem?_cons_zero]; rfl
  · kernel_rfl
  · intro Wx hSx
    try dsimp only at hSx
    go_simp
    try with_reducible rfl
  simp only [Act.put, List.setIfInBounds_toArray, List.set_cons_zero, List.set_cons_succ]
  refine takeR (i := 16) (oi := ?_) (v := ?_) ?_ (by kernel_rfl) (by kernel_rfl) (by kernel_rfl) ?_ ?_ (by assumption) ?_
  rotate_left 2
  · simp only [List.getElem?_toArray, List.getElem?_cons_succ, List.getElem?_cons_zero]; rfl
  · kernel_rfl
  · intro Wx hSx
    try dsimp only at hSx
    go_simp
    try with_reducible rfl
  simp only [Act.put, List.setIfInBounds_toArray, List.set_cons_zero, List.set_cons_succ]
  refine takeR (i := 17) (oi := ?_) (v := ?_) ?_ (by kernel_rfl) (by kernel_rfl) (by kernel_rfl) ?_ ?_ (by assumption) ?_
  rotate_left 2
  · simp only [List.getElem?_toArray, List.getElem?_cons_succ, List.getElem?_cons_zero]; rfl
  · kernel_rfl
  · intro Wx hSx
    try dsimp only at hSx
    go_simp
    try with_reducible rfl
  simp only [Act.put, List.setIfInBounds_toArray, List.set_cons_zero, List.set_cons_succ]
  refine takeR (i := 18) (oi := ?_) (v := ?_) ?_ (by kernel_rfl) (by kernel_rfl) (by kernel_rfl) ?_ ?_ (by assumption) ?_
  rotate_left 2
  · simp only [List.getElem?_toArray, List.getElem?_cons_succ, List.getElem?_cons_zero]; rfl
  · kernel_rfl
  · intro Wx hSx
    try dsimp only at hSx
    go_simp
    try with_reducible rfl
  simp only [Act.put, List.setIfInBounds_toArray, List.set_cons_zero, List.set_cons_succ]
  refine takeR (i := 19) (oi := ?_) (v := ?_) ?_ (by kernel_rfl) (by kernel_rfl) (by kernel_rfl) ?_ ?_ (by assumption) ?_
  rotate_left 2
  · simp only [List.getElem?_toArray, List.getElem?_cons_succ, List.getElem?_cons_zero]; rfl
  · kernel_rfl
  · intro Wx hSx
    try dsimp only at hSx
    go_simp
    try with_reducible rfl
  simp only [Act.put, List.setIfInBounds_toArray, List.set_cons_zero, List.set_cons_succ]
  refine wpAnyH_ready (rs := [20]) (by kernel_rfl) (by simp) ?_
  refine AllReadyH.cons (o := ?_) ?_ (fun K hK => ?_) AllReadyH.nil
  rotate_left
  · simp only [List.getElem?_toArray, List.getElem?_cons_succ, List.getElem?_cons_zero]; rfl
  go_simp
  refine (between_c _ _ _).mono ?_
  rintro e V3 ⟨rfl, x3⟩
  have y3 : Ext w16 V3 := ext_trans y2 x3
  refine hK.out _ _ y3 (fun hHeld => ?_)
  clear hK K
  simp only [Act.put, List.setIfInBounds_toArray, List.set_cons_zero, List.set_cons_succ]
  refine takeR (i := 21) (oi := ?_) (v := ?_) ?_ (by kernel_rfl) (by kernel_rfl) (by kernel_rfl) ?_ ?_ (by assumption) ?_
  rotate_left 2
  · simp only [List.getElem?_toArray, List.getElem?_cons_succ, List.getElem?_cons_zero]; rfl
  · kernel_rfl
  · intro Wx hSx
    try dsimp only at hSx
    go_simp
    try with_reducible rfl
  simp only [Act.put, List.setIfInBounds_toArray, List.set_cons_zero, List.set_cons_succ]
  refine takeR (i := 22) (oi := ?_) (v := ?_) ?_ (by kernel_rfl) (by kernel_rfl) (by kernel_rfl) ?_ ?_ (by assumption) ?_
  rotate_left 2
  · simp only [List.getElem?_toArray, List.getElem?_cons_succ, List.getElem?_cons_zero]; rfl
  · kernel_rfl
  · intro Wx hSx
    try dsimp only at hSx
    go_simp
    try with_reducible rfl
  simp only [Act.put, List.setIfInBounds_toArray, List.set_cons_zero, List.set_cons_succ]
  refine takeR (i := 23) (oi := ?_) (v := ?_) ?_ (by kernel_rfl) (by kernel_rfl) (by kernel_rfl) ?_ ?_ (by assumption) ?_
  rotate_left 2
  · simp only [List.getElem?_toArray, List.getElem?_cons_succ, List.getElem?_cons_zero]; rfl
  · kernel_rfl
  · intro Wx hSx
    try dsimp only at hSx
    go_simp
    try with_reducible rfl
  simp only [Act.put, List.setIfInBounds_toArray, List.set_cons_zero, List.set_cons_succ]
  refine takeR (i := 24) (oi := ?_) (v := ?_) ?_ (by kernel_rfl) (by kernel_rfl) (by kernel_rfl) ?_ ?_ (by assumption) ?_
  rotate_left 2
  · simp only [List.getElem?_toArray, List.getElem?_cons_succ, List.getElem?_cons_zero]; rfl
  · kernel_rfl
  · intro Wx hSx
    try dsimp only at hSx
    go_simp
    try with_reducible rfl
  simp only [Act.put, List.setIfInBounds_toArray, List.set_cons_zero, List.set_cons_succ]
  refine takeR (i := 25) (oi := ?_) (v := ?_) ?_ (by kernel_rfl) (by kernel_rfl) (by kernel_rfl) ?_ ?_ (by assumption) ?_
  rotate_left 2
  · simp only [List.getElem?_toArray, List.getElem?_cons_succ, List.getElem?_cons_zero]; rfl
  · kernel_rfl
  · intro Wx hSx
    try dsimp only at hSx
    go_simp
    try with_reducible rfl
  simp only [Act.put, List.setIfInBounds_toArray, List.set_cons_zero, List.set_cons_succ]
  refine takeR (i := 26) (oi := ?_) (v := ?_) ?_ (by kernel_rfl) (by kernel_rfl) (by kernel_rfl) ?_ ?_ (by assumption) ?_
  rotate_left 2
  · simp only [List.getElem?_toArray, List.getElem?_cons_succ, List.getElem?_cons_zero]; rfl
  · kernel_rfl
  · intro Wx hSx
    try dsimp only at hSx
    go_simp
    try with_reducible rfl
  simp only [Act.put, List.setIfInBounds_toArray, List.set_cons_zero, List.set_cons_succ]
  refine wpAnyH_ready (rs := [27]) (by kernel_rfl) (by simp) ?_
  refine AllReadyH.cons (o := ?_) ?_ (fun K hK => ?_) AllReadyH.nil
  rotate_left
  · simp only [List.getElem?_toArray, List.getElem?_cons_succ, List.getElem?_cons_zero]; rfl
  go_simp
  refine (between_c _ _ _).mono ?_
  rintro e V4 ⟨rfl, x4⟩
  have y4 : Ext w16 V4 := ext_trans y3 x4
  refine hK.out _ _ y4 (fun hHeld => ?_)
  clear hK K
  simp only [Act.put, List.setIfInBounds_toArray, List.set_cons_zero, List.set_cons_succ]
  refine takeR (i := 28) (oi := ?_) (v := ?_) ?_ (by kernel_rfl) (by kernel_rfl) (by kernel_rfl) ?_ ?_ (by assumption) ?_
  rotate_left 2
  · simp only [List.getElem?_toArray, List.getElem?_cons_succ, List.getElem?_cons_zero]; rfl
  · kernel_rfl
  · intro Wx hSx
    try dsimp only at hSx
    go_simp
    try with_reducible rfl
  simp only [Act.put, List.setIfInBounds_toArray, List.set_cons_zero, List.set_cons_succ]
  refine takeR (i := 29) (oi := ?_) (v := ?_) ?_ (by kernel_rfl) (by kernel_rfl) (by kernel_rfl) ?_ ?_ (by assumption) ?_
  rotate_left 2
  · simp only [List.getElem?_toArray, List.getElem?_cons_succ, List.getElem?_cons_zero]; rfl
  · kernel_rfl
  · intro Wx hSx
    try dsimp only at hSx
    go_simp
    try with_reducible rfl
  simp only [Act.put, List.setIfInBounds_toArray, List.set_cons_zero, List.set_cons_succ]
  refine takeR (i := 30) (oi := ?_) (v := ?_) ?_ (by kernel_rfl) (by kernel_rfl) (by kernel_rfl) ?_ ?_ (by assumption) ?_
  rotate_left 2
  · simp only [List.getElem?_toArray, List.getElem?_cons_succ, List.getElem?_cons_zero]; rfl
  · kernel_rfl
  · intro Wx hSx
    try dsimp only at hSx
    go_simp
    try with_reducible rfl
  simp only [Act.put, List.setIfInBounds_toArray, List.set_cons_zero, List.set_cons_succ]
  refine takeR (i := 31) (oi := ?_) (v := ?_) ?_ (by kernel_rfl) (by kernel_rfl) (by kernel_rfl) ?_ ?_ (by assumption) ?_
  rotate_left 2
  · simp only [List.getElem?_toArray, List.getElem?_cons_succ, List.getElem?_cons_zero]; rfl
  · kernel_rfl
  · intro Wx hSx
    try dsimp only at hSx
    go_simp
    try with_reducible rfl
  simp only [Act.put, List.setIfInBounds_toArray, List.set_cons_zero, List.set_cons_succ]
  refine takeR (i := 32) (oi := ?_) (v := ?_) ?_ (by kernel_rfl) (by kernel_rfl) (by kernel_rfl) ?_ ?_ (by assumption) ?_
  rotate_left 2
  · simp only [List.getElem?_toArray, List.getElem?_cons_succ, List.getElem?_cons_zero]; rfl
  · kernel_rfl
  · intro Wx hSx
    try dsimp only at hSx
    go_simp
    try with_reducible rfl
  simp only [Act.put, List.setIfInBounds_toArray, List.set_cons_zero, List.set_cons_succ]
  refine takeR (i := 33) (oi := ?_) (v := ?_) ?_ (by kernel_rfl) (by kernel_rfl) (by kernel_rfl) ?_ ?_ (by assumption) ?_
  rotate_left 2
  · simp only [List.getElem?_toArray, List.getElem?_cons_succ, List.getElem?_cons_zero]; rfl
  · kernel_rfl
  · intro Wx hSx
    try dsimp only at hSx
    go_simp
    try with_reducible rfl
  simp only [Act.put, List.setIfInBounds_toArray, List.set_cons_zero, List.set_cons_succ]
  refine takeR (i := 34) (oi := ?_) (v := ?_) ?_ (by kernel_rfl) (by kernel_rfl) (by kernel_rfl) ?_ ?_ (by assumption) ?_
  rotate_left 2
  · simp only [List.getElem?_toArray, List.getElem?_cons_succ, List.getElem?_cons_zero]; rfl
  · kernel_rfl
  · intro Wx hSx
    try dsimp only at hSx
    go_simp
    try with_reducible rfl
  simp only [Act.put, List.setIfInBounds_toArray, List.set_cons_zero, List.set_cons_succ]
  refine takeR (i := 35) (oi := ?_) (v := ?_) ?_ (by kernel_rfl) (by kernel_rfl) (by kernel_rfl) ?_ ?_ (by assumption) ?_
  rotate_left 2
  · simp only [List.getElem?_toArray, List.getElem?_cons_succ, List.getElem?_cons_zero]; rfl
  · kernel_rfl
  · intro Wx hSx
    try dsimp only at hSx
    go_simp
    try with_reducible rfl
  simp only [Act.put, List.setIfInBounds_toArray, List.set_cons_zero, List.set_cons_succ]
  refine wpAnyH_ready (rs := [36]) (by kernel_rfl) (by simp) ?_
  refine AllReadyH.cons (o := ?_) ?_ (fun K hK => ?_) AllReadyH.nil
  rotate_left
  · simp only [List.getElem?_toArray, List.getElem?_cons_succ, List.getElem?_cons_zero]; rfl
  go_simp
  refine hK.out _ _ (ext_alloc y4 _) (fun hHeld => ?_)
  obtain ⟨V5, hV⟩ : ∃ V, V4.alloc (.cells #[.int .i64 0, .int .i64 1, .int .i64 2] 3) = V := ⟨_, rfl⟩
  rw [hV]
  have x5 : Ext V4 V5 := by rw [← hV]; exact ext_alloc (ext_refl _) _
  have G2 := hid (show V5.heap[V4.heap.size]? = some (.cells #[.int .i64 0, .int .i64 1, .int .i64 2] 3 (0, 0)) from by rw [← hV]; exact heap_alloc_new _ _)
  have y5 : Ext w16 V5 := ext_trans y4 x5
  clear hV
  clear hK K
  simp only [Act.put, List.setIfInBounds_toArray, List.set_cons_zero, List.set_cons_succ]
  refine wpAnyH_ready (rs := [37]) (by kernel_rfl) (by simp) ?_
  refine AllReadyH.cons (o := ?_) ?_ (fun K hK => ?_) AllReadyH.nil
  rotate_left
  · simp only [List.getElem?_toArray, List.getElem?_cons_succ, List.getElem?_cons_zero]; rfl
  go_simp
  refine (ints_c _ _ [0, 1, 2] [0, 1, 2] _ (K5.out.ext (ext_trans EF.out y5)) (ints_block3 G2.out)).mono ?_
  rintro e V6 ⟨rfl, x6⟩
  rw [show intsF [0, 1, 2] [0, 1, 2] = true from by decide]
  have y6 : Ext w16 V6 := ext_trans y5 x6
  refine hK.out _ _ y6 (fun hHeld => ?_)
  clear hK K
  simp only [Act.put, List.setIfInBounds_toArray, List.set_cons_zero, List.set_cons_succ]
  refine takeR (i := 38) (oi := ?_) (v := ?_) ?_ (by kernel_rfl) (by kernel_rfl) (by kernel_rfl) ?_ ?_ (by assumption) ?_
  rotate_left 2
  · simp only [List.getElem?_toArray, List.getElem?_cons_succ, List.getElem?_cons_zero]; rfl
  · kernel_rfl
  · intro Wx hSx
    try dsimp only at hSx
    go_simp
    try with_reducible rfl
  simp only [Act.put, List.setIfInBounds_toArray, List.set_cons_zero, List.set_cons_succ]
  refine takeR (i := 39) (oi := ?_) (v := ?_) ?_ (by kernel_rfl) (by kernel_rfl) (by kernel_rfl) ?_ ?_ (by assumption) ?_
  rotate_left 2
  · simp only [List.getElem?_toArray, List.getElem?_cons_succ, List.getElem?_cons_zero]; rfl
  · kernel_rfl
  · intro Wx hSx
    try dsimp only at hSx
    go_simp
    try with_reducible rfl
  simp only [Act.put, List.setIfInBounds_toArray, List.set_cons_zero, List.set_cons_succ]
  refine takeR (i := 40) (oi := ?_) (v := ?_) ?_ (by kernel_rfl) (by kernel_rfl) (by kernel_rfl) ?_ ?_ (by assumption) ?_
  rotate_left 2
  · simp only [List.getElem?_toArray, List.getElem?_cons_succ, List.getElem?_cons_zero]; rfl
  · kernel_rfl
  · intro Wx hSx
    try dsimp only at hSx
    go_simp
    try with_reducible rfl
  simp only [Act.put, List.setIfInBounds_toArray, List.set_cons_zero, List.set_cons_succ]
  refine takeR (i := 41) (oi := ?_) (v := ?_) ?_ (by kernel_rfl) (by kernel_rfl) (by kernel_rfl) ?_ ?_ (by assumption) ?_
  rotate_left 2
  · simp only [List.getElem?_toArray, List.getElem?_cons_succ, List.getElem?_cons_zero]; rfl
  · kernel_rfl
  · intro Wx hSx
    try dsimp only at hSx
    go_simp
    try with_reducible rfl
  simp only [Act.put, List.setIfInBounds_toArray, List.set_cons_zero, List.set_cons_succ]
  refine takeR (i := 42) (oi := ?_) (v := ?_) ?_ (by kernel_rfl) (by kernel_rfl) (by kernel_rfl) ?_ ?_ (by assumption) ?_
  rotate_left 2
  · simp only [List.getElem?_toArray, List.getElem?_cons_succ, List.getElem?_cons_zero]; rfl
  · kernel_rfl
  · intro Wx hSx
    try dsimp only at hSx
    go_simp
    try with_reducible rfl
  simp only [Act.put, List.setIfInBounds_toArray, List.set_cons_zero, List.set_cons_succ]
  refine takeR (i := 43) (oi := ?_) (v := ?_) ?_ (by kernel_rfl) (by kernel_rfl) (by kernel_rfl) ?_ ?_ (by assumption) ?_
  rotate_left 2
  · simp only [List.getElem?_toArray, List.getElem?_cons_succ, List.getElem?_cons_zero]; rfl
  · kernel_rfl
  · intro Wx hSx
    try dsimp only at hSx
    go_simp
    try with_reducible rfl
  simp only [Act.put, List.setIfInBounds_toArray, List.set_cons_zero, List.set_cons_succ]
  refine takeR (i := 44) (oi := ?_) (v := ?_) ?_ (by kernel_rfl) (by kernel_rfl) (by kernel_rfl) ?_ ?_ (by assumption) ?_
  rotate_left 2
  · simp only [List.getElem?_toArray, List.getElem?_cons_succ, List.getElem?_cons_zero]; rfl
  · kernel_rfl
  · intro Wx hSx
    try dsimp only at hSx
    go_simp
    try with_reducible rfl
  simp only [Act.put, List.setIfInBounds_toArray, List.set_cons_zero, List.set_cons_succ]
  refine takeR (i := 45) (oi := ?_) (v := ?_) ?_ (by kernel_rfl) (by kernel_rfl) (by kernel_rfl) ?_ ?_ (by assumption) ?_
  rotate_left 2
  · simp only [List.getElem?_toArray, List.getElem?_cons_succ, List.getElem?_cons_zero]; rfl
  · kernel_rfl
  · intro Wx hSx
    try dsimp only at hSx
    go_simp
    try with_reducible rfl
  simp only [Act.put, List.setIfInBounds_toArray, List.set_cons_zero, List.set_cons_succ]
  refine takeR (i := 46) (oi := ?_) (v := ?_) ?_ (by kernel_rfl) (by kernel_rfl) (by kernel_rfl) ?_ ?_ (by assumption) ?_
  rotate_left 2
  · simp only [List.getElem?_toArray, List.getElem?_cons_succ, List.getElem?_cons_zero]; rfl
  · kernel_rfl
  · intro Wx hSx
    try dsimp only at hSx
    go_simp
    try with_reducible rfl
  simp only [Act.put, List.setIfInBounds_toArray, List.set_cons_zero, List.set_cons_succ]
  refine takeR (i := 47) (oi := ?_) (v := ?_) ?_ (by kernel_rfl) (by kernel_rfl) (by kernel_rfl) ?_ ?_ (by assumption) ?_
  rotate_left 2
  · simp only [List.getElem?_toArray, List.getElem?_cons_succ, List.getElem?_cons_zero]; rfl
  · kernel_rfl
  · intro Wx hSx
    try dsimp only at hSx
    go_simp
    try with_reducible rfl
  simp only [Act.put, List.setIfInBounds_toArray, List.set_cons_zero, List.set_cons_succ]
  refine takeR (i := 48) (oi := ?_) (v := ?_) ?_ (by kernel_rfl) (by kernel_rfl) (by kernel_rfl) ?_ ?_ (by assumption) ?_
  rotate_left 2
  · simp only [List.getElem?_toArray, List.getElem?_cons_succ, List.getElem?_cons_zero]; rfl
  · kernel_rfl
  · intro Wx hSx
    try dsimp only at hSx
    go_simp
    try with_reducible rfl
  simp only [Act.put, List.setIfInBounds_toArray, List.set_cons_zero, List.set_cons_succ]
  refine takeR (i := 49) (oi := ?_) (v := ?_) ?_ (by kernel_rfl) (by kernel_rfl) (by kernel_rfl) ?_ ?_ (by assumption) ?_
  rotate_left 2
  · simp only [List.getElem?_toArray, List.getElem?_cons_succ, List.getElem?_cons_zero]; rfl
  · kernel_rfl
  · intro Wx hSx
    try dsimp only at hSx
    go_simp
    try with_reducible rfl
  simp only [Act.put, List.setIfInBounds_toArray, List.set_cons_zero, List.set_cons_succ]
  refine takeR (i := 50) (oi := ?_) (v := ?_) ?_ (by kernel_rfl) (by kernel_rfl) (by kernel_rfl) ?_ ?_ (by assumption) ?_
  rotate_left 2
  · simp only [List.getElem?_toArray, List.getElem?_cons_succ, List.getElem?_cons_zero]; rfl
  · kernel_rfl
  · intro Wx hSx
    try dsimp only at hSx
    go_simp
    try with_reducible rfl
  simp only [Act.put, List.setIfInBounds_toArray, List.set_cons_zero, List.set_cons_succ]
  refine takeR (i := 51) (oi := ?_) (v := ?_) ?_ (by kernel_rfl) (by kernel_rfl) (by kernel_rfl) ?_ ?_ (by assumption) ?_
  rotate_left 2
  · simp only [List.getElem?_toArray, List.getElem?_cons_succ, List.getElem?_cons_zero]; rfl
  · kernel_rfl
  · intro Wx hSx
    try dsimp only at hSx
    go_simp
    try with_reducible rfl
  simp only [Act.put, List.setIfInBounds_toArray, List.set_cons_zero, List.set_cons_succ]
  refine takeR (i := 52) (oi := ?_) (v := ?_) ?_ (by kernel_rfl) (by kernel_rfl) (by kernel_rfl) ?_ ?_ (by assumption) ?_
  rotate_left 2
  · simp only [List.getElem?_toArray, List.getElem?_cons_succ, List.getElem?_cons_zero]; rfl
  · kernel_rfl
  · intro Wx hSx
    try dsimp only at hSx
    go_simp
    try with_reducible rfl
  simp only [Act.put, List.setIfInBounds_toArray, List.set_cons_zero, List.set_cons_succ]
  refine wpAnyH_ready (rs := [53]) (by kernel_rfl) (by simp) ?_
  refine AllReadyH.cons (o := ?_) ?_ (fun K hK => ?_) AllReadyH.nil
  rotate_left
  · simp only [List.getElem?_toArray, List.getElem?_cons_succ, List.getElem?_cons_zero]; rfl
  go_simp
  refine (way_c _).mono ?_
  rintro e V7 ⟨wv2, rfl, hw2, x7⟩
  have KW2 := hid hw2
  clear hw2
  have y7 : Ext w16 V7 := ext_trans y6 x7
  refine hK.out _ _ y7 (fun hHeld => ?_)
  clear hK K
  simp only [Act.put, List.setIfInBounds_toArray, List.set_cons_zero, List.set_cons_succ]
  refine wpAnyH_ready (rs := [54]) (by kernel_rfl) (by simp) ?_
  refine AllReadyH.cons (o := ?_) ?_ (fun K hK => ?_) AllReadyH.nil
  rotate_left
  · simp only [List.getElem?_toArray, List.getElem?_cons_succ, List.getElem?_cons_zero]; rfl
  go_simp
  refine (ints_c _ _ [0, 1, 2, 0] [0, 1, 2, 0] _ (K9.out.ext (ext_trans EF.out y7)) KW2.out).mono ?_
  rintro e V8 ⟨rfl, x8⟩
  rw [show intsF [0, 1, 2, 0] [0, 1, 2, 0] = true from by decide]
  have y8 : Ext w16 V8 := ext_trans y7 x8
  refine hK.out _ _ y8 (fun hHeld => ?_)
  clear hK K
  simp only [Act.put, List.setIfInBounds_toArray, List.set_cons_zero, List.set_cons_succ]
  refine takeR (i := 55) (oi := ?_) (v := ?_) ?_ (by kernel_rfl) (by kernel_rfl) (by kernel_rfl) ?_ ?_ (by assumption) ?_
  rotate_left 2
  · simp only [List.getElem?_toArray, List.getElem?_cons_succ, List.getElem?_cons_zero]; rfl
  · kernel_rfl
  · intro Wx hSx
    try dsimp only at hSx
    go_simp
    try with_reducible rfl
  simp only [Act.put, List.setIfInBounds_toArray, List.set_cons_zero, List.set_cons_succ]
  refine takeR (i := 56) (oi := ?_) (v := ?_) ?_ (by kernel_rfl) (by kernel_rfl) (by kernel_rfl) ?_ ?_ (by assumption) ?_
  rotate_left 2
  · simp only [List.getElem?_toArray, List.getElem?_cons_succ, List.getElem?_cons_zero]; rfl
  · kernel_rfl
  · intro Wx hSx
    try dsimp only at hSx
    go_simp
    try with_reducible rfl
  simp only [Act.put, List.setIfInBounds_toArray, List.set_cons_zero, List.set_cons_succ]
  refine takeR (i := 57) (oi := ?_) (v := ?_) ?_ (by kernel_rfl) (by kernel_rfl) (by kernel_rfl) ?_ ?_ (by assumption) ?_
  rotate_left 2
  · simp only [List.getElem?_toArray, List.getElem?_cons_succ, List.getElem?_cons_zero]; rfl
  · kernel_rfl
  · intro Wx hSx
    try dsimp only at hSx
    go_simp
    try with_reducible rfl
  simp only [Act.put, List.setIfInBounds_toArray, List.set_cons_zero, List.set_cons_succ]
  refine takeR (i := 58) (oi := ?_) (v := ?_) ?_ (by kernel_rfl) (by kernel_rfl) (by kernel_rfl) ?_ ?_ (by assumption) ?_
  rotate_left 2
  · simp only [List.getElem?_toArray, List.getElem?_cons_succ, List.getElem?_cons_zero]; rfl
  · kernel_rfl
  · intro Wx hSx
    try dsimp only at hSx
    go_simp
    try with_reducible rfl
  simp only [Act.put, List.setIfInBounds_toArray, List.set_cons_zero, List.set_cons_succ]
  refine takeR (i := 59) (oi := ?_) (v := ?_) ?_ (by kernel_rfl) (by kernel_rfl) (by kernel_rfl) ?_ ?_ (by assumption) ?_
  rotate_left 2
  · simp only [List.getElem?_toArray, List.getElem?_cons_succ, List.getElem?_cons_zero]; rfl
  · kernel_rfl
  · intro Wx hSx
    try dsimp only at hSx
    go_simp
    try with_reducible rfl
  simp only [Act.put, List.setIfInBounds_toArray, List.set_cons_zero, List.set_cons_succ]
  refine takeR (i := 60) (oi := ?_) (v := ?_) ?_ (by kernel_rfl) (by kernel_rfl) (by kernel_rfl) ?_ ?_ (by assumption) ?_
  rotate_left 2
  · simp only [List.getElem?_toArray, List.getElem?_cons_succ, List.getElem?_cons_zero]; rfl
  · kernel_rfl
  · intro Wx hSx
    try dsimp only at hSx
    go_simp
    try with_reducible rfl
  simp only [Act.put, List.setIfInBounds_toArray, List.set_cons_zero, List.set_cons_succ]
  refine takeR (i := 61) (oi := ?_) (v := ?_) ?_ (by kernel_rfl) (by kernel_rfl) (by kernel_rfl) ?_ ?_ (by assumption) ?_
  rotate_left 2
  · simp only [List.getElem?_toArray, List.getElem?_cons_succ, List.getElem?_cons_zero]; rfl
  · kernel_rfl
  · intro Wx hSx
    try dsimp only at hSx
    go_simp
    try with_reducible rfl
  simp only [Act.put, List.setIfInBounds_toArray, List.set_cons_zero, List.set_cons_succ]
  refine takeR (i := 62) (oi := ?_) (v := ?_) ?_ (by kernel_rfl) (by kernel_rfl) (by kernel_rfl) ?_ ?_ (by assumption) ?_
  rotate_left 2
  · simp only [List.getElem?_toArray, List.getElem?_cons_succ, List.getElem?_cons_zero]; rfl
  · kernel_rfl
  · intro Wx hSx
    try dsimp only at hSx
    go_simp
    try with_reducible rfl
  simp only [Act.put, List.setIfInBounds_toArray, List.set_cons_zero, List.set_cons_succ]
  refine takeR (i := 63) (oi := ?_) (v := ?_) ?_ (by kernel_rfl) (by kernel_rfl) (by kernel_rfl) ?_ ?_ (by assumption) ?_
  rotate_left 2
  · simp only [List.getElem?_toArray, List.getElem?_cons_succ, List.getElem?_cons_zero]; rfl
  · kernel_rfl
  · intro Wx hSx
    try dsimp only at hSx
    go_simp
    try with_reducible rfl
  simp only [Act.put, List.setIfInBounds_toArray, List.set_cons_zero, List.set_cons_succ]
  refine takeR (i := 64) (oi := ?_) (v := ?_) ?_ (by kernel_rfl) (by kernel_rfl) (by kernel_rfl) ?_ ?_ (by assumption) ?_
  rotate_left 2
  · simp only [List.getElem?_toArray, List.getElem?_cons_succ, List.getElem?_cons_zero]; rfl
  · kernel_rfl
  · intro Wx hSx
    try dsimp only at hSx
    go_simp
    try with_reducible rfl
  simp only [Act.put, List.setIfInBounds_toArray, List.set_cons_zero, List.set_cons_succ]
  refine takeR (i := 65) (oi := ?_) (v := ?_) ?_ (by kernel_rfl) (by kernel_rfl) (by kernel_rfl) ?_ ?_ (by assumption) ?_
  rotate_left 2
  · simp only [List.getElem?_toArray, List.getElem?_cons_succ, List.getElem?_cons_zero]; rfl
  · kernel_rfl
  · intro Wx hSx
    try dsimp only at hSx
    go_simp
    try with_reducible rfl
  simp only [Act.put, List.setIfInBounds_toArray, List.set_cons_zero, List.set_cons_succ]
  refine takeR (i := 66) (oi := ?_) (v := ?_) ?_ (by kernel_rfl) (by kernel_rfl) (by kernel_rfl) ?_ ?_ (by assumption) ?_
  rotate_left 2
  · simp only [List.getElem?_toArray, List.getElem?_cons_succ, List.getElem?_cons_zero]; rfl
  · kernel_rfl
  · intro Wx hSx
    try dsimp only at hSx
    go_simp
    try with_reducible rfl
  simp only [Act.put, List.setIfInBounds_toArray, List.set_cons_zero, List.set_cons_succ]
  refine takeR (i := 67) (oi := ?_) (v := ?_) ?_ (by kernel_rfl) (by kernel_rfl) (by kernel_rfl) ?_ ?_ (by assumption) ?_
  rotate_left 2
  · simp only [List.getElem?_toArray, List.getElem?_cons_succ, List.getElem?_cons_zero]; rfl
  · kernel_rfl
  · intro Wx hSx
    try dsimp only at hSx
    go_simp
    try with_reducible rfl
  simp only [Act.put, List.setIfInBounds_toArray, List.set_cons_zero, List.set_cons_succ]
  refine takeR (i := 68) (oi := ?_) (v := ?_) ?_ (by kernel_rfl) (by kernel_rfl) (by kernel_rfl) ?_ ?_ (by assumption) ?_
  rotate_left 2
  · simp only [List.getElem?_toArray, List.getElem?_cons_succ, List.getElem?_cons_zero]; rfl
  · kernel_rfl
  · intro Wx hSx
    try dsimp only at hSx
    go_simp
    try with_reducible rfl
  simp only [Act.put, List.setIfInBounds_toArray, List.set_cons_zero, List.set_cons_succ]
  refine takeR (i := 69) (oi := ?_) (v := ?_) ?_ (by kernel_rfl) (by kernel_rfl) (by kernel_rfl) ?_ ?_ (by assumption) ?_
  rotate_left 2
  · simp only [List.getElem?_toArray, List.getElem?_cons_succ, List.getElem?_cons_zero]; rfl
  · kernel_rfl
  · intro Wx hSx
    try dsimp only at hSx
    go_simp
    try with_reducible rfl
  simp only [Act.put, List.setIfInBounds_toArray, List.set_cons_zero, List.set_cons_succ]
  refine takeR (i := 70) (oi := ?_) (v := ?_) ?_ (by kernel_rfl) (by kernel_rfl) (by kernel_rfl) ?_ ?_ (by assumption) ?_
  rotate_left 2
  · simp only [List.getElem?_toArray, List.getElem?_cons_succ, List.getElem?_cons_zero]; rfl
  · kernel_rfl
  · intro Wx hSx
    try dsimp only at hSx
    go_simp
    try with_reducible rfl
  simp only [Act.put, List.setIfInBounds_toArray, List.set_cons_zero, List.set_cons_succ]
  refine takeR (i := 71) (oi := ?_) (v := ?_) ?_ (by kernel_rfl) (by kernel_rfl) (by kernel_rfl) ?_ ?_ (by assumption) ?_
  rotate_left 2
  · simp only [List.getElem?_toArray, List.getElem?_cons_succ, List.getElem?_cons_zero]; rfl
  · kernel_rfl
  · intro Wx hSx
    try dsimp only at hSx
    go_simp
    try with_reducible rfl
  simp only [Act.put, List.setIfInBounds_toArray, List.set_cons_zero, List.set_cons_succ]
  refine takeR (i := 72) (oi := ?_) (v := ?_) ?_ (by kernel_rfl) (by kernel_rfl) (by kernel_rfl) ?_ ?_ (by assumption) ?_
  rotate_left 2
  · simp only [List.getElem?_toArray, List.getElem?_cons_succ, List.getElem?_cons_zero]; rfl
  · kernel_rfl
  · intro Wx hSx
    try dsimp only at hSx
    go_simp
    try with_reducible rfl
  simp only [Act.put, List.setIfInBounds_toArray, List.set_cons_zero, List.set_cons_succ]
  refine takeR (i := 73) (oi := ?_) (v := ?_) ?_ (by kernel_rfl) (by kernel_rfl) (by kernel_rfl) ?_ ?_ (by assumption) ?_
  rotate_left 2
  · simp only [List.getElem?_toArray, List.getElem?_cons_succ, List.getElem?_cons_zero]; rfl
  · kernel_rfl
  · intro Wx hSx
    try dsimp only at hSx
    go_simp
    try with_reducible rfl
  simp only [Act.put, List.setIfInBounds_toArray, List.set_cons_zero, List.set_cons_succ]
  refine wpAnyH_ready (rs := [74]) (by kernel_rfl) (by simp) ?_
  refine AllReadyH.cons (o := ?_) ?_ (fun K hK => ?_) AllReadyH.nil
  rotate_left
  · simp only [List.getElem?_toArray, List.getElem?_cons_succ, List.getElem?_cons_zero]; rfl
  go_simp
  refine hK.out _ _ (ext_alloc y8 _) (fun hHeld => ?_)
  obtain ⟨V9, hV⟩ : ∃ V, V8.alloc (.cells #[.int .i64 0] 3) = V := ⟨_, rfl⟩
  rw [hV]
  have x9 : Ext V8 V9 := by rw [← hV]; exact ext_alloc (ext_refl _) _
  have G3 := hid (show V9.heap[V8.heap.size]? = some (.cells #[.int .i64 0] 3 (0, 0)) from by rw [← hV]; exact heap_alloc_new _ _)
  have y9 : Ext w16 V9 := ext_trans y8 x9
  clear hV
  clear hK K
  simp only [Act.put, List.setIfInBounds_toArray, List.set_cons_zero, List.set_cons_succ]
  refine wpAnyH_ready (rs := [75]) (by kernel_rfl) (by simp) ?_
  refine AllReadyH.cons (o := ?_) ?_ (fun K hK => ?_) AllReadyH.nil
  rotate_left
  · simp only [List.getElem?_toArray, List.getElem?_cons_succ, List.getElem?_cons_zero]; rfl
  go_simp
  refine (ints_c _ _ [0] [0] _ (K14.out.ext (ext_trans EF.out y9)) (ints_one G3.out)).mono ?_
  rintro e V10 ⟨rfl, x10⟩
  rw [show intsF [0] [0] = true from by decide]
  have y10 : Ext w16 V10 := ext_trans y9 x10
  refine hK.out _ _ y10 (fun hHeld => ?_)
  clear hK K
  simp only [Act.put, List.setIfInBounds_toArray, List.set_cons_zero, List.set_cons_succ]
  refine takeR (i := 76) (oi := ?_) (v := ?_) ?_ (by kernel_rfl) (by kernel_rfl) (by kernel_rfl) ?_ ?_ (by assumption) ?_
  rotate_left 2
  · simp only [List.getElem?_toArray, List.getElem?_cons_succ, List.getElem?_cons_zero]; rfl
  · kernel_rfl
  · intro Wx hSx
    try dsimp only at hSx
    go_simp
    try with_reducible rfl
  simp only [Act.put, List.setIfInBounds_toArray, List.set_cons_zero, List.set_cons_succ]
  refine takeR (i := 77) (oi := ?_) (v := ?_) ?_ (by kernel_rfl) (by kernel_rfl) (by kernel_rfl) ?_ ?_ (by assumption) ?_
  rotate_left 2
  · simp only [List.getElem?_toArray, List.getElem?_cons_succ, List.getElem?_cons_zero]; rfl
  · kernel_rfl
  · intro Wx hSx
    try dsimp only at hSx
    go_simp
    try with_reducible rfl
  simp only [Act.put, List.setIfInBounds_toArray, List.set_cons_zero, List.set_cons_succ]
  refine wpAnyH_done (by kernel_rfl) (HR.out _ _ ?_) _
  clear HR
  go_wp2
  go_ret
  exact ⟨rfl, ext_trans EW.out (by assumption)⟩
end Go.Proofs.YtlcakmbejjlmeaaGreat
/- Helpers of the statements: to, Thin of a table, short. -/
set_option linter.unusedVariables false
set_option linter.unusedSimpArgs false
namespace Go.Proofs.YtlcakmbejjlmeaaGreat
open Go.RowKit

set_option maxHeartbeats 400000 in
theorem to_c (a b : Int) (w : World) : Calls Tryz.prog 72 #[.agg #[.int .i64 a, .int .i64 b]] w fun e w' => e = .returned (.agg #[.int .i64 a, .int .i64 b]) ∧ Ext w w' := by
  go_enter Tryz.func72, Tryz.ntmps72
  go_wp2
  refine bodyPost_ret (v := .agg #[.int .i64 a, .int .i64 b]) (results_cell_row (fn := Tryz.f72) (p := 2) (ty := 57) rfl _ _ (w.heap.size + 1) 57 _ (0, 0) _ rfl (by first | exact heap_alloc_at _ _ (by simp) | exact heap_set_at (heap_set_at (heap_alloc_at _ _ (by simp)) rfl) rfl) Tryz.underlying57 rfl (by kernel_rfl)) rfl ⟨rfl, by go_grown⟩

def thin3F (women : List Wom) (pieces : List Pce) : Bool := decide (women.length ≤ 30) && decide (pieces.length ≤ 30) && allT (fun i => decide ((pMs pieces i).length ≤ 30)) pieces.length
set_option maxHeartbeats 1600000 in
theorem thin3_c (A : Option Addr) (n wc : Nat) (women : List Wom) (S : Option Addr) (pn pc : Nat) (pieces : List Pce) (wrong : Int) (w : World) (hW : IsWoms w (.slice A n wc) women) (hwl : women.length = n) (hP : IsPces w (.slice S pn pc) pieces) (hpl : pieces.length = pn) :
    Calls Tryz.prog 63 #[.agg #[.slice A n wc, .slice S pn pc, .int .i64 wrong]] w fun e w' => e = .returned (.bool (thin3F women pieces)) ∧ Ext w w' := by
  have KP := hid hP
  have HWL := hid hwl
  have HPL := hid hpl
  have hb1 := hW.1
  have hb2 := hP.1
  rw [hwl] at hb1
  rw [hpl] at hb2
  clear hW hP hwl hpl
  by_cases h1 : 30 < n
  · go_enter Tryz.func63, Tryz.ntmps63
    go_wp2
    go_ret
    exact ⟨ret_bool (by rw [thin3F, HWL.out, decide_eq_false (by omega)]; rfl), by go_grown⟩
  by_cases h2 : 30 < pn
  · go_enter Tryz.func63, Tryz.ntmps63
    go_wp2
    go_ret
    exact ⟨ret_bool (by rw [thin3F, HPL.out, decide_eq_false (show ¬ pn ≤ 30 from by omega)]; simp), by go_grown⟩
  have hf0 : Hid (thin3F women pieces = allT (fun i => decide ((pMs pieces i).length ≤ 30)) pn) := hid (by rw [thin3F, HWL.out, HPL.out, decide_eq_true (by omega), decide_eq_true (by omega)]; rfl)
  go_enter Tryz.func63, Tryz.ntmps63
  go_wp2
  go_loopw [3] (fun i wr => ∃ k : Nat, k ≤ pn ∧ i = .int .i64 k ∧ Ext w wr ∧ wr.heap[w.heap.size]? = some (.cells #[.slice A n wc, .slice S pn pc, .int .i64 wrong] 25 (0, 0)) ∧ Hid (∀ j, j < k → (pMs pieces j).length ≤ 30)) (fun i _ => pn - (intOf i).toNat)
  case atStart => exact ⟨0, Nat.zero_le _, rfl, by go_grown, (by repeat (first | exact heap_alloc_at _ _ (by simp) | refine heap_alloc_keep ?_)), hid (fun j h => absurd h (Nat.not_lt_zero j))⟩
  case round =>
    obtain ⟨k, hk, rfl, hE, b1, hall⟩ := hrel
    have c1 := blk_cell b1
    have B1 := hid b1
    clear b1
    by_cases hlt : k < pn
    · obtain ⟨b, o, rfl, hcell⟩ := KP.out.at (by omega)
      obtain ⟨mv, m1, m2, m3⟩ := hcell k hlt
      obtain ⟨MA, Mc, rfl⟩ := m2.val
      have hml := m2.1
      replace m1 := cell_ext hE m1
      obtain ⟨l, hl⟩ : ∃ l, (pMs pieces k).length = l := ⟨_, rfl⟩
      rw [hl] at m1 hml
      have HLN := hid hl
      have hi0 : (0 : Int) ≤ (k : Int) := by omega
      have hi1 : (k : Int) < (pn : Int) := by omega
      clear hcell m2 m3 hl
      by_cases hbig : 30 < l
      · go_wp2
        go_ret
        refine ⟨ret_bool ?_, hE⟩
        rw [hf0.out]
        cases hx : allT (fun i => decide ((pMs pieces i).length ≤ 30)) pn
        · rfl
        · have := of_decide_eq_true ((allT_iff _ _).1 hx k hlt)
          rw [HLN.out] at this
          omega
      · go_wp2
        go_roundw
        case rel => exact ⟨k + 1, hlt, by go_num, hE, B1.out, hid (lt_or_eq_all hall.out (by rw [HLN.out]; omega))⟩
        case measure => simp [intOf]; omega
    · obtain rfl : k = pn := by omega
      go_wp2
      go_ret
      refine ⟨ret_bool ?_, hE⟩
      rw [hf0.out]
      exact ((allT_iff _ _).2 (fun j hj => decide_eq_true (hall.out j hj))).symm
def shortF (women : List Wom) (pieces : List Pce) (home streets : List Rng) : Bool := thin3F women pieces && decide (home.length ≤ 30) && decide (streets.length ≤ 30)
set_option maxHeartbeats 1600000 in
theorem short_c (A : Option Addr) (n wc : Nat) (women : List Wom) (S : Option Addr) (pn pc : Nat) (pieces : List Pce) (wrong : Int) (H : Option Addr) (hn hc : Nat) (T : Option Addr) (sn sc : Nat) (start calls : Int) (home streets : List Rng) (w : World) (hW : IsWoms w (.slice A n wc) women) (hwl : women.length = n) (hP : IsPces w (.slice S pn pc) pieces) (hpl : pieces.length = pn)
    (hhl : home.length = hn) (htl : streets.length = sn) (hh : hn ≤ 140737488355328) (ht : sn ≤ 140737488355328) :
    Calls Tryz.prog 20 #[.agg #[.slice A n wc, .slice S pn pc, .int .i64 wrong, .slice H hn hc, .slice T sn sc, .int .i64 start, .int .i64 calls]] w fun e w' => e = .returned (.bool (shortF women pieces home streets)) ∧ Ext w w' := by
  have KW := hid hW
  have KP := hid hP
  have HWL := hid hwl
  have HPL := hid hpl
  have HHL := hid hhl
  have HTL := hid htl
  obtain ⟨x, hx⟩ : ∃ x, thin3F women pieces = x := ⟨_, rfl⟩
  have HX := hid hx
  have hf0 : Hid (shortF women pieces home streets = (x && decide (hn ≤ 30) && decide (sn ≤ 30))) := hid (by rw [shortF, hx, hhl, htl])
  clear hW hP hwl hpl hhl htl hx
  cases x
  · go_enter Tryz.func20, Tryz.ntmps20
    go_wp2_with (go_at_call 63; refine (thin3_c A n wc women S pn pc pieces wrong _ (KW.out.ext (by go_grown)) HWL.out (KP.out.ext (by go_grown)) HPL.out).mono ?_; rintro e w1 ⟨rfl, hB1⟩; have hc1 := blk_cell (ext_blk_keep hB1 (heap_alloc_new w _)); rw [HX.out])
    go_ret
    exact ⟨ret_bool (by rw [hf0.out]; rfl), ext_trans (by go_grown) hB1⟩
  · by_cases h1 : hn ≤ 30
    · by_cases h2 : sn ≤ 30
      · go_enter Tryz.func20, Tryz.ntmps20
        go_wp2_with (go_at_call 63; refine (thin3_c A n wc women S pn pc pieces wrong _ (KW.out.ext (by go_grown)) HWL.out (KP.out.ext (by go_grown)) HPL.out).mono ?_; rintro e w1 ⟨rfl, hB1⟩; have hc1 := blk_cell (ext_blk_keep hB1 (heap_alloc_new w _)); rw [HX.out])
        go_ret
        exact ⟨ret_bool (by rw [hf0.out]; simp [h1, h2]; omega), ext_trans (by go_grown) hB1⟩
      · go_enter Tryz.func20, Tryz.ntmps20
        go_wp2_with (go_at_call 63; refine (thin3_c A n wc women S pn pc pieces wrong _ (KW.out.ext (by go_grown)) HWL.out (KP.out.ext (by go_grown)) HPL.out).mono ?_; rintro e w1 ⟨rfl, hB1⟩; have hc1 := blk_cell (ext_blk_keep hB1 (heap_alloc_new w _)); rw [HX.out])
        go_ret
        exact ⟨ret_bool (by rw [hf0.out]; simp [h1, h2]; omega), ext_trans (by go_grown) hB1⟩
    · go_enter Tryz.func20, Tryz.ntmps20
      go_wp2_with (go_at_call 63; refine (thin3_c A n wc women S pn pc pieces wrong _ (KW.out.ext (by go_grown)) HWL.out (KP.out.ext (by go_grown)) HPL.out).mono ?_; rintro e w1 ⟨rfl, hB1⟩; have hc1 := blk_cell (ext_blk_keep hB1 (heap_alloc_new w _)); rw [HX.out])
      go_ret
      exact ⟨ret_bool (by rw [hf0.out]; simp [h1]), ext_trans (by go_grown) hB1⟩
end Go.Proofs.YtlcakmbejjlmeaaGreat
/- The table, as the statements turn it to the program's. -/
set_option linter.unusedVariables false
set_option linter.unusedSimpArgs false
namespace Go.Proofs.YtlcakmbejjlmeaaGreat
open Go.RowKit

def womRow (m : Wom) : List Value := [.int .i64 m.mark, .int .i64 m.lo, .int .i64 m.hi]
def womCells (l : List Wom) : List Value := l.flatMap womRow
theorem womCells_append (a b : List Wom) : womCells (a ++ b) = womCells a ++ womCells b := by simp [womCells]
theorem womCells_at : ∀ (l : List Wom) (i : Nat), i < l.length → (womCells l)[i * 3]? = some (.int .i64 (wMk l i)) ∧ (womCells l)[i * 3 + 1]? = some (.int .i64 (wLo l i)) ∧ (womCells l)[i * 3 + 2]? = some (.int .i64 (wHi l i))
  | [], i, hi => absurd hi (Nat.not_lt_zero i)
  | m :: l, 0, _ => by simp [womCells, womRow, wMk, wLo, wHi]
  | m :: l, i + 1, hi => by
    have ih := womCells_at l i (by simpa using hi)
    have h1 : womCells (m :: l) = womRow m ++ womCells l := by simp [womCells]
    have h2 : ∀ j, (womCells (m :: l))[(i + 1) * 3 + j]? = (womCells l)[i * 3 + j]? := fun j => by
      rw [h1, List.getElem?_append_right (by simp [womRow]; omega)]
      congr 1
      simp [womRow]; omega
    have h3 := h2 0
    simp only [Nat.add_zero] at h3
    rw [h3, h2 1, h2 2]
    simpa [wMk, wLo, wHi] using ih
theorem own_woms {W : World} {base : Nat} {v : Value} {l : List Wom} {n : Nat} {e : TypeId} (hn : l.length = n) (h : W.ownsRow base e 3 v n (womCells l)) (hl : n ≤ 1000000) : IsWoms W v l := by
  subst hn
  obtain ⟨h1, h2⟩ := h
  refine ⟨by omega, ?_⟩
  rcases h2 with ⟨rfl, h0⟩ | ⟨g, cap, cur, rfl, hg, hc, hcap, hmax, hsz, htk⟩
  · exact ⟨none, 0, by rw [h0], fun h => by omega⟩
  · refine ⟨_, cap, rfl, fun _ => ⟨g, 0, rfl, fun i hi => ?_⟩⟩
    have h3 := womCells_at l i hi
    rw [← htk] at h3
    rw [List.getElem?_take_of_lt (by omega), List.getElem?_take_of_lt (by omega), List.getElem?_take_of_lt (by omega)] at h3
    rw [blk_cell hc, blk_cell hc, blk_cell hc, Nat.zero_add]
    simpa using h3
theorem wom_at (l : List Wom) (k : Nat) (h : k < l.length) : l.take (k + 1) = l.take k ++ [⟨wMk l k, wLo l k, wHi l k⟩] := by
  rw [List.take_succ_eq_append_getElem h]
  congr 1
  simp [wMk, wLo, wHi, List.getD_eq_getElem?_getD, List.getElem?_eq_getElem h]
set_option maxHeartbeats 400000 in
theorem list3_c2 (v : Value) (xs : List Int) (w : World) (hv : IsInts w v xs) (hl : xs.length ≤ 1000) : Calls Tryz.prog 98 #[v] w fun e w' => ∃ v', e = .returned v' ∧ IsInts w' v' xs ∧ Ext w w' ∧ ∀ b, v'.ownBlock = some b → w.heap.size ≤ b ∧ b < w'.heap.size := by
  obtain ⟨V, vc, rfl⟩ := hv.val
  have KV := hid hv
  clear hv
  go_enter Tryz.func98, Tryz.ntmps98
  go_wp2_with (at_builtin; refine app_ints rfl _ _ 29 3 rfl Tryz.underlying29 info_int w.heap.size (.slice none 0 0) 0 [] rfl (own_nil _ _ _ _) _ xs xs.length rfl rfl KV.out (Nat.le_refl _) (by omega) ?_; intro A cap w1 hown hB hg)
  go_ret
  have hob : ∀ b, (Value.slice A xs.length cap).ownBlock = some b → w.heap.size ≤ b ∧ b < w1.heap.size := fun b hb => own_block hown b (by rw [Nat.zero_add]; exact hb)
  exact ⟨_, rfl, own_ints (xs := xs) (by simpa using hown) (by omega), hB, hob⟩
end Go.Proofs.YtlcakmbejjlmeaaGreat
