/- Thin and ready: the statements' short cuts. -/
import Derived.Test.YtlcakmbejjlmeaaGreatK8
set_option linter.unusedVariables false
set_option linter.unusedSimpArgs false
namespace Go.Proofs.YtlcakmbejjlmeaaGreat
open Go.RowKit
def thinF (women : List Wom) (pieces : List Pce) (wrong : Int) (home streets : List Rng) (start calls : Int) : Bool :=
  shortF women pieces home streets && (decide (errE women pieces wrong home streets start calls ≠ 0) || (decide (calls ≤ 6) && (decide (women.length < 4) || decide (calls ≤ 5))))
def readyF (women : List Wom) (pieces : List Pce) (wrong : Int) (home streets : List Rng) (start calls : Int) : Bool :=
  thinF women pieces wrong home streets start calls && decide (errE women pieces wrong home streets start calls = 0)
theorem thinF_short {women : List Wom} {pieces : List Pce} {wrong : Int} {home streets : List Rng} {start calls : Int} (h : thinF women pieces wrong home streets start calls = true) : shortF women pieces home streets = true := by
  rw [thinF, Bool.and_eq_true] at h; exact h.1
theorem thinF_calls {women : List Wom} {pieces : List Pce} {wrong : Int} {home streets : List Rng} {start calls : Int} (h : thinF women pieces wrong home streets start calls = true) (he : errE women pieces wrong home streets start calls = 0) : calls ≤ 6 ∧ (women.length < 4 ∨ calls ≤ 5) := by
  rw [thinF, Bool.and_eq_true, he] at h
  simpa using h.2
section
variable (A : Option Addr) (n wc : Nat) (S : Option Addr) (pn pc : Nat) (wrong : Int) (H : Option Addr) (hn hc : Nat) (T : Option Addr) (sn sc : Nat) (start calls : Int) (women : List Wom) (pieces : List Pce) (home streets : List Rng)
set_option maxHeartbeats 6400000 in
set_option maxRecDepth 100000 in
theorem thin_x (w : World) (h : ErrIn w A n wc S pn pc H hn hc T sn sc women pieces home streets) (y : Bool) (hy : Hid (thinF women pieces wrong home streets start calls = y)) :
    Calls Tryz.prog 41 #[.agg #[.slice A n wc, .slice S pn pc, .int .i64 wrong, .slice H hn hc, .slice T sn sc, .int .i64 start, .int .i64 calls]] w fun e w' => e = .returned (.bool y) ∧ Ext w w' := by
  have KI := hid h
  obtain ⟨sh, hsh⟩ : ∃ x, shortF women pieces home streets = x := ⟨_, rfl⟩
  have HSH := hid hsh
  clear h
  cases sh
  · obtain rfl : false = y := by rw [← hy.out, thinF, hsh]; rfl
    clear hsh
    have hW0 : Ext w (w.alloc (.cells #[.slice A n wc, .slice S pn pc, .int .i64 wrong, .slice H hn hc, .slice T sn sc, .int .i64 start, .int .i64 calls] 28)) := by go_grown
    have b1 : (w.alloc (.cells #[.slice A n wc, .slice S pn pc, .int .i64 wrong, .slice H hn hc, .slice T sn sc, .int .i64 start, .int .i64 calls] 28)).heap[w.heap.size]? = some (.cells #[.slice A n wc, .slice S pn pc, .int .i64 wrong, .slice H hn hc, .slice T sn sc, .int .i64 start, .int .i64 calls] 28 (0, 0)) := (by repeat (first | exact heap_alloc_at _ _ (by simp) | refine heap_alloc_keep ?_))
    obtain ⟨W0, hWd⟩ : ∃ W0, w.alloc (.cells #[.slice A n wc, .slice S pn pc, .int .i64 wrong, .slice H hn hc, .slice T sn sc, .int .i64 start, .int .i64 calls] 28) = W0 := ⟨_, rfl⟩
    have HW0 := hid hWd
    rw [hWd] at hW0 b1
    have f1 := ext_blk b1
    have e0 : Ext W0 W0 := ext_refl W0
    clear hWd b1
    go_enter Tryz.func41, Tryz.ntmps41
    go_wp2_with fail
    rw [HW0.out]
    refine (short_x A n wc S pn pc wrong H hn hc T sn sc start calls women pieces home streets _ (KI.out.ext hW0) _ HSH).mono ?_
    rintro e w1 ⟨rfl, hB1⟩
    have e1 : Ext W0 w1 := hB1
    clear hB1
    go_wp2
    go_ret
    exact ⟨rfl, ext_trans hW0 e1⟩
  obtain ⟨hat, hn30, hmk⟩ := KI.out.at hsh
  have KE := hid hat
  have HNL := hid hat.wl
  obtain ⟨fe, hfe⟩ : ∃ x, errE women pieces wrong home streets start calls = x := ⟨_, rfl⟩
  have HFE := hid hfe
  have hy2 : Hid (y = (decide (fe ≠ 0) || (decide (calls ≤ 6) && (decide (n < 4) || decide (calls ≤ 5))))) := hid (by rw [← hy.out, thinF, hsh, hfe, hat.wl]; rfl)
  clear hsh hat hmk hfe hy
  by_cases hf : fe = 0
  · subst hf
    by_cases hc6 : calls ≤ 6
    · by_cases hn4 : n < 4
      · have hn4' : (n : Int) < 4 := by omega
        have hW0 : Ext w (w.alloc (.cells #[.slice A n wc, .slice S pn pc, .int .i64 wrong, .slice H hn hc, .slice T sn sc, .int .i64 start, .int .i64 calls] 28)) := by go_grown
        have b1 : (w.alloc (.cells #[.slice A n wc, .slice S pn pc, .int .i64 wrong, .slice H hn hc, .slice T sn sc, .int .i64 start, .int .i64 calls] 28)).heap[w.heap.size]? = some (.cells #[.slice A n wc, .slice S pn pc, .int .i64 wrong, .slice H hn hc, .slice T sn sc, .int .i64 start, .int .i64 calls] 28 (0, 0)) := (by repeat (first | exact heap_alloc_at _ _ (by simp) | refine heap_alloc_keep ?_))
        obtain ⟨W0, hWd⟩ : ∃ W0, w.alloc (.cells #[.slice A n wc, .slice S pn pc, .int .i64 wrong, .slice H hn hc, .slice T sn sc, .int .i64 start, .int .i64 calls] 28) = W0 := ⟨_, rfl⟩
        have HW0 := hid hWd
        rw [hWd] at hW0 b1
        have f1 := ext_blk b1
        have e0 : Ext W0 W0 := ext_refl W0
        clear hWd b1
        go_enter Tryz.func41, Tryz.ntmps41
        go_wp2_with fail
        rw [HW0.out]
        refine (short_x A n wc S pn pc wrong H hn hc T sn sc start calls women pieces home streets _ (KI.out.ext hW0) _ HSH).mono ?_
        rintro e w1 ⟨rfl, hB1⟩
        have e1 : Ext W0 w1 := hB1
        clear hB1
        go_wp2_with fail
        refine (faultE_c A n wc S pn pc wrong H hn hc T sn sc start calls women pieces home streets _ (KE.out.ext (ext_trans hW0 e1)) _ HFE).mono ?_
        rintro e w2 ⟨rfl, hB2⟩
        have e2 := ext_trans e1 hB2
        go_wp2
        go_ret
        exact ⟨ret_bool (by rw [hy2.out]; simp [hc6, hn4]), ext_trans hW0 e2⟩
      · have hn4' : ¬ (n : Int) < 4 := by omega
        by_cases hc5 : calls ≤ 5
        · skip
          have hW0 : Ext w (w.alloc (.cells #[.slice A n wc, .slice S pn pc, .int .i64 wrong, .slice H hn hc, .slice T sn sc, .int .i64 start, .int .i64 calls] 28)) := by go_grown
          have b1 : (w.alloc (.cells #[.slice A n wc, .slice S pn pc, .int .i64 wrong, .slice H hn hc, .slice T sn sc, .int .i64 start, .int .i64 calls] 28)).heap[w.heap.size]? = some (.cells #[.slice A n wc, .slice S pn pc, .int .i64 wrong, .slice H hn hc, .slice T sn sc, .int .i64 start, .int .i64 calls] 28 (0, 0)) := (by repeat (first | exact heap_alloc_at _ _ (by simp) | refine heap_alloc_keep ?_))
          obtain ⟨W0, hWd⟩ : ∃ W0, w.alloc (.cells #[.slice A n wc, .slice S pn pc, .int .i64 wrong, .slice H hn hc, .slice T sn sc, .int .i64 start, .int .i64 calls] 28) = W0 := ⟨_, rfl⟩
          have HW0 := hid hWd
          rw [hWd] at hW0 b1
          have f1 := ext_blk b1
          have e0 : Ext W0 W0 := ext_refl W0
          clear hWd b1
          go_enter Tryz.func41, Tryz.ntmps41
          go_wp2_with fail
          rw [HW0.out]
          refine (short_x A n wc S pn pc wrong H hn hc T sn sc start calls women pieces home streets _ (KI.out.ext hW0) _ HSH).mono ?_
          rintro e w1 ⟨rfl, hB1⟩
          have e1 : Ext W0 w1 := hB1
          clear hB1
          go_wp2_with fail
          refine (faultE_c A n wc S pn pc wrong H hn hc T sn sc start calls women pieces home streets _ (KE.out.ext (ext_trans hW0 e1)) _ HFE).mono ?_
          rintro e w2 ⟨rfl, hB2⟩
          have e2 := ext_trans e1 hB2
          go_wp2
          go_ret
          exact ⟨ret_bool (by rw [hy2.out]; simp [hc6, hn4, hc5] <;> omega), ext_trans hW0 e2⟩
        · skip
          have hW0 : Ext w (w.alloc (.cells #[.slice A n wc, .slice S pn pc, .int .i64 wrong, .slice H hn hc, .slice T sn sc, .int .i64 start, .int .i64 calls] 28)) := by go_grown
          have b1 : (w.alloc (.cells #[.slice A n wc, .slice S pn pc, .int .i64 wrong, .slice H hn hc, .slice T sn sc, .int .i64 start, .int .i64 calls] 28)).heap[w.heap.size]? = some (.cells #[.slice A n wc, .slice S pn pc, .int .i64 wrong, .slice H hn hc, .slice T sn sc, .int .i64 start, .int .i64 calls] 28 (0, 0)) := (by repeat (first | exact heap_alloc_at _ _ (by simp) | refine heap_alloc_keep ?_))
          obtain ⟨W0, hWd⟩ : ∃ W0, w.alloc (.cells #[.slice A n wc, .slice S pn pc, .int .i64 wrong, .slice H hn hc, .slice T sn sc, .int .i64 start, .int .i64 calls] 28) = W0 := ⟨_, rfl⟩
          have HW0 := hid hWd
          rw [hWd] at hW0 b1
          have f1 := ext_blk b1
          have e0 : Ext W0 W0 := ext_refl W0
          clear hWd b1
          go_enter Tryz.func41, Tryz.ntmps41
          go_wp2_with fail
          rw [HW0.out]
          refine (short_x A n wc S pn pc wrong H hn hc T sn sc start calls women pieces home streets _ (KI.out.ext hW0) _ HSH).mono ?_
          rintro e w1 ⟨rfl, hB1⟩
          have e1 : Ext W0 w1 := hB1
          clear hB1
          go_wp2_with fail
          refine (faultE_c A n wc S pn pc wrong H hn hc T sn sc start calls women pieces home streets _ (KE.out.ext (ext_trans hW0 e1)) _ HFE).mono ?_
          rintro e w2 ⟨rfl, hB2⟩
          have e2 := ext_trans e1 hB2
          go_wp2
          go_ret
          exact ⟨ret_bool (by rw [hy2.out]; simp [hc6, hn4, hc5] <;> omega), ext_trans hW0 e2⟩
    · skip
      have hW0 : Ext w (w.alloc (.cells #[.slice A n wc, .slice S pn pc, .int .i64 wrong, .slice H hn hc, .slice T sn sc, .int .i64 start, .int .i64 calls] 28)) := by go_grown
      have b1 : (w.alloc (.cells #[.slice A n wc, .slice S pn pc, .int .i64 wrong, .slice H hn hc, .slice T sn sc, .int .i64 start, .int .i64 calls] 28)).heap[w.heap.size]? = some (.cells #[.slice A n wc, .slice S pn pc, .int .i64 wrong, .slice H hn hc, .slice T sn sc, .int .i64 start, .int .i64 calls] 28 (0, 0)) := (by repeat (first | exact heap_alloc_at _ _ (by simp) | refine heap_alloc_keep ?_))
      obtain ⟨W0, hWd⟩ : ∃ W0, w.alloc (.cells #[.slice A n wc, .slice S pn pc, .int .i64 wrong, .slice H hn hc, .slice T sn sc, .int .i64 start, .int .i64 calls] 28) = W0 := ⟨_, rfl⟩
      have HW0 := hid hWd
      rw [hWd] at hW0 b1
      have f1 := ext_blk b1
      have e0 : Ext W0 W0 := ext_refl W0
      clear hWd b1
      go_enter Tryz.func41, Tryz.ntmps41
      go_wp2_with fail
      rw [HW0.out]
      refine (short_x A n wc S pn pc wrong H hn hc T sn sc start calls women pieces home streets _ (KI.out.ext hW0) _ HSH).mono ?_
      rintro e w1 ⟨rfl, hB1⟩
      have e1 : Ext W0 w1 := hB1
      clear hB1
      go_wp2_with fail
      refine (faultE_c A n wc S pn pc wrong H hn hc T sn sc start calls women pieces home streets _ (KE.out.ext (ext_trans hW0 e1)) _ HFE).mono ?_
      rintro e w2 ⟨rfl, hB2⟩
      have e2 := ext_trans e1 hB2
      go_wp2
      go_ret
      exact ⟨ret_bool (by rw [hy2.out]; simp [hc6] <;> omega), ext_trans hW0 e2⟩
  · have hf1 : (fe != 0) = true := by rw [bne_iff_ne]; exact hf
    have hW0 : Ext w (w.alloc (.cells #[.slice A n wc, .slice S pn pc, .int .i64 wrong, .slice H hn hc, .slice T sn sc, .int .i64 start, .int .i64 calls] 28)) := by go_grown
    have b1 : (w.alloc (.cells #[.slice A n wc, .slice S pn pc, .int .i64 wrong, .slice H hn hc, .slice T sn sc, .int .i64 start, .int .i64 calls] 28)).heap[w.heap.size]? = some (.cells #[.slice A n wc, .slice S pn pc, .int .i64 wrong, .slice H hn hc, .slice T sn sc, .int .i64 start, .int .i64 calls] 28 (0, 0)) := (by repeat (first | exact heap_alloc_at _ _ (by simp) | refine heap_alloc_keep ?_))
    obtain ⟨W0, hWd⟩ : ∃ W0, w.alloc (.cells #[.slice A n wc, .slice S pn pc, .int .i64 wrong, .slice H hn hc, .slice T sn sc, .int .i64 start, .int .i64 calls] 28) = W0 := ⟨_, rfl⟩
    have HW0 := hid hWd
    rw [hWd] at hW0 b1
    have f1 := ext_blk b1
    have e0 : Ext W0 W0 := ext_refl W0
    clear hWd b1
    go_enter Tryz.func41, Tryz.ntmps41
    go_wp2_with fail
    rw [HW0.out]
    refine (short_x A n wc S pn pc wrong H hn hc T sn sc start calls women pieces home streets _ (KI.out.ext hW0) _ HSH).mono ?_
    rintro e w1 ⟨rfl, hB1⟩
    have e1 : Ext W0 w1 := hB1
    clear hB1
    go_wp2_with fail
    refine (faultE_c A n wc S pn pc wrong H hn hc T sn sc start calls women pieces home streets _ (KE.out.ext (ext_trans hW0 e1)) _ HFE).mono ?_
    rintro e w2 ⟨rfl, hB2⟩
    have e2 := ext_trans e1 hB2
    go_wp2
    go_ret
    exact ⟨ret_bool (by rw [hy2.out]; simp [hf]), ext_trans hW0 e2⟩
set_option maxHeartbeats 6400000 in
set_option maxRecDepth 100000 in
theorem ready_x (w : World) (h : ErrIn w A n wc S pn pc H hn hc T sn sc women pieces home streets) (y : Bool) (hy : Hid (readyF women pieces wrong home streets start calls = y)) :
    Calls Tryz.prog 46 #[.agg #[.slice A n wc, .slice S pn pc, .int .i64 wrong, .slice H hn hc, .slice T sn sc, .int .i64 start, .int .i64 calls]] w fun e w' => e = .returned (.bool y) ∧ Ext w w' := by
  have KI := hid h
  obtain ⟨sh, hsh⟩ : ∃ x, thinF women pieces wrong home streets start calls = x := ⟨_, rfl⟩
  have HSH := hid hsh
  clear h
  cases sh
  · obtain rfl : false = y := by rw [← hy.out, readyF, hsh]; rfl
    clear hsh
    have hW0 : Ext w (w.alloc (.cells #[.slice A n wc, .slice S pn pc, .int .i64 wrong, .slice H hn hc, .slice T sn sc, .int .i64 start, .int .i64 calls] 28)) := by go_grown
    have b1 : (w.alloc (.cells #[.slice A n wc, .slice S pn pc, .int .i64 wrong, .slice H hn hc, .slice T sn sc, .int .i64 start, .int .i64 calls] 28)).heap[w.heap.size]? = some (.cells #[.slice A n wc, .slice S pn pc, .int .i64 wrong, .slice H hn hc, .slice T sn sc, .int .i64 start, .int .i64 calls] 28 (0, 0)) := (by repeat (first | exact heap_alloc_at _ _ (by simp) | refine heap_alloc_keep ?_))
    obtain ⟨W0, hWd⟩ : ∃ W0, w.alloc (.cells #[.slice A n wc, .slice S pn pc, .int .i64 wrong, .slice H hn hc, .slice T sn sc, .int .i64 start, .int .i64 calls] 28) = W0 := ⟨_, rfl⟩
    have HW0 := hid hWd
    rw [hWd] at hW0 b1
    have f1 := ext_blk b1
    have e0 : Ext W0 W0 := ext_refl W0
    clear hWd b1
    go_enter Tryz.func46, Tryz.ntmps46
    go_wp2_with fail
    rw [HW0.out]
    refine (thin_x A n wc S pn pc wrong H hn hc T sn sc start calls women pieces home streets _ (KI.out.ext hW0) _ HSH).mono ?_
    rintro e w1 ⟨rfl, hB1⟩
    have e1 : Ext W0 w1 := hB1
    go_wp2
    go_ret
    exact ⟨rfl, ext_trans hW0 e1⟩
  obtain ⟨hat, hn30, hmk⟩ := KI.out.at (thinF_short hsh)
  have KE := hid hat
  obtain ⟨fe, hfe⟩ : ∃ x, errE women pieces wrong home streets start calls = x := ⟨_, rfl⟩
  have HFE := hid hfe
  obtain ⟨yy, hyy⟩ : ∃ x, (fe == 0) = x := ⟨_, rfl⟩
  have hy2 : y = yy := by rw [← hy.out, readyF, hsh, hfe, ← hyy]; simp [BEq.beq]
  subst hy2
  clear hsh hat hmk hfe hy
  have hW0 : Ext w (w.alloc (.cells #[.slice A n wc, .slice S pn pc, .int .i64 wrong, .slice H hn hc, .slice T sn sc, .int .i64 start, .int .i64 calls] 28)) := by go_grown
  have b1 : (w.alloc (.cells #[.slice A n wc, .slice S pn pc, .int .i64 wrong, .slice H hn hc, .slice T sn sc, .int .i64 start, .int .i64 calls] 28)).heap[w.heap.size]? = some (.cells #[.slice A n wc, .slice S pn pc, .int .i64 wrong, .slice H hn hc, .slice T sn sc, .int .i64 start, .int .i64 calls] 28 (0, 0)) := (by repeat (first | exact heap_alloc_at _ _ (by simp) | refine heap_alloc_keep ?_))
  obtain ⟨W0, hWd⟩ : ∃ W0, w.alloc (.cells #[.slice A n wc, .slice S pn pc, .int .i64 wrong, .slice H hn hc, .slice T sn sc, .int .i64 start, .int .i64 calls] 28) = W0 := ⟨_, rfl⟩
  have HW0 := hid hWd
  rw [hWd] at hW0 b1
  have f1 := ext_blk b1
  have e0 : Ext W0 W0 := ext_refl W0
  clear hWd b1
  go_enter Tryz.func46, Tryz.ntmps46
  go_wp2_with fail
  rw [HW0.out]
  refine (thin_x A n wc S pn pc wrong H hn hc T sn sc start calls women pieces home streets _ (KI.out.ext hW0) _ HSH).mono ?_
  rintro e w1 ⟨rfl, hB1⟩
  have e1 : Ext W0 w1 := hB1
  go_wp2_with fail
  refine (faultE_c A n wc S pn pc wrong H hn hc T sn sc start calls women pieces home streets _ (KE.out.ext (ext_trans hW0 e1)) _ HFE).mono ?_
  rintro e w2 ⟨rfl, hB2⟩
  have e2 := ext_trans e1 hB2
  go_wp2
  go_ret
  exact ⟨rfl, ext_trans hW0 e2⟩
end
end Go.Proofs.YtlcakmbejjlmeaaGreat
