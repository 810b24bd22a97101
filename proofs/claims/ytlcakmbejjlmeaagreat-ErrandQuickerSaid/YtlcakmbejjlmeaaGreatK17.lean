/- chosen: a truth out of a word. -/
import Derived.Test.YtlcakmbejjlmeaaGreatK13
import Derived.Test.YtlcakmbejjlmeaaGreatK7
set_option linter.unusedVariables false
set_option linter.unusedSimpArgs false
namespace Go.Proofs.YtlcakmbejjlmeaaGreat
open Go.RowKit
def chLen (streets : List Rng) (k : Nat) : Nat := (rHi streets k - rLo streets k + 1).toNat
def remC (streets : List Rng) (N : Nat) : Nat → Nat
  | 0 => N
  | k + 1 => remC streets N k / chLen streets k + k
def chV (streets : List Rng) (N k : Nat) : Int := rLo streets k + ((remC streets N k % chLen streets k : Nat) : Int)
theorem remC_le (streets : List Rng) (N : Nat) : ∀ k, k ≤ 10 → remC streets N k ≤ N + 10 * k
  | 0, _ => by simp [remC]
  | k + 1, h => by
    have h1 := remC_le streets N k (by omega)
    have h2 := Nat.div_le_self (remC streets N k) (chLen streets k)
    rw [remC]; omega
theorem rowArr_none0 (pn : Nat) (g : Nat → Int) : rowArr (fun i => if i < 0 then g i else 0) pn = rowArr (fun _ => 0) pn := by
  unfold rowArr
  simp
theorem rowArr_all (pn : Nat) (g : Nat → Int) : rowArr (fun i => if i < pn then g i else 0) pn = rowArr g pn := by
  unfold rowArr
  congr 1
  apply List.map_congr_left
  intro i hi
  dsimp only
  rw [if_pos (List.mem_range.1 hi)]
section
variable (A : Option Addr) (n wc : Nat) (pv : Value) (wrong : Int) (hv : Value) (T : Option Addr) (sn sc : Nat) (start calls : Int) (streets : List Rng)
set_option maxHeartbeats 6400000 in
set_option maxRecDepth 100000 in
theorem chosen_c (w : World) (hT : IsRngs w (.slice T sn sc) streets) (htl : streets.length = sn) (hs10 : sn ≤ 10) (hb : ∀ k, k < sn → 0 ≤ rLo streets k ∧ rLo streets k ≤ rHi streets k ∧ rHi streets k ≤ 60) (N : Nat) (hN : N ≤ 65535) :
    Calls Tryz.prog 48 #[.agg #[.slice A n wc, pv, .int .i64 wrong, hv, .slice T sn sc, .int .i64 start, .int .i64 calls], .int .i64 (N : Int)] w
      fun e w' => ∃ B, e = .returned (.slice (some ⟨B, 0, none⟩) sn sn) ∧ w.heap.size ≤ B ∧ w'.heap[B]? = some (.cells (rowArr (chV streets N) sn) 3 (0, 0)) ∧ Ext w w' := by
  have KT := hid hT
  have HB := hid hb
  clear hT hb
  have hmk : ∀ W : World, (Instr.makeSlice 29 (.int .i64 (sn : Int)) (.int .i64 (sn : Int))).run Tryz.prog W = .ok (.slice (some ⟨W.heap.size, 0, none⟩) sn sn) (W.alloc (.cells (madeCells #[.int .i64 0] sn) 3)) := fun W =>
    run_make_row' 29 3 (.int .i64 0) 8 Tryz.underlying29 info_int rfl .i64 .i64 sn (by omega) (by omega) W
  rw [rowArr_made] at hmk
  obtain ⟨CH, hCH⟩ : ∃ g, chV streets N = g := ⟨_, rfl⟩
  have HCH := hid hCH
  rw [hCH]
  clear hCH
  go_enter Tryz.func48, Tryz.ntmps48
  go_wp2
  go_loopw [1, 6, 7, 8] (fun nv i _ _ wr => ∃ (k r : Nat), k ≤ sn ∧ i = .int .i64 k ∧ Hid (remC streets N k = r) ∧ r ≤ 100000 ∧ nv = .int .i64 (r : Int) ∧ Ext w wr ∧ wr.heap[w.heap.size]? = some (.cells #[.slice A n wc, pv, .int .i64 wrong, hv, .slice T sn sc, .int .i64 start, .int .i64 calls] 28 (0, 0)) ∧ wr.heap[w.heap.size + 1]? = some (.cells (rowArr (fun i => if i < k then CH i else 0) sn) 3 (0, 0))) (fun _ i _ _ _ => sn - (intOf i).toNat)
  case atStart => exact ⟨0, N, Nat.zero_le _, rfl, hid rfl, by omega, rfl, by go_grown, (by repeat (first | exact heap_alloc_at _ _ (by simp) | refine heap_alloc_keep ?_)), by rw [rowArr_none0]; exact (by repeat (first | exact heap_alloc_at _ _ (by simp) | refine heap_alloc_keep ?_))⟩
  case round =>
    obtain ⟨k, r, hk, rfl, hr, hr0, rfl, hE, b1, b2⟩ := hrel
    have c1 := blk_cell b1
    have B1 := hid b1
    have B2 := hid b2
    have hlt2 : w.heap.size + 1 < wr.heap.size := (Array.getElem?_eq_some_iff.1 b2).1
    clear b1 b2
    by_cases hlt : k < sn
    · obtain ⟨tb, t0, hV, hcell⟩ := KT.out.at (by omega)
      subst hV
      have g1 := cell_ext hE (hcell k hlt).1
      have g2 := cell_ext hE (hcell k hlt).2
      obtain ⟨h0, h1, h2⟩ := HB.out k hlt
      obtain ⟨lo, hlo⟩ : ∃ x, rLo streets k = x := ⟨_, rfl⟩
      obtain ⟨hi, hhi⟩ : ∃ x, rHi streets k = x := ⟨_, rfl⟩
      rw [hlo] at g1 h0 h1
      rw [hhi] at g2 h1 h2
      obtain ⟨len, hlen⟩ : ∃ x, chLen streets k = x := ⟨_, rfl⟩
      have hlv : (len : Int) = hi - lo + 1 := by rw [← hlen, chLen, hlo, hhi]; omega
      have hl0 : 0 < len := by omega
      obtain ⟨q, hq⟩ : ∃ q, r % len = q := ⟨_, rfl⟩
      obtain ⟨r2, hr2⟩ : ∃ q, r / len = q := ⟨_, rfl⟩
      have hql : q < len := by rw [← hq]; exact Nat.mod_lt _ hl0
      have hm1 : (r : Int).tmod (len : Int) = (q : Int) := by rw [← hq]; rfl
      have hm2 : (r : Int).tdiv (len : Int) = (r2 : Int) := by rw [← hr2]; rfl
      have hr2b : r2 ≤ 100000 := by have := Nat.div_le_self r len; omega
      have HNX : Hid (remC streets N (k + 1) = r2 + k) := hid (by rw [remC, hr.out, hlen, hr2])
      have HV : Hid (CH k = lo + (q : Int)) := hid (by rw [← HCH.out, chV, hr.out, hlen, hlo, hq])
      have hwa : IntKind.i64.wrap (hi - lo) = hi - lo := IntWalk.i64_in _ (by omega)
      have hwb : IntKind.i64.wrap (hi - lo + 1) = (len : Int) := by rw [← hlv]; exact IntWalk.i64_in _ (by omega)
      have hwc : IntKind.i64.wrap (r2 : Int) = (r2 : Int) := IntWalk.i64_in _ (by omega)
      have hwd : IntKind.i64.wrap ((r2 : Int) + (k : Int)) = ((r2 + k : Nat) : Int) := by rw [← Int.natCast_add]; exact IntWalk.i64_in _ (by omega)
      have hwe : IntKind.i64.wrap (lo + (q : Int)) = lo + (q : Int) := IntWalk.i64_in _ (by omega)
      have hz2 : ¬ len = 0 := by omega
      have hk0 : (0 : Int) ≤ (k : Int) := by omega
      have hk1 : (k : Int) < (sn : Int) := by omega
      have HLV := hid hlv
      have hrb : remC streets N (k + 1) ≤ 100000 := by have := remC_le streets N (k + 1) (by omega); omega
      rw [HNX.out] at hrb
      clear hcell hlo hhi hlen hq hr2 hlv
      go_wp2
      refine wp_gen ?_
      intro w4 hw4
      have e4 : Ext wr w4 := by rw [hw4]; exact ext_alloc (ext_refl _) _
      have bn : w4.heap[wr.heap.size]? = some (.cells #[.int .i64 lo, .int .i64 hi] 73 (0, 0)) := by rw [hw4]; exact heap_alloc_new _ _
      have B4 := hid (ext_blk_keep e4 B2.out)
      clear hw4
      have hlt3 : wr.heap.size < w4.heap.size := (Array.getElem?_eq_some_iff.1 bn).1
      have hs0 : RowS (w.heap.size + 1) sn 3 w4 w4 := ⟨Kept.refl _ _, _, B4.out⟩
      have f1 : ∀ W, RowS (w.heap.size + 1) sn 3 w4 W → W.cell? ⟨wr.heap.size, 0, none⟩ = some (.int .i64 lo) := fun W h => by
        rw [World.cell?_of_block (w := w4) (h.1.blk wr.heap.size hlt3 (by omega)), blk_cell bn]; rfl
      have f2 : ∀ W, RowS (w.heap.size + 1) sn 3 w4 W → W.frozen? ⟨w.heap.size + 1, k, none⟩ = false := fun W h => h.frz k
      have f3 : ∀ W, RowS (w.heap.size + 1) sn 3 w4 W → W.cell? ⟨w.heap.size + 1, k, none⟩ = some (cellNow W (w.heap.size + 1) k) := fun W h => h.old (by omega)
      clear c1 g1 g2 bn
      go_region_held3 (fun W => RowS (w.heap.size + 1) sn 3 w4 W)
        (first | exact RowS.drew (by assumption) | assumption | exact RowS.set (by assumption))
        (fail)
      clear f1 f2 f3 hm1 hm2 hwa hwb hwc hwe
      have b2' := heap_set_at (j := k) (v := .int .i64 (lo + (q : Int))) B4.out (rowArr_set _ sn k (lo + (q : Int)) (fun i => if i < k + 1 then CH i else 0) (fun i => by
        by_cases e : i = k
        · subst e; rw [if_pos (by omega), if_pos rfl, HV.out]
        · rw [if_neg e]
          by_cases h' : i < k
          · rw [if_pos h', if_pos (by omega)]
          · rw [if_neg h', if_neg (by omega)]))
      have B5 := hid b2'
      clear b2'
      have B6 := hid (ext_blk_keep e4 B1.out)
      have hE4 := ext_trans hE e4
      go_wp2
      go_roundw
      case rel => exact ⟨k + 1, r2 + k, by omega, by go_num, HNX, hrb, by go_num, by go_grown, heap_set_keep (by omega) B6.out, B5.out⟩
      case measure => simp [intOf] <;> omega
    · obtain rfl : k = sn := by omega
      go_wp2
      go_ret
      refine ⟨w.heap.size + 1, rfl, by omega, ?_, hE⟩
      rw [B2.out]
      congr 2
      exact rowArr_all _ _
end
end Go.Proofs.YtlcakmbejjlmeaaGreat
/- Plain laws: a game lies between its ends. -/
set_option linter.unusedVariables false
set_option linter.unusedSimpArgs false
namespace Go.Proofs.YtlcakmbejjlmeaaGreat
open Go.RowKit
theorem minAt_mono (n : Nat) (lo m m' : Nat → Int) (start : Int) (walk : List Int) (h : ∀ i, m i ≤ m' i) : ∀ k, minAt n lo m start walk k ≤ minAt n lo m' start walk k
  | 0 => Int.le_refl _
  | k + 1 => by
    have ih := minAt_mono n lo m m' start walk h k
    have h1 := h (sIdx n (plAt n walk k) (at0 walk k).toNat)
    rw [minAt, minAt]
    omega
theorem minAt_home (n : Nat) (lo m : Nat → Int) (start : Int) (walk : List Int) (k : Nat) : lo (at0 walk k).toNat ≤ minAt n lo m start walk (k + 1) := by rw [minAt]; omega
theorem minAt_up (n : Nat) (lo m : Nat → Int) (start : Int) (walk : List Int) (h : ∀ i, 0 ≤ m i) (k : Nat) : minAt n lo m start walk k ≤ minAt n lo m start walk (k + 1) := by
  have h1 := h (sIdx n (plAt n walk k) (at0 walk k).toNat)
  rw [minAt]; omega
/-- The word's truth. -/
def chL (streets : List Rng) (N : Nat) : List Int := (List.range streets.length).map (chV streets N)
theorem chL_len (streets : List Rng) (N : Nat) : (chL streets N).length = streets.length := by simp [chL]
theorem chL_at (streets : List Rng) (N : Nat) {k : Nat} (h : k < streets.length) : at0 (chL streets N) k = chV streets N k := by simp [at0, chL, h]
theorem chV_bd {streets : List Rng} (N : Nat) {k : Nat} (h : rLo streets k ≤ rHi streets k) : rLo streets k ≤ chV streets N k ∧ chV streets N k ≤ rHi streets k := by
  have h1 : 0 < chLen streets k := by rw [chLen]; omega
  have h2 := Nat.mod_lt (remC streets N k) h1
  have h3 : (chLen streets k : Int) = rHi streets k - rLo streets k + 1 := by rw [chLen]; omega
  rw [chV]
  omega
theorem bnd_at {lim : Int} {l : List Rng} (h : bndT lim l = true) {k : Nat} (hk : k < l.length) : 0 ≤ rLo l k ∧ rLo l k ≤ rHi l k ∧ rHi l k ≤ lim := by
  rw [bndT, allT_iff] at h
  have h2 := h k hk
  rw [bndOk, Bool.and_eq_true, Bool.and_eq_true, decide_eq_true_eq, decide_eq_true_eq, decide_eq_true_eq] at h2
  exact ⟨h2.1.1, h2.1.2, h2.2⟩
theorem chL_truth {streets : List Rng} (h : bndT 60 streets = true) (N : Nat) : isTruthF streets (chL streets N) = true := by
  rw [isTruthF_iff]
  exact ⟨chL_len _ _, fun k hk => by rw [chL_at _ _ hk]; exact chV_bd N (bnd_at h hk).2.1⟩
/-- A truth's minutes lie between the ends. -/
theorem truth_mid {streets : List Rng} {t : List Int} (h : bndT 60 streets = true) (ht : isTruthF streets t = true) (i : Nat) : rngM (rLo streets) streets.length i ≤ rngM (at0 t) t.length i ∧ rngM (at0 t) t.length i ≤ rngM (rHi streets) streets.length i ∧ 0 ≤ rngM (at0 t) t.length i := by
  rw [isTruthF_iff] at ht
  unfold rngM
  rw [ht.1]
  by_cases hi : i < streets.length
  · simp only [hi, if_true]
    have h1 := ht.2 i hi
    have h2 := bnd_at h hi
    omega
  · simp [hi]
section
variable {women : List Wom} {pieces : List Pce} {wrong : Int} {home streets : List Rng} {start calls : Int}
theorem lateC_cases (he : errE women pieces wrong home streets start calls = 0) {l : List Int} (h : WalkOk women.length l) :
    lateC women pieces wrong home streets start calls l = 0 ∨ (lateC women pieces wrong home streets start calls l = 7 ∧ ∀ k, k < l.length → minAt women.length (rLo home) (rngM (rHi streets) streets.length) start l (k + 1) ≤ rHi home (at0 l k).toNat) := by
  rw [lateC, if_pos (walkC_zero he h)]
  split
  · rename_i hl
    refine .inr ⟨rfl, fun k hk => ?_⟩
    rw [lateF] at hl
    have h1 := (firstT_spec (lateP women.length home (rngM (rHi streets) streets.length) start l) l.length).2.1 k (by rw [hl]; exact hk)
    simpa [lateP] using h1
  · exact .inl rfl
end
end Go.Proofs.YtlcakmbejjlmeaaGreat
/- Plain laws: the quicker game. -/
set_option linter.unusedVariables false
set_option linter.unusedSimpArgs false
namespace Go.Proofs.YtlcakmbejjlmeaaGreat
open Go.RowKit
theorem minAt_mono2 (n : Nat) (lo m m' : Nat → Int) (start start' : Int) (walk : List Int) (h : ∀ i, m i ≤ m' i) (hs : start ≤ start') : ∀ k, minAt n lo m start walk k ≤ minAt n lo m' start' walk k
  | 0 => hs
  | k + 1 => by
    have ih := minAt_mono2 n lo m m' start start' walk h hs k
    have h1 := h (sIdx n (plAt n walk k) (at0 walk k).toNat)
    rw [minAt, minAt]
    omega
def qkV (streets : List Rng) (N N2 k : Nat) : Int := min (chV streets N k) (chV streets N2 k)
def qkL (streets : List Rng) (N N2 : Nat) : List Int := (List.range streets.length).map (qkV streets N N2)
theorem qkL_len (streets : List Rng) (N N2 : Nat) : (qkL streets N N2).length = streets.length := by simp [qkL]
theorem qkL_at (streets : List Rng) (N N2 : Nat) {k : Nat} (h : k < streets.length) : at0 (qkL streets N N2) k = qkV streets N N2 k := by simp [at0, qkL, h]
theorem qkL_truth {streets : List Rng} (h : bndT 60 streets = true) (N N2 : Nat) : isTruthF streets (qkL streets N N2) = true := by
  rw [isTruthF_iff]
  refine ⟨qkL_len _ _ _, fun k hk => ?_⟩
  rw [qkL_at _ _ _ hk]
  have h1 := chV_bd N (bnd_at h hk).2.1
  have h2 := chV_bd N2 (bnd_at h hk).2.1
  unfold qkV
  omega
theorem qkL_le (streets : List Rng) (N N2 : Nat) (i : Nat) : rngM (at0 (qkL streets N N2)) (qkL streets N N2).length i ≤ rngM (at0 (chL streets N)) (chL streets N).length i := by
  rw [qkL_len, chL_len]
  unfold rngM
  by_cases hi : i < streets.length
  · simp only [hi, if_true]
    rw [qkL_at _ _ _ hi, chL_at _ _ hi]
    unfold qkV
    omega
  · simp [hi]
theorem errE_start {women : List Wom} {pieces : List Pce} {wrong : Int} {home streets : List Rng} {start calls : Int} (he : errE women pieces wrong home streets start calls = 0) {st : Int} (h0 : 0 ≤ st) (h1 : st ≤ 1439) : errE women pieces wrong home streets st calls = 0 := by
  obtain ⟨a1, a2, a3, a4, a5, a6, _, _, a9, a10⟩ := errE_zero he
  rw [errE, if_neg (by rw [a1]; simp), if_neg (by omega), if_pos]
  refine ⟨a5, a6, a4, ?_⟩
  rw [a9, a10, decide_eq_true h0, decide_eq_true h1]
  rfl
theorem ints_row {W : World} {B n : Nat} {f : Nat → Int} (h : W.heap[B]? = some (.cells (rowArr f n) 3 (0, 0))) (hn : n ≤ 1000) : IsInts W (.slice (some ⟨B, 0, none⟩) n n) ((List.range n).map f) := by
  refine ⟨by simp; omega, some ⟨B, 0, none⟩, n, by simp, fun hp => ⟨B, 0, rfl, fun i hi => ?_⟩⟩
  simp only [List.length_map, List.length_range] at hi
  rw [Nat.zero_add, blk_cell h, rowArr_at f hi]
  simp [at0, hi]
end Go.Proofs.YtlcakmbejjlmeaaGreat
