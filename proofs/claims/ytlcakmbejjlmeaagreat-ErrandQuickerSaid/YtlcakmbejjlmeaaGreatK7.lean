/- The contracts of the reference's In, Has, WomenOf, Many. -/
import Derived.Test.YtlcakmbejjlmeaaGreatK2
import Derived.StillTailTactics
import Derived.Test.YtlcakmbejjlmeaaGreatK5
set_option linter.unusedVariables false
set_option linter.unusedSimpArgs false
namespace Go.Proofs.YtlcakmbejjlmeaaGreat
open Go.RowKit

set_option maxHeartbeats 400000 in
theorem in_c (n lo hi : Int) (w : World) : Calls Tryz.prog 58 #[.int .i64 n, .int .i64 lo, .int .i64 hi] w fun e w' => e = .returned (.bool (decide (lo ≤ n) && decide (n ≤ hi))) ∧ w = w' := by
  by_cases h1 : lo ≤ n
  all_goals
    go_enter Tryz.func58, Tryz.ntmps58
    go_wp2
    go_ret
    exact ⟨ret_bool (by simp <;> omega), rfl⟩
/-- The same, one answer named. -/
theorem in_b (n lo hi : Int) (x : Bool) (hx : Hid ((decide (lo ≤ n) && decide (n ≤ hi)) = x)) (w : World) : Calls Tryz.prog 58 #[.int .i64 n, .int .i64 lo, .int .i64 hi] w fun e w' => e = .returned (.bool x) ∧ w = w' :=
  (in_c n lo hi w).mono fun e w' ⟨h1, h2⟩ => ⟨by rw [h1, hx.out], h2⟩

set_option maxHeartbeats 800000 in
theorem hasR_c (v : Value) (xs : List Int) (x : Int) (w : World) (hv : IsInts w v xs) :
    Calls Tryz.prog 49 #[v, .int .i64 x] w fun e w' => e = .returned (.bool (hasF xs x)) ∧ w = w' := by
  have KV := hid hv
  obtain ⟨V, vc, rfl⟩ := hv.val
  have hwl := hv.1
  clear hv
  go_enter Tryz.func49, Tryz.ntmps49
  go_wp2
  go_loop [5] (fun i => ∃ k : Nat, k ≤ xs.length ∧ i = .int .i64 k ∧ Hid (∀ j, j < k → decide (x = at0 xs j) = false)) (fun i => xs.length - (intOf i).toNat)
  case atStart => exact ⟨0, Nat.zero_le _, rfl, hid fun j hj => absurd hj (Nat.not_lt_zero j)⟩
  case round =>
    obtain ⟨k, hk, rfl, HN⟩ := hrel
    by_cases hlt : k < xs.length
    · obtain ⟨b, o, hV, hcell⟩ := KV.out.at (by omega)
      subst hV
      have hcw := hcell k hlt
      obtain ⟨y, hy⟩ : ∃ y, at0 xs k = y := ⟨_, rfl⟩
      rw [hy] at hcw
      have HY := hid hy
      clear hcell hy
      by_cases he : y = x
      · subst he
        go_wp2
        go_ret
        refine ⟨ret_bool ?_, rfl⟩
        rw [hasF, firstT_at (k := k) (by rw [HY.out]; simp) HN.out hlt, decide_eq_true hlt]
      · have h5 : (y == x) = false := beq_eq_false_iff_ne.2 he
        go_wp2
        go_round
        case rel => exact ⟨k + 1, hlt, by go_num, hid (lt_or_eq_all HN.out (by rw [HY.out]; simpa using fun h => he h.symm))⟩
        case measure => simp [intOf]; omega
    · obtain rfl : k = xs.length := by omega
      go_wp2
      go_ret
      refine ⟨ret_bool ?_, rfl⟩
      rw [hasF, firstT_none HN.out]
      simp
theorem hasR_b (v : Value) (xs : List Int) (x : Int) (y : Bool) (hy : Hid (hasF xs x = y)) (w : World) (hv : IsInts w v xs) :
    Calls Tryz.prog 49 #[v, .int .i64 x] w fun e w' => e = .returned (.bool y) ∧ w = w' :=
  (hasR_c v xs x w hv).mono fun e w' ⟨h1, h2⟩ => ⟨by rw [h1, hy.out], h2⟩

section
variable (A : Option Addr) (n wc : Nat) (women : List Wom) (S : Option Addr) (pn pc : Nat) (pieces : List Pce) (wrong : Int)
/-- A table's two lists lie in memory. -/
structure TabAt (w : World) (A : Option Addr) (n wc : Nat) (S : Option Addr) (pn pc : Nat) (women : List Wom) (pieces : List Pce) : Prop where
  W : IsWoms w (.slice A n wc) women
  wl : women.length = n
  P : IsPces w (.slice S pn pc) pieces
  pl : pieces.length = pn
  n3 : n ≤ 1000
  p3 : pn ≤ 1000
theorem TabAt.ext {w w' : World} {A : Option Addr} {n wc : Nat} {S : Option Addr} {pn pc : Nat} {women : List Wom} {pieces : List Pce} (h : TabAt w A n wc S pn pc women pieces) (e : Ext w w') : TabAt w' A n wc S pn pc women pieces :=
  ⟨h.W.ext e, h.wl, h.P.ext e, h.pl, h.n3, h.p3⟩
set_option maxHeartbeats 1600000 in
set_option maxRecDepth 100000 in
theorem womenOf_c (w : World) (h : TabAt w A n wc S pn pc women pieces) (p : Nat) (hp : p < pn) :
    Calls Tryz.prog 129 #[.agg #[.slice A n wc, .slice S pn pc, .int .i64 wrong], .int .i64 p] w
      fun e w' => ∃ v, e = .returned v ∧ IsInts w' v (ofF women (pMs pieces p)) ∧ Ext w w' ∧ ∀ b, v.ownBlock = some b → w.heap.size ≤ b ∧ b < w'.heap.size := by
  have KT := hid h
  have hn := h.n3
  have hpn := h.p3
  clear h
  obtain ⟨marks, hms⟩ : ∃ m, pMs pieces p = m := ⟨_, rfl⟩
  have HMS := hid hms
  rw [hms]
  clear hms
  have hp0 : (0 : Int) ≤ (p : Int) := by omega
  have hp1 : (p : Int) < (pn : Int) := by omega
  go_enter Tryz.func129, Tryz.ntmps129
  go_wp2
  go_loopw [5, 6] (fun out i wr => ∃ k : Nat, k ≤ n ∧ i = .int .i64 k ∧ wr.ownsRow (w.heap.size + 1) 3 1 out (ofK women marks k).length ((ofK women marks k).map (Value.int .i64)) ∧ Ext w wr ∧ w.heap.size + 1 ≤ wr.heap.size ∧ wr.heap[w.heap.size]? = some (.cells #[.slice A n wc, .slice S pn pc, .int .i64 wrong] 25 (0, 0))) (fun _ i _ => n - (intOf i).toNat)
  case atStart => exact ⟨0, Nat.zero_le _, rfl, (by unfold ofK; exact own_nil _ _ _ _), by go_grown, by simp, (by repeat (first | exact heap_alloc_at _ _ (by simp) | refine heap_alloc_keep ?_))⟩
  case round =>
    obtain ⟨k, hk, rfl, hown, hE, hsz, b1⟩ := hrel
    have HO := hid hown
    have B1 := hid b1
    have f1 := ext_blk b1
    have hn1 : w.heap.size < wr.heap.size := by omega
    clear hown b1
    by_cases hlt : k < n
    · obtain ⟨b, o, hV, hcell⟩ := (KT.out.W.ext hE).at (by omega)
      subst hV
      obtain ⟨pb, po, hP, hpc⟩ := (KT.out.P.ext hE).at (by omega)
      subst hP
      obtain ⟨mv, m1, m2, m3⟩ := hpc p hp
      rw [HMS.out] at m2
      obtain ⟨MA, Mc, rfl⟩ := m2.val
      have g1 := ext_cell (hcell k hlt).1 (ext_refl wr) (Nat.le_refl _)
      have g2 := ext_cell m1 (ext_refl wr) (Nat.le_refl _)
      have HM := hid m2
      have hs := ofK_succ women marks k
      have hol := ofK_len women marks k
      obtain ⟨mk, hmk⟩ : ∃ x, wMk women k = x := ⟨_, rfl⟩
      rw [hmk] at g1 hs
      obtain ⟨x, hx⟩ : ∃ x, hasF marks mk = x := ⟨_, rfl⟩
      rw [hx] at hs
      have HX := hid hx
      have HS := hid hs
      have hi0 : (0 : Int) ≤ (k : Int) := by omega
      have hi1 : (k : Int) < (n : Int) := by omega
      have e0 : Ext wr wr := ext_refl wr
      clear hcell hpc m1 m2 m3 hx hs hmk
      go_wp2
      go_region_held3 (fun W => Ext wr W)
        (first | exact Below.drew (by assumption) | assumption)
        ((go_at_call 49; refine (hasR_b _ marks mk x HX _ (HM.out.ext (by first | assumption | exact Below.drew (by assumption)))).mono ?_; rintro e w1 ⟨rfl, rfl⟩))
      all_goals clear f1 g1 g2
      all_goals
        obtain ⟨W1, hW1⟩ : ∃ W1, wr.drew = W1 := ⟨_, rfl⟩
        have hE1 : Ext wr W1 := by rw [← hW1]; exact Below.drew e0
        rw [hW1]
        clear hW1
        have hs1 := hE1.size
        have hO1 := own_ext HO.out hE1
        have b1 := ext_blk_keep hE1 B1.out
        have HO1 := hid hO1
        have B2 := hid b1
        clear hO1 b1
        cases x
        · go_wp2
          go_roundw
          case rel => exact ⟨k + 1, hlt, by go_num, by rw [HS.out]; simp only [Bool.false_eq_true, if_false, List.append_nil]; exact HO1.out, ext_trans hE hE1, by omega, B2.out⟩
          case measure => simp [intOf]; omega
        · go_wp2_with (at_builtin; refine app_intH rfl _ _ 29 3 rfl Tryz.underlying29 info_int (w.heap.size + 1) _ (ofK women marks k).length (ofK women marks k) (k : Int) _ rfl rfl (by simp) (by exact HO1.out) (by omega) (by omega) ?_; intro g cap w2 hown2 hB2 hg2 hlt2 hbg2)
          go_roundw
          case rel => exact ⟨k + 1, hlt, by go_num, by rw [HS.out]; simpa using hown2, (ext_trans hE hE1).trans (hB2.mono (by omega)), by have := hB2.size; omega, by rw [hB2.block _ (by omega)]; exact B2.out⟩
          case measure => simp [intOf]; omega
    · obtain rfl : k = n := by omega
      have c1 := blk_cell B1.out
      go_wp2
      go_ret
      refine ⟨_, rfl, ?_, hE, fun b hb => by have h := own_block HO.out b hb; omega⟩
      have := KT.out.wl
      subst this
      exact own_ints (xs := ofF women marks) HO.out (by have := ofK_len women marks women.length; unfold ofF; omega)

set_option maxHeartbeats 1600000 in
set_option maxRecDepth 100000 in
theorem many_c (w : World) (h : TabAt w A n wc S pn pc women pieces) :
    Calls Tryz.prog 113 #[.agg #[.slice A n wc, .slice S pn pc, .int .i64 wrong]] w
      fun e w' => e = .returned (.int .i64 (manyR women pieces pn)) ∧ Ext w w' := by
  have KT := hid h
  have hn := h.n3
  have hpn := h.p3
  clear h
  go_enter Tryz.func113, Tryz.ntmps113
  go_wp2
  go_loopw [3, 4] (fun m i wr => ∃ k : Nat, k ≤ pn ∧ i = .int .i64 k ∧ m = .int .i64 (manyR women pieces k) ∧ Ext w wr ∧ wr.heap[w.heap.size]? = some (.cells #[.slice A n wc, .slice S pn pc, .int .i64 wrong] 25 (0, 0))) (fun _ i _ => pn - (intOf i).toNat)
  case atStart => exact ⟨0, Nat.zero_le _, rfl, rfl, by go_grown, (by repeat (first | exact heap_alloc_at _ _ (by simp) | refine heap_alloc_keep ?_))⟩
  case round =>
    obtain ⟨k, hk, rfl, rfl, hE, b1⟩ := hrel
    have c1 := blk_cell b1
    have B1 := hid b1
    clear b1
    have hm := manyR_bd women pieces k
    by_cases hlt : k < pn
    · have hol := ofK_len women (pMs pieces k) women.length
      have hL := KT.out.wl
      have hmm : Hid (min 3000 (manyR women pieces k * ((ofF women (pMs pieces k)).length : Int)) = manyR women pieces (k + 1)) := hid rfl
      have hmul : 0 ≤ manyR women pieces k * ((ofF women (pMs pieces k)).length : Int) := Int.mul_nonneg hm.1 (Int.natCast_nonneg _)
      have hmul2 : manyR women pieces k * ((ofF women (pMs pieces k)).length : Int) ≤ 3000 * 1000 := Int.mul_le_mul hm.2 (by unfold ofF; omega) (Int.natCast_nonneg _) (by decide)
      clear hL hol
      go_wp2_with (go_at_call 129; refine (womenOf_c A n wc women S pn pc pieces wrong _ (KT.out.ext hE) k hlt).mono ?_; rintro e w4 ⟨v, rfl, hv, hB4, _⟩; obtain ⟨V4, c4, rfl⟩ := hv.val)
      go_roundw
      case rel => exact ⟨k + 1, hlt, by go_num, by rw [← hmm.out]; exact congrArg _ (by split <;> omega), ext_trans hE hB4, ext_blk_keep hB4 B1.out⟩
      case measure => simp [intOf]; omega
    · obtain rfl : k = pn := by omega
      go_wp2
      go_ret
      exact ⟨rfl, hE⟩
end
end Go.Proofs.YtlcakmbejjlmeaaGreat
/- The contract of the reference's Nth. -/
set_option linter.unusedVariables false
set_option linter.unusedSimpArgs false
namespace Go.Proofs.YtlcakmbejjlmeaaGreat
open Go.RowKit

/-- The list of the owners of the first pieces. -/
def ownsL (pn : Nat) (o : Nat → Int) : List Int := (List.range pn).map o
theorem ownsL_len (pn : Nat) (o : Nat → Int) : (ownsL pn o).length = pn := by simp [ownsL]
theorem ownsL_at (pn : Nat) (o : Nat → Int) {i : Nat} (h : i < pn) : at0 (ownsL pn o) i = o i := by simp [ownsL, at0, h]
/-- A row of the call's own may change; nothing else does. -/
def RowS (B pn : Nat) (t : TypeId) (w W : World) : Prop := Kept (fun b => b = B) w W ∧ ∃ f : Nat → Int, W.heap[B]? = some (.cells (rowArr f pn) t (0, 0))
theorem RowS.drew {B pn : Nat} {t : TypeId} {w W : World} (h : RowS B pn t w W) : RowS B pn t w W.drew := ⟨h.1.ext ((ext_refl W).drew), h.2⟩
theorem RowS.set {B pn j : Nat} {t : TypeId} {w W : World} {x : Int} (h : RowS B pn t w W) : RowS B pn t w (W.setCell ⟨B, j, none⟩ (.int .i64 x)) := by
  obtain ⟨f, hf⟩ := h.2
  exact ⟨h.1.set _ rfl, upd f j x, heap_set_at hf (rowArr_set f pn j x _ (fun i => rfl))⟩
theorem RowS.frz {B pn : Nat} {t : TypeId} {w W : World} (h : RowS B pn t w W) (j : Nat) : W.frozen? ⟨B, j, none⟩ = false := by
  obtain ⟨f, hf⟩ := h.2
  exact frozen_of_row W _ j _ _ hf
/-- What a cell holds now. -/
def cellNow (W : World) (B j : Nat) : Value := (W.cell? ⟨B, j, none⟩).getD undef
theorem RowS.old {B pn j : Nat} {t : TypeId} {w W : World} (h : RowS B pn t w W) (hj : j < pn) : W.cell? ⟨B, j, none⟩ = some (cellNow W B j) := by
  obtain ⟨f, hf⟩ := h.2
  have : W.cell? ⟨B, j, none⟩ = some (.int .i64 (f j)) := by rw [blk_cell hf, rowArr_at _ hj]
  rw [cellNow, this]; rfl
theorem rowArr_none (pn : Nat) (g : Nat → Int) : rowArr (fun i => if pn ≤ i then g i else 0) pn = rowArr (fun _ => 0) pn := by
  unfold rowArr
  congr 1
  apply List.map_congr_left
  intro i hi
  show Value.int .i64 (if pn ≤ i then g i else 0) = _
  rw [if_neg (by simp at hi; omega)]
section
variable (A : Option Addr) (n wc : Nat) (women : List Wom) (S : Option Addr) (pn pc : Nat) (pieces : List Pce) (wrong : Int)
set_option maxHeartbeats 1600000 in
set_option maxRecDepth 100000 in
theorem nth_c (w : World) (h : TabAt w A n wc S pn pc women pieces) (hpos : ∀ p, p < pn → 0 < (ofF women (pMs pieces p)).length) (N : Nat) (hN : N ≤ 100000) :
    Calls Tryz.prog 114 #[.agg #[.slice A n wc, .slice S pn pc, .int .i64 wrong], .int .i64 N] w
      fun e w' => ∃ v, e = .returned v ∧ IsInts w' v (ownsL pn (nthO (fun i => ofF women (pMs pieces i)) pn N)) ∧ Ext w w' ∧ ∀ b, v.ownBlock = some b → w.heap.size ≤ b ∧ b < w'.heap.size := by
  have KT := hid h
  have HPOS := hid hpos
  have hpn := h.p3
  clear h hpos
  obtain ⟨C, hC⟩ : ∃ C, (fun i => ofF women (pMs pieces i)) = C := ⟨_, rfl⟩
  have HC := hid hC
  rw [hC]
  clear hC
  have hmk : ∀ W : World, (Instr.makeSlice 29 (.int .i64 (pn : Int)) (.int .i64 (pn : Int))).run Tryz.prog W = .ok (.slice (some ⟨W.heap.size, 0, none⟩) pn pn) (W.alloc (.cells (madeCells #[.int .i64 0] pn) 3)) := fun W =>
    run_make_row' 29 3 (.int .i64 0) 8 Tryz.underlying29 info_int rfl .i64 .i64 pn (by omega) (by omega) W
  rw [rowArr_made] at hmk
  go_enter Tryz.func114, Tryz.ntmps114
  go_wp2
  go_loopw [1, 6] (fun nv i wr => ∃ (j r : Nat) (z : Int), j ≤ pn ∧ z = (j : Int) - 1 ∧ i = .int .i64 z ∧ Hid (remN C pn N (pn - j) = r) ∧ r ≤ 100000 ∧ nv = .int .i64 (r : Int) ∧ Ext w wr ∧ wr.heap[w.heap.size]? = some (.cells #[.slice A n wc, .slice S pn pc, .int .i64 wrong] 25 (0, 0)) ∧ wr.heap[w.heap.size + 1]? = some (.cells (rowArr (fun i => if j ≤ i then nthO C pn N i else 0) pn) 3 (0, 0))) (fun _ i _ => (intOf i + 1).toNat)
  case atStart => exact ⟨pn, N, (pn : Int) - 1, Nat.le_refl _, rfl, rfl, hid (by rw [Nat.sub_self]; rfl), hN, rfl, by go_grown, (by repeat (first | exact heap_alloc_at _ _ (by simp) | refine heap_alloc_keep ?_)), by rw [rowArr_none]; exact (by repeat (first | exact heap_alloc_at _ _ (by simp) | refine heap_alloc_keep ?_))⟩
  case round =>
    obtain ⟨j, r, z, hj, hz, rfl, hr, hr0, rfl, hE, b1, b2⟩ := hrel
    have c1 := blk_cell b1
    have B1 := hid b1
    have B2 := hid b2
    clear b1 b2
    by_cases hlt : 0 < j
    · obtain ⟨p, rfl⟩ : ∃ p, j = p + 1 := ⟨j - 1, by omega⟩
      obtain rfl : z = (p : Int) := by omega
      clear hz
      go_wp2_with (go_at_call 129; refine (womenOf_c A n wc women S pn pc pieces wrong _ (KT.out.ext hE) p (by omega)).mono ?_; rintro e w4 ⟨v, rfl, hv, hB4, hob⟩; obtain ⟨V4, c4, rfl⟩ := hv.val)
      have hCp : Hid (ofF women (pMs pieces p) = C p) := hid (by rw [← HC.out])
      rw [hCp.out] at hv ⊢
      obtain ⟨len, hlen⟩ : ∃ len, (C p).length = len := ⟨_, rfl⟩
      have hl0 : 0 < len := by rw [← hlen, ← hCp.out]; exact HPOS.out p (by omega)
      rw [hlen] at hv ⊢
      have HLEN := hid hlen
      obtain ⟨q, hq⟩ : ∃ q, r % len = q := ⟨_, rfl⟩
      obtain ⟨r2, hr2⟩ : ∃ q, r / len = q := ⟨_, rfl⟩
      have hql : q < len := by rw [← hq]; exact Nat.mod_lt _ hl0
      obtain ⟨lb, lo, rfl, hlc⟩ := hv.at hl0
      have hlb := hob lb rfl
      have hqc := hlc q hql
      obtain ⟨x, hx⟩ : ∃ x, at0 (C p) q = x := ⟨_, rfl⟩
      rw [hx] at hqc
      have HX := hid hx
      have B4 := hid (ext_blk_keep hB4 B2.out)
      have hlt2 : w.heap.size + 1 < wr.heap.size := (Array.getElem?_eq_some_iff.1 B2.out).1
      have hs0 : RowS (w.heap.size + 1) pn 3 w4 w4 := ⟨Kept.refl _ _, _, B4.out⟩
      have f1 : ∀ W, RowS (w.heap.size + 1) pn 3 w4 W → W.cell? ⟨lb, lo + q, none⟩ = some (.int .i64 x) := fun W h => by
        rw [← hqc]; exact World.cell?_of_block (h.1.blk lb (by omega) (by omega))
      have f2 : ∀ W, RowS (w.heap.size + 1) pn 3 w4 W → W.frozen? ⟨w.heap.size + 1, p, none⟩ = false := fun W h => h.frz p
      have f3 : ∀ W, RowS (w.heap.size + 1) pn 3 w4 W → W.cell? ⟨w.heap.size + 1, p, none⟩ = some (cellNow W (w.heap.size + 1) p) := fun W h => h.old (by omega)
      have hm1 : (r : Int).tmod (len : Int) = (q : Int) := by rw [← hq]; rfl
      have hm2 : (r : Int).tdiv (len : Int) = (r2 : Int) := by rw [← hr2]; rfl
      have hq0 : (0 : Int) ≤ (q : Int) := by omega
      have hq1 : (q : Int) < (len : Int) := by omega
      have hp0 : (0 : Int) ≤ (p : Int) := by omega
      have hp1 : (p : Int) < (pn : Int) := by omega
      have HR2 := hid hr2
      have hz1 : ((len : Int) == 0) = false := by rw [beq_eq_false_iff_ne]; omega
      have hz2 : ¬ len = 0 := by omega
      have hr2b : r2 ≤ 100000 := by have := Nat.div_le_self r len; have := HR2.out; omega
      have hw1 : IntKind.i64.wrap (r2 : Int) = (r2 : Int) := IntWalk.i64_in _ (by omega)
      have HQ := hid hq
      clear hx hlc hqc hq hr2 hlen
      go_region_held3 (fun W => RowS (w.heap.size + 1) pn 3 w4 W)
        (first | exact RowS.drew (by assumption) | assumption | exact RowS.set (by assumption))
        (fail)
      clear f1 f2 f3 hm1 hm2 hw1
      have e4 : Ext w w4 := ext_trans hE hB4
      have hrem : Hid (remN C pn N (pn - p) = r2) := hid (by
        rw [show pn - p = pn - (p + 1) + 1 from by omega, remN, hr.out, show pn - 1 - (pn - (p + 1)) = p from by omega, HLEN.out, HR2.out])
      have hval : Hid (nthO C pn N p = x) := hid (by
        rw [nthO_rem _ _ _ _ (by omega), show pn - 1 - p = pn - (p + 1) from by omega, hr.out, HLEN.out, HQ.out, HX.out])
      have b2' := heap_set_at (j := p) (v := .int .i64 x) B4.out (rowArr_set _ pn p x (fun i => if p ≤ i then nthO C pn N i else 0) (fun i => by
        by_cases e : i = p
        · subst e; rw [if_pos (Nat.le_refl _), if_pos rfl, hval.out]
        · rw [if_neg e]
          by_cases h' : p ≤ i
          · rw [if_pos h', if_pos (by omega)]
          · rw [if_neg h', if_neg (by omega)]))
      have B5 := hid b2'
      clear b2'
      go_wp2
      go_roundw
      case rel => exact ⟨p, r2, (p : Int) - 1, by omega, rfl, rfl, hrem, hr2b, rfl, by go_grown, heap_set_keep (by omega) (ext_blk_keep hB4 B1.out), B5.out⟩
      case measure => simp [intOf] <;> omega
    · obtain rfl : j = 0 := by omega
      have hzn : ¬ (0 : Int) ≤ z := by omega
      clear hz
      go_wp2
      go_ret
      refine ⟨.slice (some ⟨w.heap.size + 1, 0, none⟩) pn pn, rfl, ⟨by rw [ownsL_len]; omega, some ⟨w.heap.size + 1, 0, none⟩, pn, by rw [ownsL_len], fun _ => ⟨_, 0, rfl, fun i hi => ?_⟩⟩, hE, fun b hb => ?_⟩
      · rw [ownsL_len] at hi
        rw [ownsL_at _ _ hi, blk_cell B2.out, Nat.zero_add, rowArr_at _ hi, if_pos (Nat.zero_le _)]
      · have hlt2 : w.heap.size + 1 < wr.heap.size := (Array.getElem?_eq_some_iff.1 B2.out).1
        have : w.heap.size + 1 = b := by simpa [Value.ownBlock] using hb
        omega
end
end Go.Proofs.YtlcakmbejjlmeaaGreat
/- The contracts of the reference's Own, Full, Right, Bits. -/
set_option linter.unusedVariables false
set_option linter.unusedSimpArgs false
namespace Go.Proofs.YtlcakmbejjlmeaaGreat
open Go.RowKit

set_option maxHeartbeats 800000 in
theorem ownR_c (v : Value) (xs : List Int) (q : Nat) (w : World) (hv : IsInts w v xs) (hl : xs.length ≤ 1000) :
    Calls Tryz.prog 150 #[v, .int .i64 (q : Int)] w fun e w' => e = .returned (.int .i64 (cntK (at0 xs) xs.length q)) ∧ w = w' := by
  have KV := hid hv
  obtain ⟨V, vc, rfl⟩ := hv.val
  clear hv
  go_enter Tryz.func150, Tryz.ntmps150
  go_wp2
  go_loop [5, 6] (fun m i => ∃ k : Nat, k ≤ xs.length ∧ i = .int .i64 k ∧ m = .int .i64 (cntK (at0 xs) k q)) (fun _ i => xs.length - (intOf i).toNat)
  case atStart => exact ⟨0, Nat.zero_le _, rfl, rfl⟩
  case round =>
    obtain ⟨k, hk, rfl, rfl⟩ := hrel
    by_cases hlt : k < xs.length
    · obtain ⟨b, o, hV, hcell⟩ := KV.out.at (by omega)
      subst hV
      have hcw := hcell k hlt
      obtain ⟨y, hy⟩ : ∃ y, at0 xs k = y := ⟨_, rfl⟩
      rw [hy] at hcw
      have hb := cntK_bd (at0 xs) q k
      have hs : Hid (cntK (at0 xs) (k + 1) q = cntK (at0 xs) k q + if y = (q : Int) then 1 else 0) := hid (by rw [cntK, hy])
      clear hcell hy
      by_cases he : y = (q : Int)
      · subst he
        go_wp2
        go_round
        case rel => exact ⟨k + 1, hlt, by go_num, by rw [hs.out, if_pos rfl]⟩
        case measure => simp [intOf]; omega
      · have h5 : (y == (q : Int)) = false := beq_eq_false_iff_ne.2 he
        go_wp2
        go_round
        case rel => exact ⟨k + 1, hlt, by go_num, by rw [hs.out, if_neg he, Int.add_zero]⟩
        case measure => simp [intOf]; omega
    · obtain rfl : k = xs.length := by omega
      go_wp2
      go_ret
      exact ⟨rfl, rfl⟩
set_option maxHeartbeats 800000 in
theorem full_c (A : Option Addr) (n wc : Nat) (pv : Value) (wrong : Int) (hn : n ≤ 5) (w : World) :
    Calls Tryz.prog 132 #[.agg #[.slice A n wc, pv, .int .i64 wrong]] w fun e w' => e = .returned (.int .i64 ((2 ^ n - 1 : Nat) : Int)) ∧ Ext w w' := by
  have : n = 0 ∨ n = 1 ∨ n = 2 ∨ n = 3 ∨ n = 4 ∨ n = 5 := by omega
  rcases this with rfl | rfl | rfl | rfl | rfl | rfl
  all_goals
    go_enter Tryz.func132, Tryz.ntmps132
    go_wp2
    go_ret
    exact ⟨rfl, by go_grown⟩
/-- Numbers by their bits. -/
def bitsN (P : Nat → Bool) : Nat → Nat
  | 0 => 0
  | k + 1 => bitsN P k + if P k then 2 ^ k else 0
theorem bitsN_lt (P : Nat → Bool) : ∀ k, bitsN P k < 2 ^ k
  | 0 => by simp [bitsN]
  | k + 1 => by have := bitsN_lt P k; rw [bitsN, Nat.pow_succ]; split <;> omega
/-- The numbers of bits. -/
def bitsF (x : Nat) (k : Nat) : List Int := selK (fun p => decide (x / 2 ^ p % 2 = 1)) k
theorem bitsF_stop {x k : Nat} (h : x < 2 ^ k) : ∀ d, bitsF x (k + d) = bitsF x k
  | 0 => rfl
  | d + 1 => by
    have h1 : x / 2 ^ (k + d) = 0 := Nat.div_eq_of_lt (Nat.lt_of_lt_of_le h (Nat.pow_le_pow_right (by decide) (by omega)))
    rw [← Nat.add_assoc, bitsF, selK_succ, h1, show selK (fun p => decide (x / 2 ^ p % 2 = 1)) (k + d) = bitsF x (k + d) from rfl, bitsF_stop h d]
    simp
set_option maxHeartbeats 800000 in
theorem bits_c (x : Nat) (hx : x < 32) (w : World) : Calls Tryz.prog 131 #[.int .i64 x] w fun e w' => ∃ v, e = .returned v ∧ IsInts w' v (bitsF x 5) ∧ Ext w w' := by
  go_enter Tryz.func131, Tryz.ntmps131
  go_wp2
  go_loopw [3, 4] (fun out i wr => ∃ k : Nat, k ≤ 5 ∧ i = .int .i64 k ∧ wr.ownsRow w.heap.size 3 1 out (bitsF x k).length ((bitsF x k).map (Value.int .i64)) ∧ Ext w wr) (fun _ i _ => 5 - (intOf i).toNat)
  case atStart => exact ⟨0, by omega, rfl, own_nil _ _ _ _, by go_grown⟩
  case round =>
    obtain ⟨k, hk, rfl, hown, hE⟩ := hrel
    have HO := hid hown
    clear hown
    have hs := selK_succ (fun p => decide (x / 2 ^ p % 2 = 1)) k
    have HS : Hid (bitsF x (k + 1) = bitsF x k ++ if decide (x / 2 ^ k % 2 = 1) = true then [(k : Int)] else []) := hid hs
    have hol : (bitsF x k).length ≤ k := selK_len _ _
    clear hs
    have hk' : k = 0 ∨ k = 1 ∨ k = 2 ∨ k = 3 ∨ k = 4 ∨ k = 5 := by omega
    rcases hk' with rfl | rfl | rfl | rfl | rfl | rfl
    · by_cases h1 : (0 : Int) < (x : Int)
      · by_cases h2 : (x : Int) % 2 = 1
        · go_wp2_with (at_builtin; refine app_intH rfl _ _ 29 3 rfl Tryz.underlying29 info_int w.heap.size _ (bitsF x 0).length (bitsF x 0) 0 _ rfl rfl (by simp) (by exact HO.out) (by exact hE.size) (by omega) ?_; intro g cap w2 hown2 hB2 hg2 hlt2 hbg2)
          go_roundw
          case rel => exact ⟨0 + 1, by omega, rfl, by rw [HS.out, if_pos (decide_eq_true (by omega))]; simpa using hown2, hE.trans hB2⟩
          case measure => simp [intOf] <;> omega
        · go_wp2
          go_roundw
          case rel => exact ⟨0 + 1, by omega, rfl, by rw [HS.out, if_neg (by simp <;> omega), List.append_nil]; exact HO.out, hE⟩
          case measure => (simp [intOf]) <;> omega
      · go_wp2
        go_ret
        exact ⟨_, rfl, by rw [show 5 = 0 + (5 - 0) from by omega, bitsF_stop (by omega)]; exact own_ints HO.out (by omega), hE⟩
    · by_cases h1 : (0 : Int) < ((x : Int) / 2)
      · by_cases h2 : ((x : Int) / 2) % 2 = 1
        · go_wp2_with (at_builtin; refine app_intH rfl _ _ 29 3 rfl Tryz.underlying29 info_int w.heap.size _ (bitsF x 1).length (bitsF x 1) 1 _ rfl rfl (by simp) (by exact HO.out) (by exact hE.size) (by omega) ?_; intro g cap w2 hown2 hB2 hg2 hlt2 hbg2)
          go_roundw
          case rel => exact ⟨1 + 1, by omega, rfl, by rw [HS.out, if_pos (decide_eq_true (by omega))]; simpa using hown2, hE.trans hB2⟩
          case measure => simp [intOf] <;> omega
        · go_wp2
          go_roundw
          case rel => exact ⟨1 + 1, by omega, rfl, by rw [HS.out, if_neg (by simp <;> omega), List.append_nil]; exact HO.out, hE⟩
          case measure => (simp [intOf]) <;> omega
      · go_wp2
        go_ret
        exact ⟨_, rfl, by rw [show 5 = 1 + (5 - 1) from by omega, bitsF_stop (by omega)]; exact own_ints HO.out (by omega), hE⟩
    · by_cases h1 : (0 : Int) < ((x : Int) / 4)
      · by_cases h2 : ((x : Int) / 4) % 2 = 1
        · go_wp2_with (at_builtin; refine app_intH rfl _ _ 29 3 rfl Tryz.underlying29 info_int w.heap.size _ (bitsF x 2).length (bitsF x 2) 2 _ rfl rfl (by simp) (by exact HO.out) (by exact hE.size) (by omega) ?_; intro g cap w2 hown2 hB2 hg2 hlt2 hbg2)
          go_roundw
          case rel => exact ⟨2 + 1, by omega, rfl, by rw [HS.out, if_pos (decide_eq_true (by omega))]; simpa using hown2, hE.trans hB2⟩
          case measure => simp [intOf] <;> omega
        · go_wp2
          go_roundw
          case rel => exact ⟨2 + 1, by omega, rfl, by rw [HS.out, if_neg (by simp <;> omega), List.append_nil]; exact HO.out, hE⟩
          case measure => (simp [intOf]) <;> omega
      · go_wp2
        go_ret
        exact ⟨_, rfl, by rw [show 5 = 2 + (5 - 2) from by omega, bitsF_stop (by omega)]; exact own_ints HO.out (by omega), hE⟩
    · by_cases h1 : (0 : Int) < ((x : Int) / 8)
      · by_cases h2 : ((x : Int) / 8) % 2 = 1
        · go_wp2_with (at_builtin; refine app_intH rfl _ _ 29 3 rfl Tryz.underlying29 info_int w.heap.size _ (bitsF x 3).length (bitsF x 3) 3 _ rfl rfl (by simp) (by exact HO.out) (by exact hE.size) (by omega) ?_; intro g cap w2 hown2 hB2 hg2 hlt2 hbg2)
          go_roundw
          case rel => exact ⟨3 + 1, by omega, rfl, by rw [HS.out, if_pos (decide_eq_true (by omega))]; simpa using hown2, hE.trans hB2⟩
          case measure => simp [intOf] <;> omega
        · go_wp2
          go_roundw
          case rel => exact ⟨3 + 1, by omega, rfl, by rw [HS.out, if_neg (by simp <;> omega), List.append_nil]; exact HO.out, hE⟩
          case measure => (simp [intOf]) <;> omega
      · go_wp2
        go_ret
        exact ⟨_, rfl, by rw [show 5 = 3 + (5 - 3) from by omega, bitsF_stop (by omega)]; exact own_ints HO.out (by omega), hE⟩
    · by_cases h1 : (0 : Int) < ((x : Int) / 16)
      · have h2 : ((x : Int) / 16) % 2 = 1 := by omega
        go_wp2_with (at_builtin; refine app_intH rfl _ _ 29 3 rfl Tryz.underlying29 info_int w.heap.size _ (bitsF x 4).length (bitsF x 4) 4 _ rfl rfl (by simp) (by exact HO.out) (by exact hE.size) (by omega) ?_; intro g cap w2 hown2 hB2 hg2 hlt2 hbg2)
        go_roundw
        case rel => exact ⟨4 + 1, by omega, rfl, by rw [HS.out, if_pos (decide_eq_true (by omega))]; simpa using hown2, hE.trans hB2⟩
        case measure => simp [intOf] <;> omega
      · go_wp2
        go_ret
        exact ⟨_, rfl, by rw [show 5 = 4 + (5 - 4) from by omega, bitsF_stop (by omega)]; exact own_ints HO.out (by omega), hE⟩
    · have h1 : ¬ (0 : Int) < (x : Int) / 32 := by omega
      go_wp2
      go_ret
      exact ⟨_, rfl, own_ints HO.out (by omega), hE⟩
theorem or_pow {a k : Nat} (h : a < 2 ^ k) : a ||| 2 ^ k = a + 2 ^ k := by
  have := Nat.two_pow_add_eq_or_of_lt h 1
  rw [Nat.mul_one] at this
  rw [Nat.or_comm, ← this, Nat.add_comm]
theorem bits_or {a k : Nat} (h : a < 2 ^ k) (hk : k ≤ 10) : bits .or .i64 (a : Int) ((2 ^ k : Nat) : Int) = ((a + 2 ^ k : Nat) : Int) := by
  have h1 : 2 ^ k ≤ 2 ^ 10 := Nat.pow_le_pow_right (by decide) hk
  rw [(bits_nat .i64 11 (by decide) (fun n h0 h1 => IntWalk.i64_in _ (by omega)) a (2 ^ k) (by omega) (by omega)).2, or_pow h]
section
variable (A : Option Addr) (n wc : Nat) (women : List Wom) (S : Option Addr) (pn pc : Nat) (pieces : List Pce) (wrong : Int)
set_option maxHeartbeats 1600000 in
set_option maxRecDepth 100000 in
theorem right_c (w : World) (h : TabAt w A n wc S pn pc women pieces) (hn5 : n ≤ 5) (v : Value) (l : List Int) (hv : IsInts w v l) (hl : l.length ≤ 1000) :
    Calls Tryz.prog 133 #[.agg #[.slice A n wc, .slice S pn pc, .int .i64 wrong], v] w
      fun e w' => e = .returned (.int .i64 ((bitsN (fun j => !misP women (at0 l) l.length j) n : Nat) : Int)) ∧ Ext w w' := by
  have KT := hid h
  have KV := hid hv
  obtain ⟨V, vc, rfl⟩ := hv.val
  clear h hv
  go_enter Tryz.func133, Tryz.ntmps133
  go_wp2
  go_loopw [5, 6] (fun m i wr => ∃ (k a : Nat), k ≤ n ∧ i = .int .i64 k ∧ m = .int .i64 (a : Int) ∧ Hid (bitsN (fun j => !misP women (at0 l) l.length j) k = a) ∧ Ext w wr ∧ wr.heap[w.heap.size]? = some (.cells #[.slice A n wc, .slice S pn pc, .int .i64 wrong] 25 (0, 0))) (fun _ i _ => n - (intOf i).toNat)
  case atStart => exact ⟨0, 0, Nat.zero_le _, rfl, rfl, hid rfl, by go_grown, (by repeat (first | exact heap_alloc_at _ _ (by simp) | refine heap_alloc_keep ?_))⟩
  case round =>
    obtain ⟨k, a, hk, rfl, rfl, ha, hE, b1⟩ := hrel
    have B1 := hid b1
    by_cases hlt : k < n
    · have f1 := ext_blk b1
      obtain ⟨b, o, hV, hcell⟩ := (KT.out.W.ext hE).at (by omega)
      subst hV
      have g1 := ext_cell (hcell k hlt).2.1 (ext_refl wr) (Nat.le_refl _)
      have g2 := ext_cell (hcell k hlt).2.2 (ext_refl wr) (Nat.le_refl _)
      obtain ⟨lo, hlo⟩ : ∃ x, wLo women k = x := ⟨_, rfl⟩
      obtain ⟨hi, hhi⟩ : ∃ x, wHi women k = x := ⟨_, rfl⟩
      rw [hlo] at g1
      rw [hhi] at g2
      obtain ⟨c, hc⟩ : ∃ x, cntK (at0 l) l.length k = x := ⟨_, rfl⟩
      obtain ⟨x, hx⟩ : ∃ x, (decide (lo ≤ c) && decide (c ≤ hi)) = x := ⟨_, rfl⟩
      have HX := hid hx
      have HC := hid hc
      have hs : Hid (bitsN (fun j => !misP women (at0 l) l.length j) (k + 1) = a + if x then 2 ^ k else 0) := hid (by rw [bitsN, ha.out]; simp only [misP, hlo, hhi, hc, hx, Bool.not_not])
      have hi0 : (0 : Int) ≤ (k : Int) := by omega
      have hi1 : (k : Int) < (n : Int) := by omega
      have e0 : Ext wr wr := ext_refl wr
      have hal : a < 2 ^ k := by rw [← ha.out]; exact bitsN_lt _ _
      clear b1 hcell hlo hhi hx hc
      go_wp2
      go_region_held3 (fun W => Ext wr W)
        (first | exact Below.drew (by assumption) | assumption)
        (first
          | (go_at_call 150; refine (ownR_c _ l k _ (KV.out.ext (ext_trans hE (by first | assumption | exact Below.drew (by assumption)))) hl).mono ?_; rintro e w1 ⟨rfl, rfl⟩; rw [HC.out])
          | (go_at_call 58; refine (in_b c lo hi x HX _).mono ?_; rintro e w2 ⟨rfl, rfl⟩))
      all_goals clear f1 g1 g2
      all_goals
        cases x
        · go_wp2
          go_roundw
          case rel => exact ⟨k + 1, a, hlt, by go_num, rfl, hid (by rw [hs.out]; simp), Below.drew hE, B1.out⟩
          case measure => simp [intOf]; omega
        · have hk' : k = 0 ∨ k = 1 ∨ k = 2 ∨ k = 3 ∨ k = 4 := by omega
          rcases hk' with rfl | rfl | rfl | rfl | rfl
          · have hor : bits .or .i64 (a : Int) 1 = ((a + 1 : Nat) : Int) := bits_or (k := 0) hal (by omega)
            go_wp2
            go_roundw
            case rel => exact ⟨0 + 1, a + 1, hlt, rfl, rfl, hid (by rw [hs.out]; rfl), Below.drew hE, B1.out⟩
            case measure => simp [intOf] <;> omega
          · have hor : bits .or .i64 (a : Int) 2 = ((a + 2 : Nat) : Int) := bits_or (k := 1) hal (by omega)
            go_wp2
            go_roundw
            case rel => exact ⟨1 + 1, a + 2, hlt, rfl, rfl, hid (by rw [hs.out]; rfl), Below.drew hE, B1.out⟩
            case measure => simp [intOf] <;> omega
          · have hor : bits .or .i64 (a : Int) 4 = ((a + 4 : Nat) : Int) := bits_or (k := 2) hal (by omega)
            go_wp2
            go_roundw
            case rel => exact ⟨2 + 1, a + 4, hlt, rfl, rfl, hid (by rw [hs.out]; rfl), Below.drew hE, B1.out⟩
            case measure => simp [intOf] <;> omega
          · have hor : bits .or .i64 (a : Int) 8 = ((a + 8 : Nat) : Int) := bits_or (k := 3) hal (by omega)
            go_wp2
            go_roundw
            case rel => exact ⟨3 + 1, a + 8, hlt, rfl, rfl, hid (by rw [hs.out]; rfl), Below.drew hE, B1.out⟩
            case measure => simp [intOf] <;> omega
          · have hor : bits .or .i64 (a : Int) 16 = ((a + 16 : Nat) : Int) := bits_or (k := 4) hal (by omega)
            go_wp2
            go_roundw
            case rel => exact ⟨4 + 1, a + 16, hlt, rfl, rfl, hid (by rw [hs.out]; rfl), Below.drew hE, B1.out⟩
            case measure => simp [intOf] <;> omega
    · obtain rfl : k = n := by omega
      have c1 := blk_cell B1.out
      clear b1
      go_wp2
      go_ret
      exact ⟨ret_int (by rw [ha.out]), hE⟩
end
end Go.Proofs.YtlcakmbejjlmeaaGreat
/- The contracts of the reference's AreOwners, IsTruth. -/
set_option linter.unusedVariables false
set_option linter.unusedSimpArgs false
namespace Go.Proofs.YtlcakmbejjlmeaaGreat
open Go.RowKit

/-- Which of the first k numbers are not the owner of a piece that could be hers? -/
def badO (women : List Wom) (pieces : List Pce) (l : List Int) (i : Nat) : Bool := !hasF (ofF women (pMs pieces i)) (at0 l i)
def areF (women : List Wom) (pieces : List Pce) (l : List Int) : Bool := decide (l.length = pieces.length) && decide (firstT (badO women pieces l) l.length = l.length)
theorem areF_iff (women : List Wom) (pieces : List Pce) (l : List Int) : areF women pieces l = true ↔ l.length = pieces.length ∧ ∀ i, i < l.length → at0 l i ∈ ofF women (pMs pieces i) := by
  unfold areF
  simp only [Bool.and_eq_true, decide_eq_true_eq]
  constructor
  · rintro ⟨h1, h2⟩
    refine ⟨h1, fun i hi => ?_⟩
    have := (firstT_spec (badO women pieces l) l.length).2.1 i (by omega)
    rw [← hasF_iff]
    simpa [badO] using this
  · rintro ⟨h1, h2⟩
    refine ⟨h1, firstT_none fun j hj => ?_⟩
    have := h2 j hj
    rw [← hasF_iff] at this
    simp [badO, this]
section
variable (A : Option Addr) (n wc : Nat) (women : List Wom) (S : Option Addr) (pn pc : Nat) (pieces : List Pce) (wrong : Int)
set_option maxHeartbeats 1600000 in
set_option maxRecDepth 100000 in
theorem areOwners_c (w : World) (h : TabAt w A n wc S pn pc women pieces) (v : Value) (l : List Int) (hv : IsInts w v l) (y : Bool) (hy : Hid (areF women pieces l = y)) :
    Calls Tryz.prog 130 #[.agg #[.slice A n wc, .slice S pn pc, .int .i64 wrong], v] w
      fun e w' => e = .returned (.bool y) ∧ Ext w w' := by
  have KT := hid h
  have KV := hid hv
  obtain ⟨V, vc, rfl⟩ := hv.val
  have hl2 := hv.1
  have hpn := h.p3
  obtain ⟨ln, hln⟩ : ∃ m, l.length = m := ⟨_, rfl⟩
  rw [hln] at KV hl2 ⊢
  have HLN := hid hln
  have hy0 : Hid (areF women pieces l = (decide (ln = pn) && decide (firstT (badO women pieces l) ln = ln))) := hid (by rw [areF, hln, h.pl])
  clear h hv hln
  by_cases he : ln = pn
  · subst he
    go_enter Tryz.func130, Tryz.ntmps130
    go_wp2
    go_loopw [5] (fun i wr => ∃ k : Nat, k ≤ ln ∧ i = .int .i64 k ∧ Hid (∀ j, j < k → badO women pieces l j = false) ∧ Ext w wr ∧ wr.heap[w.heap.size]? = some (.cells #[.slice A n wc, .slice S ln pc, .int .i64 wrong] 25 (0, 0))) (fun i _ => ln - (intOf i).toNat)
    case atStart => exact ⟨0, Nat.zero_le _, rfl, hid (fun j h => absurd h (Nat.not_lt_zero j)), by go_grown, (by repeat (first | exact heap_alloc_at _ _ (by simp) | refine heap_alloc_keep ?_))⟩
    case round =>
      obtain ⟨k, hk, rfl, hall, hE, b1⟩ := hrel
      have B1 := hid b1
      by_cases hlt : k < ln
      · have f1 := ext_blk b1
        obtain ⟨b, o, hV, hcell⟩ := (KV.out.ext hE).at (by omega)
        subst hV
        have g1 := ext_cell (hcell k hlt) (ext_refl wr) (Nat.le_refl _)
        obtain ⟨x, hx⟩ : ∃ x, at0 l k = x := ⟨_, rfl⟩
        rw [hx] at g1
        obtain ⟨z, hz⟩ : ∃ z, hasF (ofF women (pMs pieces k)) x = z := ⟨_, rfl⟩
        have HZ := hid hz
        have hbd : Hid (badO women pieces l k = !z) := hid (by rw [badO, hx, hz])
        have hi0 : (0 : Int) ≤ (k : Int) := by omega
        have hi1 : (k : Int) < (ln : Int) := by omega
        have e0 : Ext wr wr := ext_refl wr
        clear b1 hcell hx hz
        go_wp2
        go_region_held3 (fun W => Ext wr W)
          (first | exact Below.drew (by assumption) | assumption | exact ext_trans (by assumption) (by assumption))
          (first
            | (go_at_call 129; refine (womenOf_c A n wc women S ln pc pieces wrong _ (KT.out.ext (ext_trans hE (by first | assumption | exact Below.drew (by assumption)))) k hlt).mono ?_; rintro e w1 ⟨wv, rfl, hwv, hB1, _⟩; have HWV := hid hwv; clear hwv)
            | (go_at_call 49; refine (hasR_b _ _ x z HZ _ (HWV.out.ext (by first | exact ext_refl _ | assumption | exact Below.drew (ext_refl _)))).mono ?_; rintro e w2 ⟨rfl, rfl⟩))
        all_goals have e1 : Ext wr w1 := by assumption
        all_goals clear f1 g1
        all_goals
          cases z
          · go_wp2
            go_ret
            exact ⟨ret_bool (by rw [← hy.out, hy0.out, firstT_at (by rw [hbd.out]; rfl) hall.out hlt, decide_eq_false (show ¬ k = ln from by omega), Bool.and_false]), by have := ext_trans hE e1; go_grown⟩
          · go_wp2
            go_roundw
            case rel => exact ⟨k + 1, hlt, by go_num, hid (lt_or_eq_all hall.out (by rw [hbd.out]; rfl)), by have := ext_trans hE e1; go_grown, ext_blk_keep e1 B1.out⟩
            case measure => simp [intOf]; omega
      · obtain rfl : k = ln := by omega
        go_wp2
        go_ret
        exact ⟨ret_bool (by rw [← hy.out, hy0.out, firstT_none hall.out]; simp), hE⟩
  · have hd : ((ln : Int) != (pn : Int)) = true := by rw [bne_iff_ne]; omega
    go_enter Tryz.func130, Tryz.ntmps130
    go_wp2
    go_ret
    exact ⟨ret_bool (by rw [← hy.out, hy0.out, decide_eq_false he]; rfl), by go_grown⟩
end
end Go.Proofs.YtlcakmbejjlmeaaGreat
/- The contract of the reference's IsTruth. -/
set_option linter.unusedVariables false
set_option linter.unusedSimpArgs false
namespace Go.Proofs.YtlcakmbejjlmeaaGreat
open Go.RowKit

/-- A function of five bools. -/
def pick5 (a b c d e : Bool) : Nat → Bool
  | 0 => a
  | 1 => b
  | 2 => c
  | 3 => d
  | _ => e
theorem bitsN_congr {P Q : Nat → Bool} : ∀ k, (∀ j, j < k → P j = Q j) → bitsN P k = bitsN Q k
  | 0, _ => rfl
  | k + 1, h => by rw [bitsN, bitsN, bitsN_congr k (fun j hj => h j (by omega)), h k (by omega)]
theorem selK_congr {P Q : Nat → Bool} : ∀ k, (∀ j, j < k → P j = Q j) → selK P k = selK Q k
  | 0, _ => rfl
  | k + 1, h => by rw [selK_succ, selK_succ, selK_congr k (fun j hj => h j (by omega)), h k (by omega)]
theorem sel5_all : ∀ (n : Fin 6) (a b c d e : Bool), bitsF (2 ^ n.val - 1 - bitsN (fun j => !pick5 a b c d e j) n.val) 5 = selK (pick5 a b c d e) n.val := by decide +kernel
theorem sel5 (P : Nat → Bool) (n : Nat) (hn : n ≤ 5) : bitsF (2 ^ n - 1 - bitsN (fun j => !P j) n) 5 = selK P n := by
  have h : ∀ j, j < n → P j = pick5 (P 0) (P 1) (P 2) (P 3) (P 4) j := fun j hj => by
    have : j = 0 ∨ j = 1 ∨ j = 2 ∨ j = 3 ∨ j = 4 := by omega
    rcases this with rfl | rfl | rfl | rfl | rfl <;> rfl
  rw [bitsN_congr (Q := fun j => !pick5 (P 0) (P 1) (P 2) (P 3) (P 4) j) n (fun j hj => by rw [h j hj]), selK_congr n h]
  exact sel5_all ⟨n, by omega⟩ (P 0) (P 1) (P 2) (P 3) (P 4)
theorem andNot5_all : ∀ (n : Fin 6) (r : Fin 32), r.val < 2 ^ n.val → bits .andNot .i64 ((2 ^ n.val - 1 : Nat) : Int) (r.val : Int) = ((2 ^ n.val - 1 - r.val : Nat) : Int) := by decide +kernel
theorem andNot5 {n r : Nat} (hn : n ≤ 5) (hr : r < 2 ^ n) : bits .andNot .i64 ((2 ^ n - 1 : Nat) : Int) (r : Int) = ((2 ^ n - 1 - r : Nat) : Int) := by
  have h1 : 2 ^ n ≤ 2 ^ 5 := Nat.pow_le_pow_right (by decide) hn
  exact andNot5_all ⟨n, by omega⟩ ⟨r, by omega⟩ hr
def isTruR (women : List Wom) (pieces : List Pce) (wrong : Int) (l : List Int) : Bool := areF women pieces l && decide (((wrongF women (at0 l) l.length).length : Int) ≤ wrong)
section
variable (A : Option Addr) (n wc : Nat) (women : List Wom) (S : Option Addr) (pn pc : Nat) (pieces : List Pce) (wrong : Int)
set_option maxHeartbeats 3200000 in
set_option maxRecDepth 100000 in
theorem isTruthR_c (w : World) (h : TabAt w A n wc S pn pc women pieces) (hn5 : n ≤ 5) (v : Value) (l : List Int) (hv : IsInts w v l) (hl : l.length ≤ 1000) (y : Bool) (hy : Hid (isTruR women pieces wrong l = y)) :
    Calls Tryz.prog 115 #[.agg #[.slice A n wc, .slice S pn pc, .int .i64 wrong], v] w
      fun e w' => e = .returned (.bool y) ∧ Ext w w' := by
  have KT := hid h
  have KV := hid hv
  obtain ⟨V, vc, rfl⟩ := hv.val
  have HWL := hid h.wl
  clear h hv
  obtain ⟨z, hz⟩ : ∃ z, areF women pieces l = z := ⟨_, rfl⟩
  have HZ := hid hz
  obtain ⟨r, hr⟩ : ∃ r, bitsN (fun j => !misP women (at0 l) l.length j) n = r := ⟨_, rfl⟩
  have HR := hid hr
  have hrl : r < 2 ^ n := by rw [← hr]; exact bitsN_lt _ _
  obtain ⟨q, hq⟩ : ∃ q, 2 ^ n - 1 = q := ⟨_, rfl⟩
  obtain ⟨d, hd⟩ : ∃ d, q - r = d := ⟨_, rfl⟩
  have han : bits .andNot .i64 (q : Int) (r : Int) = (d : Int) := by rw [← hd, ← hq]; exact andNot5 hn5 hrl
  have hd32 : d < 32 := by have : 2 ^ n ≤ 2 ^ 5 := Nat.pow_le_pow_right (by decide) hn5; omega
  have HQ := hid hq
  obtain ⟨m, hm⟩ : ∃ m, (bitsF d 5).length = m := ⟨_, rfl⟩
  have HM := hid hm
  have hm5 : m ≤ 5 := by rw [← hm]; exact selK_len _ _
  have hmw : Hid ((wrongF women (at0 l) l.length).length = m) := hid (by rw [wrongF, HWL.out, ← hm, ← hd, ← hq, ← hr, sel5 _ _ hn5])
  obtain ⟨x, hx⟩ : ∃ x, decide ((m : Int) ≤ wrong) = x := ⟨_, rfl⟩
  have HY : Hid ((z && x) = y) := hid (by rw [← hy.out, isTruR, hz, hmw.out, hx])
  clear hz hr hq hd hm hrl hy
  have hW0 : Ext w (w.alloc (.cells #[.slice A n wc, .slice S pn pc, .int .i64 wrong] 25)) := by go_grown
  obtain ⟨W0, hWd⟩ : ∃ W0, w.alloc (.cells #[.slice A n wc, .slice S pn pc, .int .i64 wrong] 25) = W0 := ⟨_, rfl⟩
  have b1 : W0.heap[w.heap.size]? = some (.cells #[.slice A n wc, .slice S pn pc, .int .i64 wrong] 25 (0, 0)) := by rw [← hWd]; exact (by repeat (first | exact heap_alloc_at _ _ (by simp) | refine heap_alloc_keep ?_))
  rw [hWd] at hW0
  have f1 := ext_blk b1
  have HW0 := hid hWd
  clear hWd b1
  have e0 : Ext W0 W0 := ext_refl W0
  go_enter Tryz.func115, Tryz.ntmps115
  go_wp2
  rw [HW0.out]
  cases z
  · refine region_plainR (fun W => Ext W0 W) 17 #[false, false, false, false, false, false, false, false, false, false, false, false, false, false, false, false, false] (by kernel_rfl) (by kernel_rfl) (by kernel_rfl) (fun R HRR => ?_)
    obtain ⟨V0, hV0⟩ : ∃ V0, W0.drew = V0 := ⟨_, rfl⟩
    have y0 : Ext W0 V0 := by rw [← hV0]; exact e0.drew
    rw [hV0]
    clear hV0
    refine takeR (i := 0) (oi := ?_) (v := ?_) ?_ (by kernel_rfl) (by kernel_rfl) (by kernel_rfl) ?_ ?_ (by assumption) ?_
    rotate_left 2
    · simp only [List.getElem?_toArray, List.getElem?_cons_succ, List.getElem?_cons_zero]; rfl
    · kernel_rfl
    · intro Wx hSx
      try dsimp only at hSx
      go_simp
      try with_reducible rfl
    simp only [Act.put, List.setIfInBounds_toArray, List.set_cons_zero, List.set_cons_succ]
    refine takeR (i := 1) (oi := ?_) (v := ?_) ?_ (by kernel_rfl) (by kernel_rfl) (by kernel_rfl) ?_ ?_ (by assumption) ?_
    rotate_left 2
    · simp only [List.getElem?_toArray, List.getElem?_cons_succ, List.getElem?_cons_zero]; rfl
    · kernel_rfl
    · intro Wx hSx
      try dsimp only at hSx
      go_simp
      try with_reducible rfl
    simp only [Act.put, List.setIfInBounds_toArray, List.set_cons_zero, List.set_cons_succ]
    refine wpAnyH_ready (rs := [2]) (by kernel_rfl) (by simp) ?_
    refine AllReadyH.cons (o := ?_) ?_ (fun K hK => ?_) AllReadyH.nil
    rotate_left
    · simp only [List.getElem?_toArray, List.getElem?_cons_succ, List.getElem?_cons_zero]; rfl
    go_simp
    refine (areOwners_c A n wc women S pn pc pieces wrong _ (KT.out.ext (ext_trans hW0 y0)) _ l (KV.out.ext (ext_trans hW0 y0)) false HZ).mono ?_
    rintro e w1 ⟨rfl, hB1⟩
    have y1 : Ext W0 w1 := ext_trans y0 hB1
    refine hK.out _ _ y1 (fun hHeld => ?_)
    clear hK K
    simp only [Act.put, List.setIfInBounds_toArray, List.set_cons_zero, List.set_cons_succ]
    refine takeR (i := 3) (oi := ?_) (v := ?_) ?_ (by kernel_rfl) (by kernel_rfl) (by kernel_rfl) ?_ ?_ (by assumption) ?_
    rotate_left 2
    · simp only [List.getElem?_toArray, List.getElem?_cons_succ, List.getElem?_cons_zero]; rfl
    · kernel_rfl
    · intro Wx hSx
      try dsimp only at hSx
      go_simp
      try with_reducible rfl
    simp only [Act.put, List.setIfInBounds_toArray, List.set_cons_zero, List.set_cons_succ]
    refine skipR (i := 4) (oi := ?_) ?_ (by kernel_rfl) (by kernel_rfl) (by kernel_rfl) ?_ (by assumption) ?_
    rotate_left 1
    · simp only [List.getElem?_toArray, List.getElem?_cons_succ, List.getElem?_cons_zero]; rfl
    · kernel_rfl
    simp only [Act.put, List.setIfInBounds_toArray, List.set_cons_zero, List.set_cons_succ]
    refine skipR (i := 5) (oi := ?_) ?_ (by kernel_rfl) (by kernel_rfl) (by kernel_rfl) ?_ (by assumption) ?_
    rotate_left 1
    · simp only [List.getElem?_toArray, List.getElem?_cons_succ, List.getElem?_cons_zero]; rfl
    · kernel_rfl
    simp only [Act.put, List.setIfInBounds_toArray, List.set_cons_zero, List.set_cons_succ]
    refine skipR (i := 6) (oi := ?_) ?_ (by kernel_rfl) (by kernel_rfl) (by kernel_rfl) ?_ (by assumption) ?_
    rotate_left 1
    · simp only [List.getElem?_toArray, List.getElem?_cons_succ, List.getElem?_cons_zero]; rfl
    · kernel_rfl
    simp only [Act.put, List.setIfInBounds_toArray, List.set_cons_zero, List.set_cons_succ]
    refine skipR (i := 7) (oi := ?_) ?_ (by kernel_rfl) (by kernel_rfl) (by kernel_rfl) ?_ (by assumption) ?_
    rotate_left 1
    · simp only [List.getElem?_toArray, List.getElem?_cons_succ, List.getElem?_cons_zero]; rfl
    · kernel_rfl
    simp only [Act.put, List.setIfInBounds_toArray, List.set_cons_zero, List.set_cons_succ]
    refine skipR (i := 8) (oi := ?_) ?_ (by kernel_rfl) (by kernel_rfl) (by kernel_rfl) ?_ (by assumption) ?_
    rotate_left 1
    · simp only [List.getElem?_toArray, List.getElem?_cons_succ, List.getElem?_cons_zero]; rfl
    · kernel_rfl
    simp only [Act.put, List.setIfInBounds_toArray, List.set_cons_zero, List.set_cons_succ]
    refine skipR (i := 9) (oi := ?_) ?_ (by kernel_rfl) (by kernel_rfl) (by kernel_rfl) ?_ (by assumption) ?_
    rotate_left 1
    · simp only [List.getElem?_toArray, List.getElem?_cons_succ, List.getElem?_cons_zero]; rfl
    · kernel_rfl
    simp only [Act.put, List.setIfInBounds_toArray, List.set_cons_zero, List.set_cons_succ]
    refine skipR (i := 10) (oi := ?_) ?_ (by kernel_rfl) (by kernel_rfl) (by kernel_rfl) ?_ (by assumption) ?_
    rotate_left 1
    · simp only [List.getElem?_toArray, List.getElem?_cons_succ, List.getElem?_cons_zero]; rfl
    · kernel_rfl
    simp only [Act.put, List.setIfInBounds_toArray, List.set_cons_zero, List.set_cons_succ]
    refine skipR (i := 11) (oi := ?_) ?_ (by kernel_rfl) (by kernel_rfl) (by kernel_rfl) ?_ (by assumption) ?_
    rotate_left 1
    · simp only [List.getElem?_toArray, List.getElem?_cons_succ, List.getElem?_cons_zero]; rfl
    · kernel_rfl
    simp only [Act.put, List.setIfInBounds_toArray, List.set_cons_zero, List.set_cons_succ]
    refine skipR (i := 12) (oi := ?_) ?_ (by kernel_rfl) (by kernel_rfl) (by kernel_rfl) ?_ (by assumption) ?_
    rotate_left 1
    · simp only [List.getElem?_toArray, List.getElem?_cons_succ, List.getElem?_cons_zero]; rfl
    · kernel_rfl
    simp only [Act.put, List.setIfInBounds_toArray, List.set_cons_zero, List.set_cons_succ]
    refine skipR (i := 13) (oi := ?_) ?_ (by kernel_rfl) (by kernel_rfl) (by kernel_rfl) ?_ (by assumption) ?_
    rotate_left 1
    · simp only [List.getElem?_toArray, List.getElem?_cons_succ, List.getElem?_cons_zero]; rfl
    · kernel_rfl
    simp only [Act.put, List.setIfInBounds_toArray, List.set_cons_zero, List.set_cons_succ]
    refine skipR (i := 14) (oi := ?_) ?_ (by kernel_rfl) (by kernel_rfl) (by kernel_rfl) ?_ (by assumption) ?_
    rotate_left 1
    · simp only [List.getElem?_toArray, List.getElem?_cons_succ, List.getElem?_cons_zero]; rfl
    · kernel_rfl
    simp only [Act.put, List.setIfInBounds_toArray, List.set_cons_zero, List.set_cons_succ]
    refine takeR (i := 15) (oi := ?_) (v := ?_) ?_ (by kernel_rfl) (by kernel_rfl) (by kernel_rfl) ?_ ?_ (by assumption) ?_
    rotate_left 2
    · simp only [List.getElem?_toArray, List.getElem?_cons_succ, List.getElem?_cons_zero]; rfl
    · kernel_rfl
    · intro Wx hSx
      try dsimp only at hSx
      go_simp
      try with_reducible rfl
    simp only [Act.put, List.setIfInBounds_toArray, List.set_cons_zero, List.set_cons_succ]
    refine takeR (i := 16) (oi := ?_) (v := ?_) ?_ (by kernel_rfl) (by kernel_rfl) (by kernel_rfl) ?_ ?_ (by assumption) ?_
    rotate_left 2
    · simp only [List.getElem?_toArray, List.getElem?_cons_succ, List.getElem?_cons_zero]; rfl
    · kernel_rfl
    · intro Wx hSx
      try dsimp only at hSx
      go_simp
      try with_reducible rfl
    simp only [Act.put, List.setIfInBounds_toArray, List.set_cons_zero, List.set_cons_succ]
    refine done_R HRR (by kernel_rfl) ?_
    clear HRR
    go_wp2
    go_ret
    exact ⟨ret_bool (by rw [← HY.out]; rfl), by have := ext_trans hW0 y1; go_grown⟩
  · go_region_held3 (fun W => Ext W0 W)
      (first | exact Below.drew (by assumption) | assumption | exact ext_trans (by assumption) (by assumption))
      (first
        | (go_at_call 130; refine (areOwners_c A n wc women S pn pc pieces wrong _ (KT.out.ext (ext_trans hW0 (by first | assumption | exact Below.drew (by assumption)))) _ l (KV.out.ext (ext_trans hW0 (by first | assumption | exact Below.drew (by assumption)))) true HZ).mono ?_; rintro e w1 ⟨rfl, hB1⟩)
        | (go_at_call 132; refine (full_c A n wc _ wrong hn5 _).mono ?_; rintro e w2 ⟨rfl, hB2⟩; rw [HQ.out])
        | (go_at_call 133; refine (right_c A n wc women S pn pc pieces wrong _ (KT.out.ext (ext_trans hW0 (by first | assumption | exact Below.drew (by assumption)))) hn5 _ l (KV.out.ext (ext_trans hW0 (by first | assumption | exact Below.drew (by assumption)))) hl).mono ?_; rintro e w3 ⟨rfl, hB3⟩; rw [HR.out])
        | (go_at_call 131; refine (bits_c d hd32 _).mono ?_; rintro e w4 ⟨bv, rfl, hbv, hB4⟩; obtain ⟨BA, bc, rfl⟩ := hbv.val; rw [HM.out]))
    all_goals have e4 : Ext W0 w4 := by assumption
    all_goals clear f1
    all_goals go_wp2
    all_goals go_ret
    all_goals exact ⟨ret_bool (by rw [← HY.out]; rfl), by have := ext_trans hW0 e4; go_grown⟩
end
end Go.Proofs.YtlcakmbejjlmeaaGreat
/- Lists of lists in memory; the contract of the reference's Truths. -/
set_option linter.unusedVariables false
set_option linter.unusedSimpArgs false
namespace Go.Proofs.YtlcakmbejjlmeaaGreat
open Go.RowKit

theorem app_one {P : Program} {ops : Array Oper} {rest : List Oper} {o : Oper} {a : Act} {Q : Exit → Act → World → Prop} {w W0 : World} (hgd : o.guard = none) (s x : Operand) (t e : TypeId)
    (ho : o.op = .call { callee := .builtin .append, args := #[s, x], argTypes := #[t, t] }) (ht : P.underlying t = some (.slice e)) (z : Value) (bytes : Nat) (cs : Array Value)
    (hinfo : (P.info? e).map (fun i => (i.zero, i.size, i.bytes)) = some (some z, cs.size, bytes)) (hzs : z.cells.size = cs.size) (hsz : 0 < cs.size) (hsz2 : cs.size ≤ 100) (hby : bytes ≤ 100) (h1 : ∀ u ∈ cs.toList, u.oneCell' = true)
    (base : Nat) (v : Value) (n : Nat) (xs : List Value) (hs : a.eval s = v) (hown : W0.ownsRow base e cs.size v n xs) (hext : Ext W0 w) (H : Nat) (hx : a.eval x = .slice (some ⟨H, 0, none⟩) 1 1) (hH : w.heap[H]? = some (.cells cs e (0, 0))) (hbase : base ≤ W0.heap.size) (hl : n ≤ 1000000)
    (h : ∀ g cap w', w'.ownsRow base e cs.size (.slice (some ⟨g, 0, none⟩) (n + 1) cap) (n + 1) (xs ++ cs.toList) → Below base w w' → w.grownBy w' v.ownBlock → (v.ownBlock = some g ∨ w.heap.size ≤ g) → wpList P ops Q rest (a.put o.dst (.slice (some ⟨g, 0, none⟩) (n + 1) cap)) w') :
    wpList P ops Q (o :: rest) a w := by
  have hown' := own_ext hown hext
  obtain ⟨g, cap, w', hr, h2, h3, h4⟩ := run_app_one (P := P) (w := w) t o.type e ht z bytes cs hinfo hzs hsz hsz2 hby h1 base v n xs hown' H hH (Nat.le_trans hbase hext.size) hl
  refine wpList_plain hgd fun K hK' => ?_
  unfold Oper.wp
  simp only [execOp, ho, resolve, invoke, builtin, Sem.run_bind, Sem.run_pure, Result.andThen_ok, List.map_toArray, List.map_cons, List.map_nil, hs, hx, hr]
  exact hK' _ _ (h g cap w' h2 ((Below.refl base w).grown h3 (Nat.le_trans hbase hext.size) fun k hk => (own_block hown' k hk).1) h3 h4)

/-- The list with a number. -/
def lAt (xss : List (List Int)) (i : Nat) : List Int := xss.getD i []
/-- 'v' reads as a list of lists. -/
def IsLists (w : World) (v : Value) (xss : List (List Int)) : Prop :=
  xss.length ≤ 1000001 ∧ ∃ A c, v = .slice A xss.length c ∧ (0 < xss.length → ∃ b o, A = some ⟨b, o, none⟩ ∧ ∀ i, i < xss.length → ∃ m, w.cell? ⟨b, o + i, none⟩ = some m ∧ IsInts w m (lAt xss i))
theorem IsLists.ext {w w' : World} {v : Value} {xss : List (List Int)} (h : IsLists w v xss) (e : Ext w w') : IsLists w' v xss := by
  obtain ⟨h0, A, c, hv, h1⟩ := h
  refine ⟨h0, A, c, hv, fun hn => ?_⟩
  obtain ⟨b, o, ha, hc⟩ := h1 hn
  refine ⟨b, o, ha, fun i hi => ?_⟩
  obtain ⟨m, h2, h3⟩ := hc i hi
  exact ⟨m, cell_ext e h2, h3.ext e⟩
theorem IsLists.at {w : World} {A : Option Addr} {n c : Nat} {xss : List (List Int)} (h : IsLists w (.slice A n c) xss) (hp : 0 < n) : ∃ b o, A = some ⟨b, o, none⟩ ∧ ∀ i, i < n → ∃ m, w.cell? ⟨b, o + i, none⟩ = some m ∧ IsInts w m (lAt xss i) := by
  obtain ⟨_, A', c', hv, h1⟩ := h
  injection hv with h2 h3 h4
  subst h2; subst h3
  exact h1 hp
theorem IsLists.val {w : World} {v : Value} {xss : List (List Int)} (h : IsLists w v xss) : ∃ A c, v = .slice A xss.length c := let ⟨_, A, c, hv, _⟩ := h; ⟨A, c, hv⟩
/-- A row of slices that the call owns: the lists' own blocks are others than the row's. 'E' says where they may lie. -/
structure LRow (w : World) (base : Nat) (E : Nat → Prop) (v : Value) (xss : List (List Int)) (ms : Nat → Value) : Prop where
  own : w.ownsRow base 29 1 v xss.length ((List.range xss.length).map ms)
  ints : ∀ i, i < xss.length → IsInts w (ms i) (lAt xss i)
  blk : ∀ i, i < xss.length → ∀ b, (ms i).ownBlock = some b → E b ∧ v.ownBlock ≠ some b ∧ b < w.heap.size
theorem LRow.nil (w : World) (base : Nat) (E : Nat → Prop) (ms : Nat → Value) : LRow w base E (.slice none 0 0) [] ms := ⟨own_nil _ _ _ _, fun i h => absurd h (Nat.not_lt_zero i), fun i h => absurd h (Nat.not_lt_zero i)⟩
theorem LRow.ext {w w' : World} {base : Nat} {E : Nat → Prop} {v : Value} {xss : List (List Int)} {ms : Nat → Value} (h : LRow w base E v xss ms) (e : Ext w w') : LRow w' base E v xss ms :=
  ⟨own_ext h.own e, fun i hi => (h.ints i hi).ext e, fun i hi b hb => ⟨(h.blk i hi b hb).1, (h.blk i hi b hb).2.1, Nat.lt_of_lt_of_le (h.blk i hi b hb).2.2 e.size⟩⟩
theorem ints_grown {W W' : World} {v : Value} {xs : List Int} {row : Option Nat} (h : IsInts W v xs) (hg : W.grownBy W' row) (hb : ∀ b, v.ownBlock = some b → row ≠ some b) : IsInts W' v xs := by
  obtain ⟨h0, A, c, rfl, h1⟩ := h
  refine ⟨h0, A, c, rfl, fun hn => ?_⟩
  obtain ⟨b, o, rfl, hc⟩ := h1 hn
  refine ⟨b, o, rfl, fun i hi => ?_⟩
  rw [World.cell?_of_block (w := W) (hg.block b (cell_lt (hc i hi)) (fun e => hb b rfl e.symm))]
  exact hc i hi
theorem lAt_left {a b : List (List Int)} {i : Nat} (h : i < a.length) : lAt (a ++ b) i = lAt a i := by simp [lAt, List.getD_eq_getElem?_getD, List.getElem?_append_left h]
theorem lAt_right {a b : List (List Int)} {i : Nat} (h : a.length ≤ i) : lAt (a ++ b) i = lAt b (i - a.length) := by simp [lAt, List.getD_eq_getElem?_getD, List.getElem?_append_right h]
/-- One list more. -/
theorem LRow.snoc {W W' : World} {base : Nat} {E : Nat → Prop} {v : Value} {xss : List (List Int)} {ms : Nat → Value} {n : Nat} (h : LRow W base E v xss ms) (m : Value) (x : List Int) (hm : IsInts W m x) (hE : ∀ b, m.ownBlock = some b → E b ∧ v.ownBlock ≠ some b ∧ b < W.heap.size)
    (g cap : Nat) (hown : W'.ownsRow base 29 1 (.slice (some ⟨g, 0, none⟩) (n + 1) cap) (n + 1) ((List.range n).map ms ++ [m])) (hn : xss.length = n) (hg : W.grownBy W' v.ownBlock) (hor : v.ownBlock = some g ∨ W.heap.size ≤ g) :
    LRow W' base E (.slice (some ⟨g, 0, none⟩) (n + 1) cap) (xss ++ [x]) (fun i => if i < n then ms i else m) := by
  subst hn
  have hne : ∀ b, (b < W.heap.size ∧ v.ownBlock ≠ some b) → (Value.slice (some ⟨g, 0, none⟩) (xss.length + 1) cap).ownBlock ≠ some b := fun b ⟨h1, h2⟩ h3 => by
    have : g = b := by simpa [Value.ownBlock] using h3
    subst this
    rcases hor with h | h
    · exact h2 h
    · omega
  refine ⟨?_, fun i hi => ?_, fun i hi b hb => ?_⟩
  · have e : (List.range (xss ++ [x]).length).map (fun i => if i < xss.length then ms i else m) = (List.range xss.length).map ms ++ [m] := by
      rw [List.length_append, List.length_singleton, List.range_succ, List.map_append]
      congr 1
      · apply List.map_congr_left
        intro i hi
        rw [if_pos (List.mem_range.1 hi)]
      · simp
    rw [e, List.length_append, List.length_singleton]
    exact hown
  · rw [List.length_append, List.length_singleton] at hi
    by_cases h1 : i < xss.length
    · rw [if_pos h1, lAt_left h1]
      exact ints_grown (h.ints i h1) hg fun b hb => (h.blk i h1 b hb).2.1
    · obtain rfl : i = xss.length := by omega
      rw [if_neg h1, lAt_right (Nat.le_refl _), Nat.sub_self]
      exact ints_grown hm hg fun b hb => (hE b hb).2.1
  · rw [List.length_append, List.length_singleton] at hi
    by_cases h1 : i < xss.length
    · rw [if_pos h1] at hb
      exact ⟨(h.blk i h1 b hb).1, hne b ⟨(h.blk i h1 b hb).2.2, (h.blk i h1 b hb).2.1⟩, Nat.lt_of_lt_of_le (h.blk i h1 b hb).2.2 hg.size⟩
    · rw [if_neg h1] at hb
      exact ⟨(hE b hb).1, hne b ⟨(hE b hb).2.2, (hE b hb).2.1⟩, Nat.lt_of_lt_of_le (hE b hb).2.2 hg.size⟩
theorem LRow.val {w : World} {base : Nat} {E : Nat → Prop} {v : Value} {xss : List (List Int)} {ms : Nat → Value} (h : LRow w base E v xss ms) : ∃ A c, v = .slice A xss.length c := by
  rcases h.own.2 with ⟨rfl, h0⟩ | ⟨g, cap, cur, rfl, _⟩
  · exact ⟨_, _, by rw [h0]⟩
  · exact ⟨_, _, rfl⟩
theorem LRow.lists {w : World} {base : Nat} {E : Nat → Prop} {v : Value} {xss : List (List Int)} {ms : Nat → Value} (h : LRow w base E v xss ms) (hl : xss.length ≤ 1000001) : IsLists w v xss := by
  refine ⟨hl, ?_⟩
  rcases Nat.eq_zero_or_pos xss.length with h0 | h0
  · rcases h.own.2 with ⟨rfl, _⟩ | ⟨g, cap, cur, rfl, _⟩
    · exact ⟨none, 0, by rw [h0], fun hp => absurd hp (by omega)⟩
    · exact ⟨_, cap, rfl, fun hp => absurd hp (by omega)⟩
  · obtain ⟨g, cap, rfl, _, _⟩ := h.own.form h0
    refine ⟨_, cap, rfl, fun _ => ⟨g, 0, rfl, fun i hi => ⟨ms i, ?_, h.ints i hi⟩⟩⟩
    have hc := h.own.cells (g := g) rfl i (ms i) (by simp [hi])
    have ha : (⟨g, 0, none⟩ : Addr).add i = ⟨g, 0 + i, none⟩ := by unfold Addr.add; split <;> simp_all
    rwa [ha] at hc
theorem info_list : (Tryz.prog.info? 29).map (fun i => (i.zero, i.size, i.bytes)) = some (some (.slice none 0 0), 1, 24) := by kernel_rfl
/-- The truths, as the reference lists them. -/
def truK (women : List Wom) (pieces : List Pce) (wrong : Int) (k : Nat) : List (List Int) := ((List.range k).map fun j => ownsL pieces.length (nthO (fun i => ofF women (pMs pieces i)) pieces.length j)).filter (isTruR women pieces wrong)
theorem truK_succ (women : List Wom) (pieces : List Pce) (wrong : Int) (k : Nat) : truK women pieces wrong (k + 1) = truK women pieces wrong k ++ if isTruR women pieces wrong (ownsL pieces.length (nthO (fun i => ofF women (pMs pieces i)) pieces.length k)) then [ownsL pieces.length (nthO (fun i => ofF women (pMs pieces i)) pieces.length k)] else [] := by
  unfold truK
  rw [List.range_succ, List.map_append, List.filter_append]
  congr 1
  by_cases h : isTruR women pieces wrong (ownsL pieces.length (nthO (fun i => ofF women (pMs pieces i)) pieces.length k)) = true <;> simp [List.filter_cons, h]
theorem truK_len (women : List Wom) (pieces : List Pce) (wrong : Int) (k : Nat) : (truK women pieces wrong k).length ≤ k := by
  unfold truK; exact Nat.le_trans (List.length_filter_le _ _) (by simp)
section
variable (A : Option Addr) (n wc : Nat) (women : List Wom) (S : Option Addr) (pn pc : Nat) (pieces : List Pce) (wrong : Int)
set_option maxHeartbeats 3200000 in
set_option maxRecDepth 100000 in
theorem truths_c (w : World) (h : TabAt w A n wc S pn pc women pieces) (hn5 : n ≤ 5) (hpos : ∀ p, p < pn → 0 < (ofF women (pMs pieces p)).length) (many : Nat) (hm : manyR women pieces pn = (many : Int)) :
    Calls Tryz.prog 87 #[.agg #[.slice A n wc, .slice S pn pc, .int .i64 wrong]] w
      fun e w' => ∃ v, e = .returned v ∧ IsLists w' v (truK women pieces wrong many) ∧ Ext w w' := by
  have KT := hid h
  have HPOS := hid hpos
  have HM := hid hm
  have hmb : many ≤ 3000 := by have := (manyR_bd women pieces pn).2; omega
  have HPL := hid h.pl
  have hpn := h.p3
  clear h hpos hm
  have hz0 : truK women pieces wrong 0 = [] := rfl
  have hzs := truK_succ women pieces wrong
  have hzl := truK_len women pieces wrong
  rw [HPL.out] at hzs
  obtain ⟨TK, hTK⟩ : ∃ TK, truK women pieces wrong = TK := ⟨_, rfl⟩
  rw [hTK] at hz0 hzs hzl ⊢
  have HZ0 := hid hz0
  have HZS := hid hzs
  have HZL := hid hzl
  clear hz0 hzs hzl hTK
  go_enter Tryz.func87, Tryz.ntmps87
  go_wp2
  go_loopw [3, 4] (fun out i wr => ∃ (k : Nat) (ms : Nat → Value), k ≤ many ∧ i = .int .i64 k ∧ LRow wr (w.heap.size + 1) (fun _ => True) out (TK k) ms ∧ Ext w wr ∧ wr.heap[w.heap.size]? = some (.cells #[.slice A n wc, .slice S pn pc, .int .i64 wrong] 25 (0, 0))) (fun _ i _ => many - (intOf i).toNat)
  case atStart => exact ⟨0, fun _ => undef, Nat.zero_le _, rfl, by rw [HZ0.out]; exact LRow.nil _ _ _ _, by go_grown, (by repeat (first | exact heap_alloc_at _ _ (by simp) | refine heap_alloc_keep ?_))⟩
  case round =>
    obtain ⟨k, ms, hk, rfl, hrow, hE, b1⟩ := hrel
    obtain ⟨O, oc, rfl⟩ := hrow.val
    obtain ⟨len, hlen⟩ : ∃ len, (TK k).length = len := ⟨_, rfl⟩
    rw [hlen] at hrow ⊢
    have HLEN := hid hlen
    have hkl := HZL.out k
    rw [hlen] at hkl
    clear hlen
    have c1 := blk_cell b1
    have B1 := hid b1
    have HROW := hid hrow
    have hlt0 : w.heap.size < wr.heap.size := (Array.getElem?_eq_some_iff.1 b1).1
    clear b1 hrow
    by_cases hlt : k < many
    · obtain ⟨l, hl⟩ : ∃ l, ownsL pn (nthO (fun i => ofF women (pMs pieces i)) pn k) = l := ⟨_, rfl⟩
      have HL := hid hl
      have hll : l.length = pn := by rw [← hl, ownsL_len]
      have HLL := hid hll
      obtain ⟨y, hy⟩ : ∃ y, isTruR women pieces wrong l = y := ⟨_, rfl⟩
      have HY := hid hy
      have hs := HZS.out k
      rw [hl, hy] at hs
      have HS := hid hs
      clear hl hll hy hs
      cases y
      · go_wp2_with (first
          | (go_at_call 113; refine (many_c A n wc women S pn pc pieces wrong _ (KT.out.ext hE)).mono ?_; rintro e w1 ⟨rfl, hB1⟩; rw [HM.out]; have c2 := blk_cell (ext_blk_keep hB1 B1.out); have e1 : Ext wr w1 := hB1; clear c1)
          | (go_at_call 114; refine (nth_c A n wc women S pn pc pieces wrong _ (KT.out.ext (ext_trans hE e1)) HPOS.out k (by omega)).mono ?_; rintro e w2 ⟨lv, rfl, hlv, hB2, hob⟩; rw [HL.out] at hlv; obtain ⟨LA, lc, rfl⟩ := hlv.val; have HLV := hid hlv; have HOB := hid hob; have e2 : Ext wr w2 := ext_trans e1 hB2; have c3 := blk_cell (ext_blk_keep e2 B1.out); clear c2 hlv hob)
          | (go_at_call 115; refine (isTruthR_c A n wc women S pn pc pieces wrong _ (KT.out.ext (ext_trans hE e2)) hn5 _ l HLV.out (by have := HLL.out; omega) _ HY).mono ?_; rintro e w3 ⟨rfl, hB3⟩; have e3 : Ext wr w3 := ext_trans e2 hB3))
        go_roundw
        case rel => exact ⟨k + 1, ms, hlt, by go_num, by rw [HS.out]; simp only [Bool.false_eq_true, if_false, List.append_nil]; exact HROW.out.ext e3, ext_trans hE e3, ext_blk_keep e3 B1.out⟩
        case measure => simp [intOf]; omega
      · go_wp2_with (first
          | (go_at_call 113; refine (many_c A n wc women S pn pc pieces wrong _ (KT.out.ext hE)).mono ?_; rintro e w1 ⟨rfl, hB1⟩; rw [HM.out]; have c2 := blk_cell (ext_blk_keep hB1 B1.out); have e1 : Ext wr w1 := hB1; clear c1)
          | (go_at_call 114; refine (nth_c A n wc women S pn pc pieces wrong _ (KT.out.ext (ext_trans hE e1)) HPOS.out k (by omega)).mono ?_; rintro e w2 ⟨lv, rfl, hlv, hB2, hob⟩; rw [HL.out] at hlv; obtain ⟨LA, lc, rfl⟩ := hlv.val; have HLV := hid hlv; have HOB := hid hob; have e2 : Ext wr w2 := ext_trans e1 hB2; have c3 := blk_cell (ext_blk_keep e2 B1.out); clear c2 hlv hob)
          | (go_at_call 115; refine (isTruthR_c A n wc women S pn pc pieces wrong _ (KT.out.ext (ext_trans hE e2)) hn5 _ l HLV.out (by have := HLL.out; omega) _ HY).mono ?_; rintro e w3 ⟨rfl, hB3⟩; have e3 : Ext wr w3 := ext_trans e2 hB3)
          | (at_builtin; refine app_one rfl _ _ 86 29 rfl Tryz.underlying86 (.slice none 0 0) 24 #[.slice LA l.length lc] info_list rfl (by simp) (by simp) (by decide) (by simp [Value.oneCell']) (w.heap.size + 1) _ len _ rfl (by exact own_ext (HLEN.out ▸ HROW.out.own) e3) (by exact ext_alloc (ext_refl _) _) _ rfl (heap_alloc_at _ _ (by simp)) (by have := e3.size; omega) (by omega) ?_; intro g cap w4 hown4 hB4 hg4 hor4))
        go_roundw
        case rel =>
          have eA : Ext w3 (w3.alloc (.cells #[.slice LA l.length lc] 29)) := ext_alloc (ext_refl _) _
          have h1 := HROW.out.ext (ext_trans e3 eA)
          have hvb : ∀ b, (Value.slice O len oc).ownBlock = some b → b < wr.heap.size := fun b hb => (own_block HROW.out.own b hb).2
          have h2 := h1.snoc (.slice LA l.length lc) l (HLV.out.ext (ext_trans hB3 eA)) (fun b hb => by
            have h3 := HOB.out b hb
            have h4 := e1.size
            have h5 := hB3.size
            have h6 := eA.size
            exact ⟨trivial, fun h' => by have := hvb b h'; omega, by omega⟩) g cap hown4 HLEN.out hg4 hor4
          have hE4 : Below w.heap.size w w4 := (ext_trans hE (ext_trans e3 eA)).trans (hB4.mono (by omega))
          exact ⟨k + 1, _, hlt, by go_num, by rw [HS.out]; exact h2, hE4, by rw [hB4.block _ (by omega)]; exact ext_blk_keep (ext_trans e3 eA) B1.out⟩
        case measure => simp [intOf]; omega
    · obtain rfl : k = many := by omega
      go_wp2_with (go_at_call 113; refine (many_c A n wc women S pn pc pieces wrong _ (KT.out.ext hE)).mono ?_; rintro e w1 ⟨rfl, hB1⟩; rw [HM.out])
      go_ret
      exact ⟨_, rfl, (by exact HLEN.out ▸ (HROW.out.ext hB1).lists (by have := HLEN.out; omega)), ext_trans hE hB1⟩
end
end Go.Proofs.YtlcakmbejjlmeaaGreat
/- The contracts of the reference's IsWalk, IsTruth (of an errand), Least, Greatest, inside. -/
set_option linter.unusedVariables false
set_option linter.unusedSimpArgs false
namespace Go.Proofs.YtlcakmbejjlmeaaGreat
open Go.RowKit

theorem in_q (n lo hi : Int) (x : Bool) (hx : Hid ((decide (lo ≤ n) && decide (n ≤ hi)) = x)) (w : World) : Calls Tryz.prog 58 #[.int .i64 n, .int .i64 lo, .int .i64 hi] w fun e w' => e = .returned (.bool x) ∧ w' = w :=
  (in_b n lo hi x hx w).mono fun _ _ ⟨h1, h2⟩ => ⟨h1, h2.symm⟩
set_option maxHeartbeats 1600000 in
set_option maxRecDepth 100000 in
theorem isWalkR_c (n : Nat) (pv hv sv : Value) (wrong start calls : Int) (A : Option Addr) (c : Nat) (hn : n ≤ 1000) (wv : Value) (walk : List Int) (w : World) (hW : IsInts w wv walk) (y : Bool) (hy : Hid (isWalkF n walk = y)) :
    Calls Tryz.prog 60 #[.agg #[.slice A n c, pv, .int .i64 wrong, hv, sv, .int .i64 start, .int .i64 calls], wv] w
      fun e w' => e = .returned (.bool y) ∧ Ext w w' := by
  have KW := hid hW
  obtain ⟨V, vc, rfl⟩ := hW.val
  have hwl := hW.1
  clear hW
  go_enter Tryz.func60, Tryz.ntmps60
  go_wp2
  go_loopw [5] (fun i wr => ∃ k : Nat, k ≤ walk.length ∧ i = .int .i64 k ∧ Hid (∀ j, j < k → badP n walk j = false) ∧ Ext w wr ∧ wr.heap[w.heap.size]? = some (.cells #[.slice A n c, pv, .int .i64 wrong, hv, sv, .int .i64 start, .int .i64 calls] 28 (0, 0))) (fun i _ => walk.length - (intOf i).toNat)
  case atStart => exact ⟨0, Nat.zero_le _, rfl, hid (fun j hj => absurd hj (Nat.not_lt_zero j)), by go_grown, (by repeat (first | exact heap_alloc_at _ _ (by simp) | refine heap_alloc_keep ?_))⟩
  case round =>
    obtain ⟨k, hk, rfl, HN, hE, b1⟩ := hrel
    have c1 := blk_cell b1
    have B1 := hid b1
    clear b1
    by_cases hlt : k < walk.length
    · obtain ⟨b, o, hV, hcell⟩ := (KW.out.ext hE).at (by omega)
      subst hV
      have g1 := hcell k hlt
      obtain ⟨x, hx⟩ : ∃ x, at0 walk k = x := ⟨_, rfl⟩
      rw [hx] at g1
      obtain ⟨z, hz⟩ : ∃ z, (decide (0 ≤ x) && decide (x ≤ (n : Int) - 1)) = z := ⟨_, rfl⟩
      have HZ := hid hz
      have hbad : Hid (badP n walk k = (!z || decide (0 < k) && decide (x = at0 walk (k - 1)))) := hid (by rw [badP, hx, hz])
      have hw1 : IntKind.i64.wrap ((n : Int) - 1) = (n : Int) - 1 := IntWalk.i64_in _ (by omega)
      have hi0 : (0 : Int) ≤ (k : Int) := by omega
      have hi1 : (k : Int) < (walk.length : Int) := by omega
      cases z
      · clear hcell hx hz
        go_wp2
        go_quiet ((go_at_call 58; exact Calls.quiet_of_same (in_q _ _ _ _ HZ _)))
        clear c1
        go_wp2
        go_ret
        exact ⟨ret_bool (by rw [← hy.out, isWalkF_false hlt (by rw [hbad.out]; rfl) HN.out]), by first | exact ext_drewN hE _ | exact hE⟩
      · by_cases h0 : 0 < k
        · have g2 := hcell (k - 1) (by omega)
          obtain ⟨u, hu⟩ : ∃ u, at0 walk (k - 1) = u := ⟨_, rfl⟩
          rw [hu] at g2 hbad
          have hkk : IntKind.i64.wrap ((k : Int) - 1) = (k : Int) - 1 := IntWalk.i64_in _ (by omega)
          have hk1 : (0 : Int) ≤ (k : Int) - 1 := by omega
          have hk2 : (1 : Int) ≤ (k : Int) := by omega
          have hk3 : (k : Int) - 1 < (walk.length : Int) := by omega
          have hkn : ((k : Int) - 1).toNat = k - 1 := by omega
          have h00 : (0 : Int) < (k : Int) := by omega
          by_cases he : x = u
          · subst he
            clear hcell hx hz
            have he2 : (x == x) = true := by simp
            go_wp2
            go_quiet ((go_at_call 58; exact Calls.quiet_of_same (in_q _ _ _ _ HZ _)))
            clear c1 hkk hkn
            go_wp2
            go_ret
            exact ⟨ret_bool (by rw [← hy.out, isWalkF_false hlt (by rw [hbad.out, decide_eq_true h0]; simp) HN.out]), by first | exact ext_drewN hE _ | exact hE⟩
          · have he2 : (x == u) = false := beq_eq_false_iff_ne.2 he
            clear hcell hx hz hu
            go_wp2
            go_quiet ((go_at_call 58; exact Calls.quiet_of_same (in_q _ _ _ _ HZ _)))
            clear c1 hkk hkn
            go_wp2
            go_roundw
            case rel => exact ⟨k + 1, hlt, by go_num, hid (lt_or_eq_all HN.out (by rw [hbad.out, decide_eq_false he]; simp)), by first | exact ext_drewN hE _ | exact hE, B1.out⟩
            case measure => simp [intOf]; omega
        · have h00 : ¬ (0 : Int) < (k : Int) := by omega
          clear hcell hx hz
          go_wp2
          go_quiet ((go_at_call 58; exact Calls.quiet_of_same (in_q _ _ _ _ HZ _)))
          clear c1
          go_wp2
          go_roundw
          case rel => exact ⟨k + 1, hlt, by go_num, hid (lt_or_eq_all HN.out (by rw [hbad.out, decide_eq_false h0]; simp)), by first | exact ext_drewN hE _ | exact hE, B1.out⟩
          case measure => simp [intOf]; omega
    · obtain rfl : k = walk.length := by omega
      by_cases h7 : walk.length ≤ 7
      · have h7' : (walk.length : Int) ≤ 7 := by omega
        go_wp2
        go_ret
        exact ⟨ret_bool (by rw [← hy.out, isWalkF, firstT_none HN.out]; simp <;> omega), hE⟩
      · have h7' : ¬ (walk.length : Int) ≤ 7 := by omega
        go_wp2
        go_ret
        exact ⟨ret_bool (by rw [← hy.out, isWalkF, firstT_none HN.out]; simp <;> omega), hE⟩
end Go.Proofs.YtlcakmbejjlmeaaGreat
/- The contracts of the reference's IsTruth (of an errand), Least, Greatest, inside, Street. -/
set_option linter.unusedVariables false
set_option linter.unusedSimpArgs false
namespace Go.Proofs.YtlcakmbejjlmeaaGreat
open Go.RowKit

set_option maxHeartbeats 800000 in
theorem inside_c (lo hi m : Int) (y : Bool) (hy : Hid (bndOk m lo hi = y)) (w : World) : Calls Tryz.prog 109 #[.agg #[.int .i64 lo, .int .i64 hi], .int .i64 m] w fun e w' => e = .returned (.bool y) ∧ Ext w w' := by
  by_cases h1 : 0 ≤ lo
  · by_cases h2 : lo ≤ hi
    · by_cases h3 : hi ≤ m
      all_goals
        go_enter Tryz.func109, Tryz.ntmps109
        go_wp2
        go_ret
        exact ⟨ret_bool (by rw [← hy.out, bndOk]; simp [h1, h2, h3] <;> omega), by go_grown⟩
    · go_enter Tryz.func109, Tryz.ntmps109
      go_wp2
      go_ret
      exact ⟨ret_bool (by rw [← hy.out, bndOk]; simp [h1] <;> omega), by go_grown⟩
  · go_enter Tryz.func109, Tryz.ntmps109
    go_wp2
    go_ret
    exact ⟨ret_bool (by rw [← hy.out, bndOk]; simp <;> omega), by go_grown⟩

def loL (l : List Rng) (k : Nat) : List Int := (List.range k).map (rLo l)
theorem loL_succ (l : List Rng) (k : Nat) : loL l (k + 1) = loL l k ++ [rLo l k] := by simp [loL, List.range_succ]
theorem loL_len (l : List Rng) (k : Nat) : (loL l k).length = k := by simp [loL]
theorem loL_at (l : List Rng) {k i : Nat} (h : i < k) : at0 (loL l k) i = rLo l i := by simp [loL, at0, h]
set_option maxHeartbeats 1600000 in
set_option maxRecDepth 100000 in
theorem least_c (wv pv hv : Value) (wrong start calls : Int) (S : Option Addr) (sn sc : Nat) (streets : List Rng) (w : World) (hS : IsRngs w (.slice S sn sc) streets) (hsn : sn ≤ 1000) :
    Calls Tryz.prog 33 #[.agg #[wv, pv, .int .i64 wrong, hv, .slice S sn sc, .int .i64 start, .int .i64 calls]] w
      fun e w' => ∃ v, e = .returned v ∧ IsInts w' v (loL streets sn) ∧ Ext w w' := by
  have KS := hid hS
  clear hS
  obtain ⟨LL, hLL⟩ : ∃ f, loL streets = f := ⟨_, rfl⟩
  have HLS : Hid (∀ k, LL (k + 1) = LL k ++ [rLo streets k]) := hid (by rw [← hLL]; exact loL_succ streets)
  have HLL : Hid (∀ k, (LL k).length = k) := hid (by rw [← hLL]; exact loL_len streets)
  have HL0 : Hid (LL 0 = []) := hid (by rw [← hLL]; rfl)
  rw [hLL]
  clear hLL
  go_enter Tryz.func33, Tryz.ntmps33
  go_wp2
  go_loopw [3, 4] (fun out i wr => ∃ k : Nat, k ≤ sn ∧ i = .int .i64 k ∧ wr.ownsRow (w.heap.size + 1) 3 1 out k ((LL k).map (Value.int .i64)) ∧ Ext w wr ∧ w.heap.size + 1 ≤ wr.heap.size ∧ wr.heap[w.heap.size]? = some (.cells #[wv, pv, .int .i64 wrong, hv, .slice S sn sc, .int .i64 start, .int .i64 calls] 28 (0, 0))) (fun _ i _ => sn - (intOf i).toNat)
  case atStart => exact ⟨0, Nat.zero_le _, rfl, by rw [HL0.out]; exact own_nil _ _ _ _, by go_grown, by simp, (by repeat (first | exact heap_alloc_at _ _ (by simp) | refine heap_alloc_keep ?_))⟩
  case round =>
    obtain ⟨k, hk, rfl, hown, hE, hsz, b1⟩ := hrel
    have HO := hid hown
    have c1 := blk_cell b1
    have B1 := hid b1
    clear hown b1
    by_cases hlt : k < sn
    · obtain ⟨b, o, hV, hcell⟩ := (KS.out.ext hE).at (by omega)
      subst hV
      obtain ⟨g1, g2⟩ := hcell k hlt
      have hs := HLS.out k
      obtain ⟨lo, hlo⟩ : ∃ x, rLo streets k = x := ⟨_, rfl⟩
      obtain ⟨hi, hhi⟩ : ∃ x, rHi streets k = x := ⟨_, rfl⟩
      rw [hlo] at g1
      rw [hhi] at g2
      rw [hlo] at hs
      have HS := hid hs
      have hi0 : (0 : Int) ≤ (k : Int) := by omega
      have hi1 : (k : Int) < (sn : Int) := by omega
      clear hcell hlo hhi hs
      go_wp2_with (at_builtin; refine app_intH rfl _ _ 29 3 rfl Tryz.underlying29 info_int (w.heap.size + 1) _ k (LL k) lo _ rfl rfl (by simp) (by exact HO.out) (by omega) (by omega) ?_; intro g cap w2 hown2 hB2 hg2 hlt2 hbg2)
      go_roundw
      case rel => exact ⟨k + 1, hlt, by go_num, by rw [HS.out]; exact hown2, hE.trans (hB2.mono (by omega)), by have := hB2.size; omega, by rw [hB2.block _ (by omega)]; exact B1.out⟩
      case measure => simp [intOf]; omega
    · obtain rfl : k = sn := by omega
      go_wp2
      go_ret
      exact ⟨_, rfl, own_ints HO.out (by rw [HLL.out]; omega), hE⟩
def hiL (l : List Rng) (k : Nat) : List Int := (List.range k).map (rHi l)
theorem hiL_succ (l : List Rng) (k : Nat) : hiL l (k + 1) = hiL l k ++ [rHi l k] := by simp [hiL, List.range_succ]
theorem hiL_len (l : List Rng) (k : Nat) : (hiL l k).length = k := by simp [hiL]
theorem hiL_at (l : List Rng) {k i : Nat} (h : i < k) : at0 (hiL l k) i = rHi l i := by simp [hiL, at0, h]
set_option maxHeartbeats 1600000 in
set_option maxRecDepth 100000 in
theorem greatest_c (wv pv hv : Value) (wrong start calls : Int) (S : Option Addr) (sn sc : Nat) (streets : List Rng) (w : World) (hS : IsRngs w (.slice S sn sc) streets) (hsn : sn ≤ 1000) :
    Calls Tryz.prog 34 #[.agg #[wv, pv, .int .i64 wrong, hv, .slice S sn sc, .int .i64 start, .int .i64 calls]] w
      fun e w' => ∃ v, e = .returned v ∧ IsInts w' v (hiL streets sn) ∧ Ext w w' := by
  have KS := hid hS
  clear hS
  obtain ⟨LL, hLL⟩ : ∃ f, hiL streets = f := ⟨_, rfl⟩
  have HLS : Hid (∀ k, LL (k + 1) = LL k ++ [rHi streets k]) := hid (by rw [← hLL]; exact hiL_succ streets)
  have HLL : Hid (∀ k, (LL k).length = k) := hid (by rw [← hLL]; exact hiL_len streets)
  have HL0 : Hid (LL 0 = []) := hid (by rw [← hLL]; rfl)
  rw [hLL]
  clear hLL
  go_enter Tryz.func34, Tryz.ntmps34
  go_wp2
  go_loopw [3, 4] (fun out i wr => ∃ k : Nat, k ≤ sn ∧ i = .int .i64 k ∧ wr.ownsRow (w.heap.size + 1) 3 1 out k ((LL k).map (Value.int .i64)) ∧ Ext w wr ∧ w.heap.size + 1 ≤ wr.heap.size ∧ wr.heap[w.heap.size]? = some (.cells #[wv, pv, .int .i64 wrong, hv, .slice S sn sc, .int .i64 start, .int .i64 calls] 28 (0, 0))) (fun _ i _ => sn - (intOf i).toNat)
  case atStart => exact ⟨0, Nat.zero_le _, rfl, by rw [HL0.out]; exact own_nil _ _ _ _, by go_grown, by simp, (by repeat (first | exact heap_alloc_at _ _ (by simp) | refine heap_alloc_keep ?_))⟩
  case round =>
    obtain ⟨k, hk, rfl, hown, hE, hsz, b1⟩ := hrel
    have HO := hid hown
    have c1 := blk_cell b1
    have B1 := hid b1
    clear hown b1
    by_cases hlt : k < sn
    · obtain ⟨b, o, hV, hcell⟩ := (KS.out.ext hE).at (by omega)
      subst hV
      obtain ⟨g1, g2⟩ := hcell k hlt
      have hs := HLS.out k
      obtain ⟨lo, hlo⟩ : ∃ x, rLo streets k = x := ⟨_, rfl⟩
      obtain ⟨hi, hhi⟩ : ∃ x, rHi streets k = x := ⟨_, rfl⟩
      rw [hlo] at g1
      rw [hhi] at g2
      rw [hhi] at hs
      have HS := hid hs
      have hi0 : (0 : Int) ≤ (k : Int) := by omega
      have hi1 : (k : Int) < (sn : Int) := by omega
      clear hcell hlo hhi hs
      go_wp2_with (at_builtin; refine app_intH rfl _ _ 29 3 rfl Tryz.underlying29 info_int (w.heap.size + 1) _ k (LL k) hi _ rfl rfl (by simp) (by exact HO.out) (by omega) (by omega) ?_; intro g cap w2 hown2 hB2 hg2 hlt2 hbg2)
      go_roundw
      case rel => exact ⟨k + 1, hlt, by go_num, by rw [HS.out]; exact hown2, hE.trans (hB2.mono (by omega)), by have := hB2.size; omega, by rw [hB2.block _ (by omega)]; exact B1.out⟩
      case measure => simp [intOf]; omega
    · obtain rfl : k = sn := by omega
      go_wp2
      go_ret
      exact ⟨_, rfl, own_ints HO.out (by rw [HLL.out]; omega), hE⟩

set_option maxHeartbeats 1600000 in
set_option maxRecDepth 100000 in
theorem isTruthE_c (wv pv hv : Value) (wrong start calls : Int) (S : Option Addr) (sn sc : Nat) (streets : List Rng) (w : World) (hS : IsRngs w (.slice S sn sc) streets) (hsl : streets.length = sn) (tv : Value) (l : List Int) (hT : IsInts w tv l) (y : Bool) (hy : Hid (isTruthF streets l = y)) :
    Calls Tryz.prog 28 #[.agg #[wv, pv, .int .i64 wrong, hv, .slice S sn sc, .int .i64 start, .int .i64 calls], tv] w
      fun e w' => e = .returned (.bool y) ∧ Ext w w' := by
  have KS := hid hS
  have KT := hid hT
  have HSL := hid hsl
  obtain ⟨V, vc, rfl⟩ := hT.val
  have hwl := hT.1
  have hsl2 := hS.1
  rw [hsl] at hsl2
  obtain ⟨ln, hln⟩ : ∃ m, l.length = m := ⟨_, rfl⟩
  rw [hln] at KT hwl ⊢
  have HLN := hid hln
  clear hS hT hsl hln
  by_cases he : ln = sn
  · subst he
    go_enter Tryz.func28, Tryz.ntmps28
    go_wp2
    go_loopw [5] (fun i wr => ∃ k : Nat, k ≤ ln ∧ i = .int .i64 k ∧ Hid (∀ j, j < k → badT streets l j = false) ∧ Ext w wr ∧ wr.heap[w.heap.size]? = some (.cells #[wv, pv, .int .i64 wrong, hv, .slice S ln sc, .int .i64 start, .int .i64 calls] 28 (0, 0))) (fun i _ => ln - (intOf i).toNat)
    case atStart => exact ⟨0, Nat.zero_le _, rfl, hid (fun j hj => absurd hj (Nat.not_lt_zero j)), by go_grown, (by repeat (first | exact heap_alloc_at _ _ (by simp) | refine heap_alloc_keep ?_))⟩
    case round =>
      obtain ⟨k, hk, rfl, HN, hE, b1⟩ := hrel
      have c1 := blk_cell b1
      have B1 := hid b1
      clear b1
      by_cases hlt : k < ln
      · obtain ⟨b, o, hV, hcell⟩ := (KT.out.ext hE).at (by omega)
        subst hV
        obtain ⟨sb, so, hV2, hcell2⟩ := (KS.out.ext hE).at (by omega)
        subst hV2
        have g1 := hcell k hlt
        obtain ⟨g2, g3⟩ := hcell2 k hlt
        obtain ⟨x, hx⟩ : ∃ x, at0 l k = x := ⟨_, rfl⟩
        obtain ⟨lo, hlo⟩ : ∃ x, rLo streets k = x := ⟨_, rfl⟩
        obtain ⟨hi, hhi⟩ : ∃ x, rHi streets k = x := ⟨_, rfl⟩
        rw [hx] at g1
        rw [hlo] at g2
        rw [hhi] at g3
        obtain ⟨z, hz⟩ : ∃ z, (decide (lo ≤ x) && decide (x ≤ hi)) = z := ⟨_, rfl⟩
        have HZ := hid hz
        have hbad : Hid (badT streets l k = !z) := hid (by rw [badT, hx, hlo, hhi, hz])
        have hi0 : (0 : Int) ≤ (k : Int) := by omega
        have hi1 : (k : Int) < (ln : Int) := by omega
        clear hcell hcell2 hx hlo hhi hz
        cases z
        · go_wp2
          go_quiet ((go_at_call 58; exact Calls.quiet_of_same (in_q _ _ _ _ HZ _)))
          clear c1
          go_wp2
          go_ret
          exact ⟨ret_bool (by rw [← hy.out, isTruthF_false (by have := HSL.out; omega) (by rw [hbad.out]; rfl) HN.out]), by first | exact ext_drewN hE _ | exact hE⟩
        · go_wp2
          go_quiet ((go_at_call 58; exact Calls.quiet_of_same (in_q _ _ _ _ HZ _)))
          clear c1
          go_wp2
          go_roundw
          case rel => exact ⟨k + 1, hlt, by go_num, hid (lt_or_eq_all HN.out (by rw [hbad.out]; rfl)), by first | exact ext_drewN hE _ | exact hE, B1.out⟩
          case measure => simp [intOf]; omega
      · obtain rfl : k = ln := by omega
        go_wp2
        go_ret
        exact ⟨ret_bool (by rw [← hy.out, isTruthF, HLN.out, HSL.out, firstT_none HN.out]; simp), hE⟩
  · have hd : ((ln : Int) != (sn : Int)) = true := by rw [bne_iff_ne]; omega
    go_enter Tryz.func28, Tryz.ntmps28
    go_wp2
    go_ret
    exact ⟨ret_bool (by rw [← hy.out, isTruthF, HLN.out, HSL.out, decide_eq_false he]; rfl), by go_grown⟩
end Go.Proofs.YtlcakmbejjlmeaaGreat
/- The contracts of the reference's Street, Minutes. -/
set_option linter.unusedVariables false
set_option linter.unusedSimpArgs false
namespace Go.Proofs.YtlcakmbejjlmeaaGreat
open Go.RowKit

section
variable (n : Nat) (pv hv sv : Value) (wrong start calls : Int) (A : Option Addr) (c : Nat)
set_option maxHeartbeats 1600000 in
theorem streetR_lt (hn : n ≤ 30) (a b : Nat) (hab : a < b) (hhi : b ≤ n) (w : World) :
    Calls Tryz.prog 78 #[.agg #[.slice A n c, pv, .int .i64 wrong, hv, sv, .int .i64 start, .int .i64 calls], .int .i64 a, .int .i64 b] w
      fun e w' => e = .returned (.int .i64 ((tri n a + (b - a - 1) : Nat) : Int)) ∧ Ext w w' := by
  have hab' : (a : Int) < (b : Int) := by omega
  go_enter Tryz.func78, Tryz.ntmps78
  go_wp2
  go_loopw [7, 8] (fun kv i wr => ∃ k : Nat, k ≤ a ∧ i = .int .i64 k ∧ kv = .int .i64 (tri n k) ∧ Ext w wr ∧ wr.heap[w.heap.size]? = some (.cells #[.slice A n c, pv, .int .i64 wrong, hv, sv, .int .i64 start, .int .i64 calls] 28 (0, 0))) (fun _ i _ => n + 1 - (intOf i).toNat)
  case atStart => exact ⟨0, Nat.zero_le _, rfl, rfl, by go_grown, (by repeat (first | exact heap_alloc_at _ _ (by simp) | refine heap_alloc_keep ?_))⟩
  case round =>
    obtain ⟨k, hk, rfl, rfl, hE, b1⟩ := hrel
    have c1 := blk_cell b1
    have B1 := hid b1
    have htb := tri_bd n hn k (by omega)
    have hkn : (k : Int) ≤ (n : Int) := by omega
    clear b1
    go_wp2
    go_loopw [7, 9] (fun kv j wr2 => ∃ m : Nat, k + 1 ≤ m ∧ m ≤ n + 1 ∧ (k = a → m ≤ b) ∧ j = .int .i64 m ∧ kv = .int .i64 ((tri n k + (m - k - 1) : Nat) : Int) ∧ Ext wr wr2) (fun _ j _ => n + 1 - (intOf j).toNat)
    case atStart => exact ⟨k + 1, Nat.le_refl _, by omega, by omega, by go_num, by simp, ext_refl _⟩
    case round =>
      obtain ⟨m, hm1, hm2, hma, rfl, rfl, hE2⟩ := hrel
      have c2 := blk_cell (ext_blk_keep hE2 B1.out)
      obtain ⟨q, hq⟩ : ∃ q, tri n k + (m - k - 1) = q := ⟨_, rfl⟩
      have hqb : q ≤ 2000 := by omega
      have HQ := hid hq
      rw [hq]
      by_cases hmn : m ≤ n
      · have hmn' : (m : Int) ≤ (n : Int) := by omega
        by_cases hka : k = a
        · subst hka
          have hmb := hma rfl
          have hkk : ((k : Int) == (k : Int)) = true := by simp
          by_cases hmeq : m = b
          · subst hmeq
            have hmm : ((m : Int) == (m : Int)) = true := by simp
            clear hma hq c1
            go_wp2
            go_ret
            exact ⟨ret_int (by rw [← HQ.out]), ext_trans hE hE2⟩
          · have hmm : ((m : Int) == (b : Int)) = false := by rw [beq_eq_false_iff_ne]; omega
            clear hma hq c1
            go_wp2
            go_roundw
            case rel => exact ⟨m + 1, by omega, by omega, by omega, by go_num, by rw [show tri n k + (m + 1 - k - 1) = q + 1 from by have := HQ.out; omega]; go_num, hE2⟩
            case measure => simp [intOf]; omega
        · have hkk : ((k : Int) == (a : Int)) = false := by rw [beq_eq_false_iff_ne]; omega
          clear hma hq c1
          go_wp2
          go_roundw
          case rel => exact ⟨m + 1, by omega, by omega, by omega, by go_num, by rw [show tri n k + (m + 1 - k - 1) = q + 1 from by have := HQ.out; omega]; go_num, hE2⟩
          case measure => simp [intOf]; omega
      · have hka : k < a := by omega
        have hmn' : ¬ (m : Int) ≤ (n : Int) := by omega
        clear hma hq c1
        go_wp2
        go_roundw
        case rel => exact ⟨k + 1, by omega, by go_num, by rw [tri, ← HQ.out, show m - k - 1 = n - k from by omega], ext_trans hE hE2, ext_blk_keep hE2 B1.out⟩
        case measure => simp [intOf]; omega
set_option maxHeartbeats 1600000 in
theorem streetR_gt (hn : n ≤ 30) (a b : Nat) (hab : a < b) (hhi : b ≤ n) (w : World) :
    Calls Tryz.prog 78 #[.agg #[.slice A n c, pv, .int .i64 wrong, hv, sv, .int .i64 start, .int .i64 calls], .int .i64 b, .int .i64 a] w
      fun e w' => e = .returned (.int .i64 ((tri n a + (b - a - 1) : Nat) : Int)) ∧ Ext w w' := by
  have hab' : (a : Int) < (b : Int) := by omega
  have hab2 : ¬ (b : Int) < (a : Int) := by omega
  have hab3 : ¬ b < a := by omega
  go_enter Tryz.func78, Tryz.ntmps78
  go_wp2
  go_loopw [7, 8] (fun kv i wr => ∃ k : Nat, k ≤ a ∧ i = .int .i64 k ∧ kv = .int .i64 (tri n k) ∧ Ext w wr ∧ wr.heap[w.heap.size]? = some (.cells #[.slice A n c, pv, .int .i64 wrong, hv, sv, .int .i64 start, .int .i64 calls] 28 (0, 0))) (fun _ i _ => n + 1 - (intOf i).toNat)
  case atStart => exact ⟨0, Nat.zero_le _, rfl, rfl, by go_grown, (by repeat (first | exact heap_alloc_at _ _ (by simp) | refine heap_alloc_keep ?_))⟩
  case round =>
    obtain ⟨k, hk, rfl, rfl, hE, b1⟩ := hrel
    have c1 := blk_cell b1
    have B1 := hid b1
    have htb := tri_bd n hn k (by omega)
    have hkn : (k : Int) ≤ (n : Int) := by omega
    clear b1
    go_wp2
    go_loopw [7, 9] (fun kv j wr2 => ∃ m : Nat, k + 1 ≤ m ∧ m ≤ n + 1 ∧ (k = a → m ≤ b) ∧ j = .int .i64 m ∧ kv = .int .i64 ((tri n k + (m - k - 1) : Nat) : Int) ∧ Ext wr wr2) (fun _ j _ => n + 1 - (intOf j).toNat)
    case atStart => exact ⟨k + 1, Nat.le_refl _, by omega, by omega, by go_num, by simp, ext_refl _⟩
    case round =>
      obtain ⟨m, hm1, hm2, hma, rfl, rfl, hE2⟩ := hrel
      have c2 := blk_cell (ext_blk_keep hE2 B1.out)
      obtain ⟨q, hq⟩ : ∃ q, tri n k + (m - k - 1) = q := ⟨_, rfl⟩
      have hqb : q ≤ 2000 := by omega
      have HQ := hid hq
      rw [hq]
      by_cases hmn : m ≤ n
      · have hmn' : (m : Int) ≤ (n : Int) := by omega
        by_cases hka : k = a
        · subst hka
          have hmb := hma rfl
          have hkk : ((k : Int) == (k : Int)) = true := by simp
          by_cases hmeq : m = b
          · subst hmeq
            have hmm : ((m : Int) == (m : Int)) = true := by simp
            clear hma hq c1
            go_wp2
            go_ret
            exact ⟨ret_int (by rw [← HQ.out]), ext_trans hE hE2⟩
          · have hmm : ((m : Int) == (b : Int)) = false := by rw [beq_eq_false_iff_ne]; omega
            clear hma hq c1
            go_wp2
            go_roundw
            case rel => exact ⟨m + 1, by omega, by omega, by omega, by go_num, by rw [show tri n k + (m + 1 - k - 1) = q + 1 from by have := HQ.out; omega]; go_num, hE2⟩
            case measure => simp [intOf]; omega
        · have hkk : ((k : Int) == (a : Int)) = false := by rw [beq_eq_false_iff_ne]; omega
          clear hma hq c1
          go_wp2
          go_roundw
          case rel => exact ⟨m + 1, by omega, by omega, by omega, by go_num, by rw [show tri n k + (m + 1 - k - 1) = q + 1 from by have := HQ.out; omega]; go_num, hE2⟩
          case measure => simp [intOf]; omega
      · have hka : k < a := by omega
        have hmn' : ¬ (m : Int) ≤ (n : Int) := by omega
        clear hma hq c1
        go_wp2
        go_roundw
        case rel => exact ⟨k + 1, by omega, by go_num, by rw [tri, ← HQ.out, show m - k - 1 = n - k from by omega], ext_trans hE hE2, ext_blk_keep hE2 B1.out⟩
        case measure => simp [intOf]; omega
theorem streetR_c (hn : n ≤ 30) (a b k : Nat) (hne : a ≠ b) (ha : a ≤ n) (hb : b ≤ n) (hk : Hid (sIdx n a b = k)) (w : World) :
    Calls Tryz.prog 78 #[.agg #[.slice A n c, pv, .int .i64 wrong, hv, sv, .int .i64 start, .int .i64 calls], .int .i64 a, .int .i64 b] w
      fun e w' => e = .returned (.int .i64 (k : Int)) ∧ Ext w w' := by
  obtain rfl := hk.out
  rcases Nat.lt_or_gt_of_ne hne with h | h
  · have e : sIdx n a b = tri n a + (b - a - 1) := by unfold sIdx; rw [Nat.min_eq_left (by omega), Nat.max_eq_right (by omega)]
    rw [e]; exact streetR_lt n pv hv sv wrong start calls A c hn a b h hb w
  · have e : sIdx n a b = tri n b + (a - b - 1) := by unfold sIdx; rw [Nat.min_eq_right (by omega), Nat.max_eq_left (by omega)]
    rw [e]; exact streetR_gt n pv hv sv wrong start calls A c hn b a h ha w
end
theorem sIdx_lt2 {n p q : Nat} (hn : n ≤ 4) (hp : p ≤ n) (hq : q ≤ n) (hne : p ≠ q) : sIdx n p q < n * (n + 1) / 2 := by
  have h : ∀ n p q : Fin 5, p.val ≤ n.val → q.val ≤ n.val → p.val ≠ q.val → sIdx n.val p.val q.val < n.val * (n.val + 1) / 2 := by decide
  exact h ⟨n, by omega⟩ ⟨p, by omega⟩ ⟨q, by omega⟩ hp hq hne
set_option maxHeartbeats 1600000 in
set_option maxRecDepth 100000 in
theorem minutes_c (n : Nat) (pv sv tv wv : Value) (wrong start calls : Int) (A : Option Addr) (c : Nat) (hn : n ≤ 4) (H : Option Addr) (hcap : Nat) (home : List Rng) (ts walk : List Int) (w : World)
    (hHome : IsRngs w (.slice H n hcap) home) (hT : IsInts w tv ts) (htl : ts.length = n * (n + 1) / 2) (hW : IsInts w wv walk) (hwalk : WalkOk n walk) (hm : MinsOk (at0 ts)) (hlo : ∀ i, i < n → 0 ≤ rLo home i ∧ rLo home i ≤ 1439) (h0 : 0 ≤ start) (h1 : start ≤ 1439) :
    Calls Tryz.prog 30 #[.agg #[.slice A n c, pv, .int .i64 wrong, .slice H n hcap, sv, .int .i64 start, .int .i64 calls], tv, wv] w
      fun e w' => ∃ v, e = .returned v ∧ IsInts w' v (callsL n (rLo home) (at0 ts) start walk) ∧ Ext w w' := by
  have KH := hid hHome
  have KT := hid hT
  have KW := hid hW
  have KK := hid hwalk
  have KM := hid hm
  have KL := hid hlo
  obtain ⟨T, tc, rfl⟩ := hT.val
  obtain ⟨V, vc, rfl⟩ := hW.val
  have hlen := hwalk.len
  obtain ⟨tn, htn⟩ : ∃ m, ts.length = m := ⟨_, rfl⟩
  have HTN : Hid (tn = n * (n + 1) / 2) := hid (by rw [← htn, htl])
  have htnb : tn ≤ 10 := by
    have : n = 0 ∨ n = 1 ∨ n = 2 ∨ n = 3 ∨ n = 4 := by omega
    rcases this with rfl | rfl | rfl | rfl | rfl <;> (have := HTN.out; omega)
  rw [htn] at KT ⊢
  clear hHome hT hW hwalk hm hlo htl htn
  obtain ⟨m, hm⟩ : ∃ m, at0 ts = m := ⟨_, rfl⟩
  have HMM := hid hm
  rw [hm] at KM ⊢
  clear hm
  go_enter Tryz.func30, Tryz.ntmps30
  go_wp2
  refine wp_gen ?_
  intro W0 hW0
  have hB0 : Ext w W0 := by rw [hW0]; go_grown
  have b1 : W0.heap[w.heap.size]? = some (.cells #[.slice A n c, pv, .int .i64 wrong, .slice H n hcap, sv, .int .i64 start, .int .i64 calls] 28 (0, 0)) := by rw [hW0]; exact (by repeat (first | exact heap_alloc_at _ _ (by simp) | refine heap_alloc_keep ?_))
  clear hW0
  have f1 := ext_blk b1
  have e0 : Ext W0 W0 := ext_refl W0
  have B1 := hid b1
  clear b1
  go_region_held3 (fun W => Ext W0 W)
    (first | exact Below.drew (by assumption) | assumption | exact ext_trans (by assumption) (by assumption))
    (fail)
  obtain ⟨W1, hW1⟩ : ∃ W1, W0.drew = W1 := ⟨_, rfl⟩
  have e1 : Ext W0 W1 := by rw [← hW1]; exact e0.drew
  rw [hW1]
  clear hW1 f1
  have hE1 := ext_trans hB0 e1
  have B2 := hid (ext_blk_keep e1 B1.out)
  go_wp2
  go_loopw [7, 8, 9, 10] (fun out pl mi i wr => ∃ k : Nat, k ≤ walk.length ∧ i = .int .i64 k ∧ pl = .int .i64 (plAt n walk k) ∧ mi = .int .i64 (minAt n (rLo home) m start walk k) ∧ wr.ownsRow W1.heap.size 3 1 out k (((List.range k).map fun k => minAt n (rLo home) m start walk (k + 1)).map (Value.int .i64)) ∧ Ext W1 wr) (fun _ _ _ i _ => walk.length - (intOf i).toNat)
  case atStart => exact ⟨0, Nat.zero_le _, rfl, rfl, rfl, own_nil _ _ _ _, ext_refl _⟩
  case round =>
    obtain ⟨k, hk, rfl, rfl, rfl, hown, hE⟩ := hrel
    have HO := hid hown
    have hew := ext_trans hE1 hE
    have b3 := ext_blk_keep hE B2.out
    have B3 := hid b3
    clear hown
    by_cases hlt : k < walk.length
    · obtain ⟨b, o, hV, hcell⟩ := (KW.out.ext hew).at (by omega)
      subst hV
      obtain ⟨hb, ho, hH, hhc⟩ := (KH.out.ext hew).at (by have := KK.out.hi k hlt; have := KK.out.lo k hlt; omega)
      subst hH
      obtain ⟨q, hq⟩ : ∃ q : Nat, at0 walk k = q := ⟨_, (Int.toNat_of_nonneg (KK.out.lo k hlt)).symm⟩
      have hqn : q < n := by have := KK.out.hi k hlt; omega
      have hpn := plAt_le KK.out k (by omega)
      have hne := plAt_ne KK.out k hlt
      rw [hq, Int.toNat_natCast] at hne
      obtain ⟨p, hp⟩ : ∃ p, plAt n walk k = p := ⟨_, rfl⟩
      obtain ⟨mi, hmi⟩ : ∃ p, minAt n (rLo home) m start walk k = p := ⟨_, rfl⟩
      obtain ⟨ix, hix⟩ : ∃ x, sIdx n p q = x := ⟨_, rfl⟩
      have hixt : ix < tn := by rw [← hix, HTN.out, ← hp]; exact sIdx_lt2 hn hpn (Nat.le_of_lt hqn) hne
      have hbd := minAt_bd hn KK.out KM.out KL.out h0 h1 k (by omega)
      have hm0 := KM.out.lo ix (by omega)
      have hm1 := KM.out.hi ix (by omega)
      have hl0 := (hhc q hqn).1
      have hlb := KL.out q hqn
      obtain ⟨tb, to, hTT, htc⟩ := (KT.out.ext hew).at (by omega)
      subst hTT
      have htx := htc ix hixt
      have g0 : wr.cell? ⟨b, o + k, none⟩ = some (.int .i64 (q : Int)) := by rw [← hq]; exact hcell k hlt
      obtain ⟨lo, hlo⟩ : ∃ x, rLo home q = x := ⟨_, rfl⟩
      obtain ⟨tx, hmx⟩ : ∃ x, m ix = x := ⟨_, rfl⟩
      rw [HMM.out, hmx] at htx
      rw [hlo] at hl0 hlb
      rw [hmx] at hm0 hm1
      rw [hmi] at hbd
      rw [hp] at hpn hne
      have f2 := ext_cell htx (ext_refl wr) (Nat.le_refl _)
      have f3 := ext_cell hl0 (ext_refl wr) (Nat.le_refl _)
      have f1 := ext_blk b3
      obtain ⟨mn, hmn⟩ : ∃ x, max (mi + tx) lo = x := ⟨_, rfl⟩
      have hnext : Hid (minAt n (rLo home) m start walk (k + 1) = mn) := hid (by simp only [minAt, hq, Int.toNat_natCast, hlo, hmi, hp, hix, hmx]; omega)
      have hpl : Hid (plAt n walk (k + 1) = q) := hid (by simp only [plAt, hq, Int.toNat_natCast])
      have hsn := callsL_snoc n (rLo home) m start walk k
      rw [hnext.out] at hsn
      have HSN := hid hsn
      have hwr : IntKind.i64.wrap (mi + tx) = mi + tx := IntWalk.i64_in _ (by omega)
      have hmax : (if mi + tx < lo then lo else mi + tx) = mn := by rw [← hmn]; split <;> omega
      have hi0 : (0 : Int) ≤ (k : Int) := by omega
      have hi1 : (k : Int) < (walk.length : Int) := by omega
      have hi2 : (0 : Int) ≤ (ix : Int) := by omega
      have hi3 : (ix : Int) < (tn : Int) := by omega
      have hi4 : (0 : Int) ≤ (q : Int) := by omega
      have hi5 : (q : Int) < (n : Int) := by omega
      have KNE := hid hne
      have KIX := hid hix
      have HMN := hid hmn
      have hmb : 0 ≤ mn ∧ mn ≤ 100000 := by omega
      obtain ⟨hmb0, hmb1⟩ := hmb
      have e5 : Ext wr wr := ext_refl wr
      rw [hp, hmi]
      clear hcell hhc hl0 htc htx hlo hmx hp hmi hix hq hne b3 hsn hmn
      go_wp2
      go_region_held3 (fun W => Ext wr W)
        (first | exact Below.drew (by assumption) | assumption | exact ext_trans (by assumption) (by assumption))
        ((go_at_call 78; refine (streetR_c n pv _ sv wrong start calls A c (by omega) p q ix KNE.out hpn (by omega) KIX _).mono ?_; rintro e w2 ⟨rfl, hB2⟩))
      have e2 : Ext wr w2 := by assumption
      clear f1 f2 f3 hwr
      clear hmax
      have hsz := hE.size
      have hsz2 := e2.size
      go_wp2_with (at_builtin; refine app_intH rfl _ _ 29 3 rfl Tryz.underlying29 info_int W1.heap.size _ k _ mn _ rfl rfl (by simp) (by exact own_ext HO.out e2) (by omega) (by omega) ?_; intro g cap w3 hown3 hB3 hg3 hlt3 hbg3)
      rw [← HSN.out] at hown3
      go_roundw
      case rel => exact ⟨k + 1, hlt, by go_num, by rw [hpl.out], by rw [hnext.out], hown3, (ext_trans hE e2).trans hB3⟩
      case measure => simp [intOf]; omega
    · obtain rfl : k = walk.length := by omega
      clear b3
      go_wp2
      go_ret
      refine ⟨_, rfl, own_ints (xs := callsL n (rLo home) m start walk) HO.out (by rw [callsL_len]; omega), hew⟩
end Go.Proofs.YtlcakmbejjlmeaaGreat
/- The contract of the reference's Fault of a table. -/
set_option linter.unusedVariables false
set_option linter.unusedSimpArgs false
namespace Go.Proofs.YtlcakmbejjlmeaaGreat
open Go.RowKit

theorem allT_false {P : Nat → Bool} {n k : Nat} (hk : k < n) (h : P k = false) : allT P n = false := by
  cases hx : allT P n
  · rfl
  · rw [(allT_iff P n).1 hx k hk] at h; exact h
theorem allT_true {P : Nat → Bool} {n : Nat} (h : ∀ i, i < n → P i = true) : allT P n = true := (allT_iff P n).2 h
section
variable (A : Option Addr) (n wc : Nat) (women : List Wom) (S : Option Addr) (pn pc : Nat) (pieces : List Pce) (wrong : Int)
set_option maxHeartbeats 3200000 in
set_option maxRecDepth 100000 in
theorem faultT_c (w : World) (h : TabAt w A n wc S pn pc women pieces) (fe : Int) (hfe : Hid (tabFault women pieces wrong = fe)) :
    Calls Tryz.prog 108 #[.agg #[.slice A n wc, .slice S pn pc, .int .i64 wrong]] w
      fun e w' => e = .returned (.int .i64 fe) ∧ Ext w w' := by
  have KT := hid h
  have HL := hid h.wl
  have HP := hid h.pl
  have hn3 := h.n3
  have hp3 := h.p3
  clear h
  by_cases h5 : 5 < n
  · have hf : Hid (tabFault women pieces wrong = 3) := hid (by rw [tabFault, if_pos (by rw [HL.out]; exact .inl h5)])
    go_enter Tryz.func108, Tryz.ntmps108
    go_wp2
    go_ret
    exact ⟨ret_int (by rw [← hfe.out, hf.out]), by go_grown⟩
  by_cases h7 : 7 < pn
  · have hf : Hid (tabFault women pieces wrong = 3) := hid (by rw [tabFault, if_pos (by rw [HP.out]; exact .inr h7)])
    go_enter Tryz.func108, Tryz.ntmps108
    go_wp2
    go_ret
    exact ⟨ret_int (by rw [← hfe.out, hf.out]), by go_grown⟩
  obtain ⟨x, hx⟩ : ∃ x, (decide (0 ≤ wrong) && decide (wrong ≤ 5)) = x := ⟨_, rfl⟩
  have HX := hid hx
  have hf0 : Hid (tabFault women pieces wrong = if (x && allT (fun i => womOk (wMk women i) (wLo women i) (wHi women i)) n && allT (fun i => pceOk women (pMs pieces i) (pBd pieces i)) pn) = true then (if 2000 < manyK women pieces pn then 3 else 0) else 1) := hid (by
    rw [tabFault, if_neg (by rw [HL.out, HP.out]; omega), HL.out, HP.out, hx])
  clear hx
  cases x
  · go_enter Tryz.func108, Tryz.ntmps108
    go_wp2_with (go_at_call 58; refine (in_b _ _ _ _ HX _).mono ?_; rintro e w1 ⟨rfl, rfl⟩)
    go_ret
    exact ⟨ret_int (by rw [← hfe.out, hf0.out]; simp), by go_grown⟩
  go_enter Tryz.func108, Tryz.ntmps108
  go_wp2_with (go_at_call 58; refine (in_b _ _ _ _ HX _).mono ?_; rintro e w1 ⟨rfl, rfl⟩)
  go_loopw [3] (fun i wr => ∃ k : Nat, k ≤ n ∧ i = .int .i64 k ∧ Hid (∀ j, j < k → womOk (wMk women j) (wLo women j) (wHi women j) = true) ∧ Ext w wr ∧ wr.heap[w.heap.size]? = some (.cells #[.slice A n wc, .slice S pn pc, .int .i64 wrong] 25 (0, 0))) (fun i _ => n - (intOf i).toNat)
  case atStart => exact ⟨0, Nat.zero_le _, rfl, hid (fun j h => absurd h (Nat.not_lt_zero j)), by go_grown, (by repeat (first | exact heap_alloc_at _ _ (by simp) | refine heap_alloc_keep ?_))⟩
  case round =>
    obtain ⟨k, hk, rfl, hall, hE, b1⟩ := hrel
    have c1 := blk_cell b1
    have B1 := hid b1
    have hlt0 : w.heap.size < wr.heap.size := (Array.getElem?_eq_some_iff.1 b1).1
    clear b1
    by_cases hlt : k < n
    · obtain ⟨b, o, hV, hcell⟩ := (KT.out.W.ext hE).at (by omega)
      subst hV
      obtain ⟨g1, g2, g3⟩ := hcell k hlt
      obtain ⟨mk, hmk⟩ : ∃ x, wMk women k = x := ⟨_, rfl⟩
      obtain ⟨lo, hlo⟩ : ∃ x, wLo women k = x := ⟨_, rfl⟩
      obtain ⟨hi, hhi⟩ : ∃ x, wHi women k = x := ⟨_, rfl⟩
      rw [hmk] at g1
      rw [hlo] at g2
      rw [hhi] at g3
      obtain ⟨z, hz⟩ : ∃ z, (decide (0 ≤ mk) && decide (mk ≤ 9)) = z := ⟨_, rfl⟩
      have HZ := hid hz
      have hok : Hid (womOk (wMk women k) (wLo women k) (wHi women k) = (z && decide (0 ≤ lo) && decide (lo ≤ hi) && decide (hi ≤ 7))) := hid (by rw [hmk, hlo, hhi, womOk, markOk, hz])
      have hi0 : (0 : Int) ≤ (k : Int) := by omega
      have hi1 : (k : Int) < (n : Int) := by omega
      clear hcell hmk hlo hhi hz
      cases z
      · go_wp2_with (go_at_call 58; refine (in_b _ _ _ _ HZ _).mono ?_; rintro e w1 ⟨rfl, rfl⟩)
        go_ret
        exact ⟨ret_int (by rw [← hfe.out, hf0.out, allT_false hlt (by rw [hok.out]; rfl)]; simp), by go_grown⟩
      · by_cases k1 : lo < 0
        · go_wp2_with (go_at_call 58; refine (in_b _ _ _ _ HZ _).mono ?_; rintro e w1 ⟨rfl, rfl⟩)
          go_ret
          exact ⟨ret_int (by rw [← hfe.out, hf0.out, allT_false hlt (by rw [hok.out, decide_eq_false (show ¬ 0 ≤ lo from by omega)]; rfl)]; simp), by go_grown⟩
        · by_cases k2 : hi < lo
          · go_wp2_with (go_at_call 58; refine (in_b _ _ _ _ HZ _).mono ?_; rintro e w1 ⟨rfl, rfl⟩)
            go_ret
            exact ⟨ret_int (by rw [← hfe.out, hf0.out, allT_false hlt (by rw [hok.out, decide_eq_false (show ¬ lo ≤ hi from by omega)]; simp)]; simp), by go_grown⟩
          · by_cases k3 : 7 < hi
            · go_wp2_with (go_at_call 58; refine (in_b _ _ _ _ HZ _).mono ?_; rintro e w1 ⟨rfl, rfl⟩)
              go_ret
              exact ⟨ret_int (by rw [← hfe.out, hf0.out, allT_false hlt (by rw [hok.out, decide_eq_false (show ¬ hi ≤ 7 from by omega)]; simp)]; simp), by go_grown⟩
            · go_wp2_with (go_at_call 58; refine (in_b _ _ _ _ HZ _).mono ?_; rintro e w1 ⟨rfl, rfl⟩)
              go_roundw
              case rel => exact ⟨k + 1, hlt, by go_num, hid (lt_or_eq_all hall.out (by rw [hok.out]; simp; omega)), by go_grown, ext_blk_keep (by go_grown) B1.out⟩
              case measure => simp [intOf]; omega
    · obtain rfl : k = n := by omega
      have hY : Hid (allT (fun i => womOk (wMk women i) (wLo women i) (wHi women i)) k = true) := hid (allT_true hall.out)
      go_wp2
      refine wp_gen ?_
      intro Wl hWl
      subst hWl
      have hEl := hE
      have BL := B1
      clear c1
      go_loopw [5] (fun i wr => ∃ q : Nat, q ≤ pn ∧ i = .int .i64 q ∧ Hid (∀ j, j < q → pceOk women (pMs pieces j) (pBd pieces j) = true) ∧ Ext Wl wr) (fun i _ => pn - (intOf i).toNat)
      case atStart => exact ⟨0, Nat.zero_le _, rfl, hid (fun j h => absurd h (Nat.not_lt_zero j)), ext_refl _⟩
      case round =>
        obtain ⟨q, hq, rfl, hall2, hE2⟩ := hrel
        have b1 := ext_blk_keep hE2 BL.out
        have c1 := blk_cell b1
        have hew := ext_trans hEl hE2
        have B2 := hid b1
        have hlt0 : w.heap.size < wr.heap.size := (Array.getElem?_eq_some_iff.1 b1).1
        clear b1
        by_cases hlt : q < pn
        · obtain ⟨b, o, hV, hcell⟩ := (KT.out.P.ext hew).at (by omega)
          subst hV
          obtain ⟨mv, m1, m2, m3⟩ := hcell q hlt
          obtain ⟨marks, hms⟩ : ∃ x, pMs pieces q = x := ⟨_, rfl⟩
          obtain ⟨bd, hbd⟩ : ∃ x, pBd pieces q = x := ⟨_, rfl⟩
          rw [hms] at m2
          rw [hbd] at m3
          obtain ⟨MA, Mc, rfl⟩ := m2.val
          have hml := m2.1
          obtain ⟨ml, hmln⟩ : ∃ x, marks.length = x := ⟨_, rfl⟩
          have HML := hid hmln
          rw [hmln] at m1 m2 hml
          have KM := hid m2
          have hpk : Hid (pceOk women (pMs pieces q) (pBd pieces q) = pceOk women marks bd) := hid (by rw [hms, hbd])
          have hq0 : (0 : Int) ≤ (q : Int) := by omega
          have hq1 : (q : Int) < (pn : Int) := by omega
          have HMS := hid hms
          clear hcell hms hbd m2 hmln
          go_wp2
          refine wp_gen ?_
          intro W2 hW2
          have hE3 : Ext wr W2 := by rw [hW2]; go_grown
          have b6 := (show W2.heap[wr.heap.size]? = some (.cells #[.slice MA ml Mc, .int .i64 bd] 90 (0, 0)) from by rw [hW2]; exact (by repeat (first | exact heap_alloc_at _ _ (by simp) | refine heap_alloc_keep ?_)))
          have B6 := hid b6
          have hs2 : w.heap.size < W2.heap.size := by have := hE3.size; omega
          have B3 := hid (ext_blk_keep hE3 B2.out)
          clear hW2 b6 c1 m1 m3
          go_loopw [7] (fun j wz => ∃ m : Nat, m ≤ ml ∧ j = .int .i64 m ∧ Hid (∀ j, j < m → badM marks j = false) ∧ Ext W2 wz) (fun i _ => ml - (intOf i).toNat)
          case atStart => exact ⟨0, Nat.zero_le _, rfl, hid (fun j h => absurd h (Nat.not_lt_zero j)), ext_refl _⟩
          case round =>
            obtain ⟨m, hm, rfl, HN, hE4⟩ := hrel
            have c6 := blk_cell (ext_blk_keep hE4 B6.out)
            have c0 := blk_cell (ext_blk_keep hE4 B3.out)
            have hez := ext_trans hew (ext_trans hE3 hE4)
            by_cases hmlt : m < ml
            · obtain ⟨mb, mo, hV, hmc⟩ := (KM.out.ext (ext_trans hE3 hE4)).at (by omega)
              subst hV
              have g1 := hmc m hmlt
              obtain ⟨x, hx⟩ : ∃ x, at0 marks m = x := ⟨_, rfl⟩
              rw [hx] at g1
              obtain ⟨z, hz⟩ : ∃ z, (decide (0 ≤ x) && decide (x ≤ 9)) = z := ⟨_, rfl⟩
              have HZ := hid hz
              have hbad : Hid (badM marks m = (!z || decide (0 < m) && decide (x ≤ at0 marks (m - 1)))) := hid (by rw [badM, hx, markOk, hz])
              have hi0 : (0 : Int) ≤ (m : Int) := by omega
              have hi1 : (m : Int) < (ml : Int) := by omega
              have hret : Hid (badM marks m = true → (3 : Int) ≠ 0 → fe = 1) := hid (fun hb _ => by
                rw [← hfe.out, hf0.out, allT_false (P := fun i => pceOk women (pMs pieces i) (pBd pieces i)) hlt (by rw [hpk.out]; exact pceOk_false (by rw [HML.out]; exact hmlt) hb HN.out)]; simp)
              cases z
              · clear hmc hx hz
                go_wp2
                go_quiet ((go_at_call 58; exact Calls.quiet_of_same (in_q _ _ _ _ HZ _)))
                clear c6 c0
                go_wp2
                go_ret
                exact ⟨ret_int (hret.out (by rw [hbad.out]; rfl) (by decide)).symm, by first | exact ext_drewN hez _ | exact hez⟩
              · by_cases h0 : 0 < m
                · have g2 := hmc (m - 1) (by omega)
                  obtain ⟨u, hu⟩ : ∃ u, at0 marks (m - 1) = u := ⟨_, rfl⟩
                  rw [hu] at g2 hbad
                  have hkk : IntKind.i64.wrap ((m : Int) - 1) = (m : Int) - 1 := IntWalk.i64_in _ (by omega)
                  have hk1 : (0 : Int) ≤ (m : Int) - 1 := by omega
                  have hk2 : (1 : Int) ≤ (m : Int) := by omega
                  have hk3 : (m : Int) - 1 < (ml : Int) := by omega
                  have hkn : ((m : Int) - 1).toNat = m - 1 := by omega
                  have h00 : (0 : Int) < (m : Int) := by omega
                  by_cases he : x ≤ u
                  · clear hmc hx hz hu
                    go_wp2
                    go_quiet ((go_at_call 58; exact Calls.quiet_of_same (in_q _ _ _ _ HZ _)))
                    clear c6 c0 hkk hkn
                    go_wp2
                    go_ret
                    exact ⟨ret_int (hret.out (by rw [hbad.out, decide_eq_true h0, decide_eq_true he]; rfl) (by decide)).symm, by first | exact ext_drewN hez _ | exact hez⟩
                  · clear hmc hx hz hu
                    go_wp2
                    go_quiet ((go_at_call 58; exact Calls.quiet_of_same (in_q _ _ _ _ HZ _)))
                    clear c6 c0 hkk hkn
                    go_wp2
                    go_roundw
                    case rel => exact ⟨m + 1, hmlt, by go_num, hid (lt_or_eq_all HN.out (by rw [hbad.out, decide_eq_false (show ¬ x ≤ u from by omega)]; simp)), by first | exact ext_drewN hE4 _ | exact hE4⟩
                    case measure => simp [intOf]; omega
                · have h00 : ¬ (0 : Int) < (m : Int) := by omega
                  clear hmc hx hz
                  go_wp2
                  go_quiet ((go_at_call 58; exact Calls.quiet_of_same (in_q _ _ _ _ HZ _)))
                  clear c6 c0
                  go_wp2
                  go_roundw
                  case rel => exact ⟨m + 1, hmlt, by go_num, hid (lt_or_eq_all HN.out (by rw [hbad.out, decide_eq_false h0]; simp)), by first | exact ext_drewN hE4 _ | exact hE4⟩
                  case measure => simp [intOf]; omega
            · obtain rfl : m = ml := by omega
              obtain ⟨z, hz⟩ : ∃ z, (decide (0 ≤ bd) && decide (bd ≤ (k : Int) - 1)) = z := ⟨_, rfl⟩
              have HZ := hid hz
              obtain ⟨ol, hol⟩ : ∃ x, (ofF women marks).length = x := ⟨_, rfl⟩
              have HOL := hid hol
              have hpo : Hid (pceOk women (pMs pieces q) (pBd pieces q) = (z && decide (0 < ol))) := hid (by rw [hpk.out, pceOk, HML.out, firstT_none HN.out, HL.out, hz, hol]; simp)
              clear hz hol
              cases z
              · go_wp2_with (go_at_call 58; refine (in_b _ _ _ _ HZ _).mono ?_; rintro e w1 ⟨rfl, rfl⟩)
                go_ret
                exact ⟨ret_int (by rw [← hfe.out, hf0.out, allT_false (P := fun i => pceOk women (pMs pieces i) (pBd pieces i)) hlt (by rw [hpo.out]; rfl)]; simp), hez⟩
              · by_cases hol0 : ol = 0
                · subst hol0
                  go_wp2_with (first
                    | (go_at_call 58; refine (in_b _ _ _ _ HZ _).mono ?_; rintro e w1 ⟨rfl, rfl⟩)
                    | (go_at_call 129; refine (womenOf_c _ _ _ women _ _ _ pieces wrong _ (KT.out.ext hez) q hlt).mono ?_; rintro e w4 ⟨v, rfl, hv, hB4, _⟩; obtain ⟨V4, c4, rfl⟩ := hv.val; rw [HMS.out, HOL.out]))
                  go_ret
                  exact ⟨ret_int (by rw [← hfe.out, hf0.out, allT_false (P := fun i => pceOk women (pMs pieces i) (pBd pieces i)) hlt (by rw [hpo.out]; rfl)]; simp), ext_trans hez hB4⟩
                · have hol1 : ((ol : Int) == 0) = false := by rw [beq_eq_false_iff_ne]; omega
                  have hol2 : 0 < ol := by omega
                  go_wp2_with (first
                    | (go_at_call 58; refine (in_b _ _ _ _ HZ _).mono ?_; rintro e w1 ⟨rfl, rfl⟩)
                    | (go_at_call 129; refine (womenOf_c _ _ _ women _ _ _ pieces wrong _ (KT.out.ext hez) q hlt).mono ?_; rintro e w4 ⟨v, rfl, hv, hB4, _⟩; obtain ⟨V4, c4, rfl⟩ := hv.val; rw [HMS.out, HOL.out]))
                  go_roundw
                  case rel => exact ⟨q + 1, hlt, by go_num, hid (lt_or_eq_all hall2.out (by rw [hpo.out, decide_eq_true hol2]; rfl)), ext_trans hE2 (ext_trans hE3 (ext_trans hE4 hB4))⟩
                  case measure => simp [intOf]; omega
        · obtain rfl : q = pn := by omega
          have hZ2 : Hid (allT (fun i => pceOk women (pMs pieces i) (pBd pieces i)) q = true) := hid (allT_true hall2.out)
          obtain ⟨mr, hmr⟩ : ∃ x, manyR women pieces q = x := ⟨_, rfl⟩
          have HMR := hid hmr
          have hgt : Hid (2000 < mr ↔ 2000 < manyK women pieces q) := hid (by rw [← hmr]; exact manyR_gt women pieces q)
          clear hmr
          by_cases hm2 : 2000 < mr
          · go_wp2_with (go_at_call 113; refine (many_c _ _ _ women _ _ _ pieces wrong _ (KT.out.ext hew)).mono ?_; rintro e w4 ⟨rfl, hB4⟩; rw [HMR.out])
            go_ret
            exact ⟨ret_int (by rw [← hfe.out, hf0.out, hY.out, hZ2.out, if_pos (show (true && true && true) = true from rfl), if_pos (hgt.out.1 hm2)]), ext_trans hew hB4⟩
          · go_wp2_with (go_at_call 113; refine (many_c _ _ _ women _ _ _ pieces wrong _ (KT.out.ext hew)).mono ?_; rintro e w4 ⟨rfl, hB4⟩; rw [HMR.out])
            go_ret
            exact ⟨ret_int (by rw [← hfe.out, hf0.out, hY.out, hZ2.out, if_pos (show (true && true && true) = true from rfl), if_neg (fun h => absurd (hgt.out.2 h) (by omega))]), ext_trans hew hB4⟩
end
end Go.Proofs.YtlcakmbejjlmeaaGreat
/- The reference's truths are those of the program; the contract of the reference's Fault of an errand. -/
set_option linter.unusedVariables false
set_option linter.unusedSimpArgs false
namespace Go.Proofs.YtlcakmbejjlmeaaGreat
open Go.RowKit

theorem tabFault_zero {women : List Wom} {pieces : List Pce} {wrong : Int} (h : tabFault women pieces wrong = 0) :
    women.length ≤ 5 ∧ pieces.length ≤ 7 ∧ (0 ≤ wrong ∧ wrong ≤ 5) ∧ (∀ i, i < women.length → womOk (wMk women i) (wLo women i) (wHi women i) = true) ∧ (∀ i, i < pieces.length → pceOk women (pMs pieces i) (pBd pieces i) = true) ∧ manyK women pieces pieces.length ≤ 2000 := by
  rw [tabFault] at h
  split at h
  · simp at h
  · rename_i h1
    split at h
    · rename_i h2
      split at h
      · simp at h
      · rename_i h3
        simp only [Bool.and_eq_true, decide_eq_true_eq] at h2
        exact ⟨by omega, by omega, h2.1.1, (allT_iff _ _).1 h2.1.2, (allT_iff _ _).1 h2.2, by omega⟩
    · simp at h
theorem pceOk_pos {women : List Wom} {marks : List Int} {bd : Int} (h : pceOk women marks bd = true) : 0 < (ofF women marks).length := by
  rw [pceOk] at h
  simp only [Bool.and_eq_true, decide_eq_true_eq] at h
  exact h.2
theorem cntK_congr {o o' : Nat → Int} (j : Nat) : ∀ k, (∀ i, i < k → o i = o' i) → cntK o k j = cntK o' k j
  | 0, _ => rfl
  | k + 1, h => by rw [cntK, cntK, cntK_congr j k (fun i hi => h i (by omega)), h k (by omega)]
theorem wrongF_congr {women : List Wom} {o o' : Nat → Int} {pn : Nat} (h : ∀ i, i < pn → o i = o' i) : wrongF women o pn = wrongF women o' pn := by
  unfold wrongF
  exact selK_congr _ fun j _ => by rw [misP, misP, cntK_congr j pn h]
theorem manyR_prod {women : List Wom} {pieces : List Pce} {wrong : Int} (h : tabFault women pieces wrong = 0) : manyR women pieces pieces.length = (prodK (fun i => ofF women (pMs pieces i)) pieces.length 0 : Int) ∧ prodK (fun i => ofF women (pMs pieces i)) pieces.length 0 ≤ 2000 := by
  have h1 := (tabFault_zero h).2.2.2.2.2
  have h2 := manyR_K women pieces pieces.length
  have h3 := manyK_prod women pieces pieces.length
  omega
theorem isTru_nth {women : List Wom} {pieces : List Pce} {wrong : Int} (h : tabFault women pieces wrong = 0) (j : Nat) :
    isTruR women pieces wrong (ownsL pieces.length (nthO (fun i => ofF women (pMs pieces i)) pieces.length j)) = truthP women pieces wrong (nthO (fun i => ofF women (pMs pieces i)) pieces.length j) := by
  have hp := (tabFault_zero h).2.2.2.2.1
  have ha : areF women pieces (ownsL pieces.length (nthO (fun i => ofF women (pMs pieces i)) pieces.length j)) = true := by
    rw [areF_iff, ownsL_len]
    refine ⟨rfl, fun i hi => ?_⟩
    rw [ownsL_at _ _ hi, nthO, if_pos hi]
    exact at0_mem (Nat.mod_lt _ (pceOk_pos (hp i hi)))
  rw [isTruR, ha, Bool.true_and, ownsL_len, truthP]
  rw [wrongF_congr (o' := nthO (fun i => ofF women (pMs pieces i)) pieces.length j) (fun i hi => ownsL_at _ _ hi)]
theorem truK_eq {women : List Wom} {pieces : List Pce} {wrong : Int} (h : tabFault women pieces wrong = 0) :
    truK women pieces wrong (prodK (fun i => ofF women (pMs pieces i)) pieces.length 0) = (truthsF women pieces wrong).map (ownsL pieces.length) := by
  rw [truK, truthsF, listsF, listsFrom_nth]
  rw [show (fun j => ownsL pieces.length (nthO (fun i => ofF women (pMs pieces i)) pieces.length j)) = (ownsL pieces.length) ∘ (nthO (fun i => ofF women (pMs pieces i)) pieces.length) from rfl, ← List.map_map, List.filter_map]
  congr 1
  apply List.filter_congr
  intro o ho
  obtain ⟨j, _, rfl⟩ := List.mem_map.1 ho
  exact isTru_nth h j
/-- The truths as lists. -/
def truLs (women : List Wom) (pieces : List Pce) (wrong : Int) : List (List Int) := (truthsF women pieces wrong).map (ownsL pieces.length)
theorem truths_x {A : Option Addr} {n wc : Nat} {women : List Wom} {S : Option Addr} {pn pc : Nat} {pieces : List Pce} {wrong : Int} {w : World} (h : TabAt w A n wc S pn pc women pieces) (hf : tabFault women pieces wrong = 0) :
    Calls Tryz.prog 87 #[.agg #[.slice A n wc, .slice S pn pc, .int .i64 wrong]] w
      fun e w' => ∃ T tc, e = .returned (.slice T (truLs women pieces wrong).length tc) ∧ IsLists w' (.slice T (truLs women pieces wrong).length tc) (truLs women pieces wrong) ∧ Ext w w' := by
  have hz := tabFault_zero hf
  have hm := manyR_prod hf
  have h1 := truths_c A n wc women S pn pc pieces wrong w h (by have := h.wl; omega) (fun p hp => pceOk_pos (hz.2.2.2.2.1 p (by have := h.pl; omega))) (prodK (fun i => ofF women (pMs pieces i)) pieces.length 0) (by rw [← h.pl]; exact hm.1)
  refine h1.mono fun e w' ⟨v, he, hv, hE⟩ => ?_
  rw [truK_eq hf] at hv
  obtain ⟨T, tc, rfl⟩ := hv.val
  exact ⟨T, tc, he, hv, hE⟩
theorem truLs_len (women : List Wom) (pieces : List Pce) (wrong : Int) : (truLs women pieces wrong).length = (truthsF women pieces wrong).length := by simp [truLs]
end Go.Proofs.YtlcakmbejjlmeaaGreat
/- The contracts of the reference's Fault of an errand, and of the statements' fault, walked. -/
set_option linter.unusedVariables false
set_option linter.unusedSimpArgs false
namespace Go.Proofs.YtlcakmbejjlmeaaGreat
open Go.RowKit

theorem ErrAt.tab {w : World} {A : Option Addr} {n wc : Nat} {S : Option Addr} {pn pc : Nat} {H : Option Addr} {hn hc : Nat} {T : Option Addr} {sn sc : Nat} {women : List Wom} {pieces : List Pce} {home streets : List Rng} (h : ErrAt w A n wc S pn pc H hn hc T sn sc women pieces home streets) : TabAt w A n wc S pn pc women pieces := ⟨h.W, h.wl, h.P, h.pl, h.n3, h.p3⟩
section
variable (A : Option Addr) (n wc : Nat) (S : Option Addr) (pn pc : Nat) (wrong : Int) (H : Option Addr) (hn hc : Nat) (T : Option Addr) (sn sc : Nat) (start calls : Int) (women : List Wom) (pieces : List Pce) (home streets : List Rng)
set_option maxHeartbeats 6400000 in
set_option maxRecDepth 100000 in
theorem faultE_c (w : World) (h : ErrAt w A n wc S pn pc H hn hc T sn sc women pieces home streets) (fe : Int) (hfe : Hid (errE women pieces wrong home streets start calls = fe)) :
    Calls Tryz.prog 77 #[.agg #[.slice A n wc, .slice S pn pc, .int .i64 wrong, .slice H hn hc, .slice T sn sc, .int .i64 start, .int .i64 calls]] w
      fun e w' => e = .returned (.int .i64 fe) ∧ Ext w w' := by
  have KE := hid h
  clear h
  obtain ⟨tf, htf⟩ : ∃ x, tabFault women pieces wrong = x := ⟨_, rfl⟩
  have HTF := hid htf
  by_cases h0 : tf = 0
  · subst h0
    obtain ⟨tl, htl⟩ : ∃ x, (truLs women pieces wrong).length = x := ⟨_, rfl⟩
    have HTL := hid htl
    have hae : Hid (askedE women pieces wrong = if tl = 0 then 11 else 0) := hid (by rw [askedE, if_pos htf, ← truLs_len, htl])
    have hn5 : n ≤ 5 := by have := (tabFault_zero htf).1; rw [KE.out.wl] at this; exact this
    clear htf htl
    by_cases ht0 : tl = 0
    · subst ht0
      have hf : Hid (fe = 11) := hid (by rw [← hfe.out, errE, if_pos (by rw [hae.out]; decide), hae.out]; rfl)
      go_enter Tryz.func77, Tryz.ntmps77
      go_wp2_with (first
        | (go_at_call 108; refine (faultT_c A n wc women S pn pc pieces wrong _ ((KE.out.ext (by go_grown)).tab) _ HTF).mono ?_; rintro e w1 ⟨rfl, hB1⟩; have e1 : Ext w w1 := ext_trans (by go_grown) hB1; have b1 := ext_blk_keep hB1 (heap_alloc_new w (.cells #[.slice A n wc, .slice S pn pc, .int .i64 wrong, .slice H hn hc, .slice T sn sc, .int .i64 start, .int .i64 calls] 28)); have hc1 := blk_cell b1; have HB1 := hid b1; clear b1)
        | (go_at_call 87; refine (truths_x ((KE.out.ext e1).tab) HTF.out).mono ?_; rintro e w2 ⟨TT, tc, rfl, htt, hB2⟩; rw [HTL.out]; have e2 : Ext w w2 := ext_trans e1 hB2; have b2 := ext_blk_keep hB2 HB1.out; have hc2 := blk_cell b2; have HB2 := hid b2; clear b2 hc1 htt)
        | (go_at_call 58; refine (in_b _ _ _ _ HX _).mono ?_; rintro e w3 ⟨rfl, rfl⟩))
      go_ret
      exact ⟨ret_int hf.out.symm, e2⟩
    have htl1 : ((tl : Int) == 0) = false := by rw [beq_eq_false_iff_ne]; omega
    have hae0 : Hid (askedE women pieces wrong = 0) := hid (by rw [hae.out, if_neg ht0])
    by_cases h4 : 4 < n
    · have hf : Hid (fe = 3) := hid (by rw [← hfe.out, errE, if_neg (by rw [hae0.out]; simp), if_pos (by rw [KE.out.wl]; exact .inl h4)])
      go_enter Tryz.func77, Tryz.ntmps77
      go_wp2_with (first
        | (go_at_call 108; refine (faultT_c A n wc women S pn pc pieces wrong _ ((KE.out.ext (by go_grown)).tab) _ HTF).mono ?_; rintro e w1 ⟨rfl, hB1⟩; have e1 : Ext w w1 := ext_trans (by go_grown) hB1; have b1 := ext_blk_keep hB1 (heap_alloc_new w (.cells #[.slice A n wc, .slice S pn pc, .int .i64 wrong, .slice H hn hc, .slice T sn sc, .int .i64 start, .int .i64 calls] 28)); have hc1 := blk_cell b1; have HB1 := hid b1; clear b1)
        | (go_at_call 87; refine (truths_x ((KE.out.ext e1).tab) HTF.out).mono ?_; rintro e w2 ⟨TT, tc, rfl, htt, hB2⟩; rw [HTL.out]; have e2 : Ext w w2 := ext_trans e1 hB2; have b2 := ext_blk_keep hB2 HB1.out; have hc2 := blk_cell b2; have HB2 := hid b2; clear b2 hc1 htt)
        | (go_at_call 58; refine (in_b _ _ _ _ HX _).mono ?_; rintro e w3 ⟨rfl, rfl⟩))
      go_ret
      exact ⟨ret_int hf.out.symm, e2⟩
    by_cases h7 : 7 < calls
    · have hf : Hid (fe = 3) := hid (by rw [← hfe.out, errE, if_neg (by rw [hae0.out]; simp), if_pos (.inr h7)])
      go_enter Tryz.func77, Tryz.ntmps77
      go_wp2_with (first
        | (go_at_call 108; refine (faultT_c A n wc women S pn pc pieces wrong _ ((KE.out.ext (by go_grown)).tab) _ HTF).mono ?_; rintro e w1 ⟨rfl, hB1⟩; have e1 : Ext w w1 := ext_trans (by go_grown) hB1; have b1 := ext_blk_keep hB1 (heap_alloc_new w (.cells #[.slice A n wc, .slice S pn pc, .int .i64 wrong, .slice H hn hc, .slice T sn sc, .int .i64 start, .int .i64 calls] 28)); have hc1 := blk_cell b1; have HB1 := hid b1; clear b1)
        | (go_at_call 87; refine (truths_x ((KE.out.ext e1).tab) HTF.out).mono ?_; rintro e w2 ⟨TT, tc, rfl, htt, hB2⟩; rw [HTL.out]; have e2 : Ext w w2 := ext_trans e1 hB2; have b2 := ext_blk_keep hB2 HB1.out; have hc2 := blk_cell b2; have HB2 := hid b2; clear b2 hc1 htt)
        | (go_at_call 58; refine (in_b _ _ _ _ HX _).mono ?_; rintro e w3 ⟨rfl, rfl⟩))
      go_ret
      exact ⟨ret_int hf.out.symm, e2⟩
    obtain ⟨x, hx⟩ : ∃ x, (decide (0 ≤ start) && decide (start ≤ 1439)) = x := ⟨_, rfl⟩
    have HX := hid hx
    obtain ⟨q2, q, hq2, hqb, hqq, hq⟩ : ∃ q2 q : Nat, (n : Int) * ((n : Int) + 1) = (q2 : Int) ∧ q2 ≤ 20 ∧ (q2 : Int) / 2 = (q : Int) ∧ n * (n + 1) / 2 = q := by
      have : n = 0 ∨ n = 1 ∨ n = 2 ∨ n = 3 ∨ n = 4 := by omega
      rcases this with rfl | rfl | rfl | rfl | rfl
      · exact ⟨0, 0, by decide, by decide, by decide, by decide⟩
      · exact ⟨2, 1, by decide, by decide, by decide, by decide⟩
      · exact ⟨6, 3, by decide, by decide, by decide, by decide⟩
      · exact ⟨12, 6, by decide, by decide, by decide, by decide⟩
      · exact ⟨20, 10, by decide, by decide, by decide, by decide⟩
    have hf0 : Hid (fe = if hn = n ∧ sn = q ∧ 0 ≤ calls ∧ (x && allT (fun i => bndOk 1439 (rLo home i) (rHi home i)) hn && allT (fun i => bndOk 60 (rLo streets i) (rHi streets i)) sn) = true then 0 else 1) := hid (by
      rw [← hfe.out, errE, if_neg (by rw [hae0.out]; simp), if_neg (by rw [KE.out.wl]; omega), bndT, bndT, KE.out.wl, KE.out.hl, KE.out.tl, hx, hq])
    clear hx hq
    by_cases k1 : hn = n
    · have k1' : ((hn : Int) != (n : Int)) = false := by rw [bne_eq_false_iff_eq]; omega
      have K1 := hid k1
      clear k1
      by_cases k2 : sn = q
      · have k2' : ((sn : Int) != (q : Int)) = false := by rw [bne_eq_false_iff_eq]; omega
        have K2 := hid k2
        clear k2
        cases x
        · skip
          go_enter Tryz.func77, Tryz.ntmps77
          go_wp2_with (first
            | (go_at_call 108; refine (faultT_c A n wc women S pn pc pieces wrong _ ((KE.out.ext (by go_grown)).tab) _ HTF).mono ?_; rintro e w1 ⟨rfl, hB1⟩; have e1 : Ext w w1 := ext_trans (by go_grown) hB1; have b1 := ext_blk_keep hB1 (heap_alloc_new w (.cells #[.slice A n wc, .slice S pn pc, .int .i64 wrong, .slice H hn hc, .slice T sn sc, .int .i64 start, .int .i64 calls] 28)); have hc1 := blk_cell b1; have HB1 := hid b1; clear b1)
            | (go_at_call 87; refine (truths_x ((KE.out.ext e1).tab) HTF.out).mono ?_; rintro e w2 ⟨TT, tc, rfl, htt, hB2⟩; rw [HTL.out]; have e2 : Ext w w2 := ext_trans e1 hB2; have b2 := ext_blk_keep hB2 HB1.out; have hc2 := blk_cell b2; have HB2 := hid b2; clear b2 hc1 htt)
            | (go_at_call 58; refine (in_b _ _ _ _ HX _).mono ?_; rintro e w3 ⟨rfl, rfl⟩))
          go_ret
          exact ⟨ret_int (by rw [hf0.out, if_neg (by simp)]), e2⟩
        · by_cases k3 : calls < 0
          · skip
            go_enter Tryz.func77, Tryz.ntmps77
            go_wp2_with (first
              | (go_at_call 108; refine (faultT_c A n wc women S pn pc pieces wrong _ ((KE.out.ext (by go_grown)).tab) _ HTF).mono ?_; rintro e w1 ⟨rfl, hB1⟩; have e1 : Ext w w1 := ext_trans (by go_grown) hB1; have b1 := ext_blk_keep hB1 (heap_alloc_new w (.cells #[.slice A n wc, .slice S pn pc, .int .i64 wrong, .slice H hn hc, .slice T sn sc, .int .i64 start, .int .i64 calls] 28)); have hc1 := blk_cell b1; have HB1 := hid b1; clear b1)
              | (go_at_call 87; refine (truths_x ((KE.out.ext e1).tab) HTF.out).mono ?_; rintro e w2 ⟨TT, tc, rfl, htt, hB2⟩; rw [HTL.out]; have e2 : Ext w w2 := ext_trans e1 hB2; have b2 := ext_blk_keep hB2 HB1.out; have hc2 := blk_cell b2; have HB2 := hid b2; clear b2 hc1 htt)
              | (go_at_call 58; refine (in_b _ _ _ _ HX _).mono ?_; rintro e w3 ⟨rfl, rfl⟩))
            go_ret
            exact ⟨ret_int (by rw [hf0.out, if_neg (by omega)]), e2⟩
          · skip
            go_enter Tryz.func77, Tryz.ntmps77
            go_wp2_with (first
              | (go_at_call 108; refine (faultT_c A n wc women S pn pc pieces wrong _ ((KE.out.ext (by go_grown)).tab) _ HTF).mono ?_; rintro e w1 ⟨rfl, hB1⟩; have e1 : Ext w w1 := ext_trans (by go_grown) hB1; have b1 := ext_blk_keep hB1 (heap_alloc_new w (.cells #[.slice A n wc, .slice S pn pc, .int .i64 wrong, .slice H hn hc, .slice T sn sc, .int .i64 start, .int .i64 calls] 28)); have hc1 := blk_cell b1; have HB1 := hid b1; clear b1)
              | (go_at_call 87; refine (truths_x ((KE.out.ext e1).tab) HTF.out).mono ?_; rintro e w2 ⟨TT, tc, rfl, htt, hB2⟩; rw [HTL.out]; have e2 : Ext w w2 := ext_trans e1 hB2; have b2 := ext_blk_keep hB2 HB1.out; have hc2 := blk_cell b2; have HB2 := hid b2; clear b2 hc1 htt)
              | (go_at_call 58; refine (in_b _ _ _ _ HX _).mono ?_; rintro e w3 ⟨rfl, rfl⟩))
            have hf1 : Hid (fe = if (allT (fun i => bndOk 1439 (rLo home i) (rHi home i)) hn && allT (fun i => bndOk 60 (rLo streets i) (rHi streets i)) sn) = true then 0 else 1) := hid (by
              rw [hf0.out]
              by_cases hz : (allT (fun i => bndOk 1439 (rLo home i) (rHi home i)) hn && allT (fun i => bndOk 60 (rLo streets i) (rHi streets i)) sn) = true
              · rw [if_pos hz, if_pos ⟨K1.out, K2.out, by omega, by rw [Bool.true_and]; exact hz⟩]
              · rw [if_neg hz, if_neg (fun h => hz (by have := h.2.2.2; rwa [Bool.true_and] at this))])
            have hh3 := KE.out.h3
            have hs3 := KE.out.s3
            clear hc2 k1' k2'
            go_loopw [5] (fun i wr => ∃ k : Nat, k ≤ hn ∧ i = .int .i64 k ∧ Hid (∀ j, j < k → bndOk 1439 (rLo home j) (rHi home j) = true) ∧ Ext w2 wr) (fun i _ => hn - (intOf i).toNat)
            case atStart => exact ⟨0, Nat.zero_le _, rfl, hid (fun j h => absurd h (Nat.not_lt_zero j)), ext_refl _⟩
            case round =>
              obtain ⟨k, hk, rfl, hall, hE⟩ := hrel
              have b3 := ext_blk_keep hE HB2.out
              have c3 := blk_cell b3
              have B3 := hid b3
              have hew := ext_trans e2 hE
              clear b3
              by_cases hlt : k < hn
              · obtain ⟨b, o, hV, hcell⟩ := (KE.out.H.ext hew).at (by omega)
                subst hV
                obtain ⟨g1, g2⟩ := hcell k hlt
                obtain ⟨lo, hlo⟩ : ∃ x, rLo home k = x := ⟨_, rfl⟩
                obtain ⟨hi, hhi⟩ : ∃ x, rHi home k = x := ⟨_, rfl⟩
                rw [hlo] at g1
                rw [hhi] at g2
                obtain ⟨z, hz⟩ : ∃ z, bndOk 1439 lo hi = z := ⟨_, rfl⟩
                have HZ := hid hz
                have hbd : Hid (bndOk 1439 (rLo home k) (rHi home k) = z) := hid (by rw [hlo, hhi, hz])
                have hi0 : (0 : Int) ≤ (k : Int) := by omega
                have hi1 : (k : Int) < (hn : Int) := by omega
                clear hcell hlo hhi hz
                cases z
                · go_wp2_with (go_at_call 109; refine (inside_c lo hi 1439 _ HZ _).mono ?_; rintro e w4 ⟨rfl, hB4⟩)
                  go_ret
                  exact ⟨ret_int (by rw [hf1.out, allT_false (P := fun i => bndOk 1439 (rLo home i) (rHi home i)) hlt hbd.out]; rfl), ext_trans hew hB4⟩
                · go_wp2_with (go_at_call 109; refine (inside_c lo hi 1439 _ HZ _).mono ?_; rintro e w4 ⟨rfl, hB4⟩)
                  go_roundw
                  case rel => exact ⟨k + 1, hlt, by go_num, hid (lt_or_eq_all hall.out hbd.out), ext_trans hE hB4⟩
                  case measure => simp [intOf]; omega
              · obtain rfl : k = hn := by omega
                have hY : Hid (allT (fun i => bndOk 1439 (rLo home i) (rHi home i)) k = true) := hid (allT_true hall.out)
                go_wp2
                go_loopw [6] (fun i wz => ∃ m : Nat, m ≤ sn ∧ i = .int .i64 m ∧ Hid (∀ j, j < m → bndOk 60 (rLo streets j) (rHi streets j) = true) ∧ Ext wr wz) (fun i _ => sn - (intOf i).toNat)
                case atStart => exact ⟨0, Nat.zero_le _, rfl, hid (fun j h => absurd h (Nat.not_lt_zero j)), ext_refl _⟩
                case round =>
                  obtain ⟨m, hm, rfl, hall2, hE2⟩ := hrel
                  have c4 := blk_cell (ext_blk_keep hE2 B3.out)
                  have hez := ext_trans hew hE2
                  by_cases hlt2 : m < sn
                  · obtain ⟨b, o, hV, hcell⟩ := (KE.out.T.ext hez).at (by omega)
                    subst hV
                    obtain ⟨g1, g2⟩ := hcell m hlt2
                    obtain ⟨lo, hlo⟩ : ∃ x, rLo streets m = x := ⟨_, rfl⟩
                    obtain ⟨hi, hhi⟩ : ∃ x, rHi streets m = x := ⟨_, rfl⟩
                    rw [hlo] at g1
                    rw [hhi] at g2
                    obtain ⟨z, hz⟩ : ∃ z, bndOk 60 lo hi = z := ⟨_, rfl⟩
                    have HZ := hid hz
                    have hbd : Hid (bndOk 60 (rLo streets m) (rHi streets m) = z) := hid (by rw [hlo, hhi, hz])
                    have hi0 : (0 : Int) ≤ (m : Int) := by omega
                    have hi1 : (m : Int) < (sn : Int) := by omega
                    clear hcell hlo hhi hz c3
                    cases z
                    · go_wp2_with (go_at_call 109; refine (inside_c lo hi 60 _ HZ _).mono ?_; rintro e w4 ⟨rfl, hB4⟩)
                      go_ret
                      exact ⟨ret_int (by rw [hf1.out, allT_false (P := fun i => bndOk 60 (rLo streets i) (rHi streets i)) hlt2 hbd.out, Bool.and_false]; rfl), ext_trans hez hB4⟩
                    · go_wp2_with (go_at_call 109; refine (inside_c lo hi 60 _ HZ _).mono ?_; rintro e w4 ⟨rfl, hB4⟩)
                      go_roundw
                      case rel => exact ⟨m + 1, hlt2, by go_num, hid (lt_or_eq_all hall2.out hbd.out), ext_trans hE2 hB4⟩
                      case measure => simp [intOf]; omega
                  · obtain rfl : m = sn := by omega
                    clear c3
                    go_wp2
                    go_ret
                    exact ⟨ret_int (by rw [hf1.out, hY.out, allT_true hall2.out]; rfl), hez⟩
      · have k2' : ((sn : Int) != (q : Int)) = true := by rw [bne_iff_ne]; omega
        go_enter Tryz.func77, Tryz.ntmps77
        go_wp2_with (first
          | (go_at_call 108; refine (faultT_c A n wc women S pn pc pieces wrong _ ((KE.out.ext (by go_grown)).tab) _ HTF).mono ?_; rintro e w1 ⟨rfl, hB1⟩; have e1 : Ext w w1 := ext_trans (by go_grown) hB1; have b1 := ext_blk_keep hB1 (heap_alloc_new w (.cells #[.slice A n wc, .slice S pn pc, .int .i64 wrong, .slice H hn hc, .slice T sn sc, .int .i64 start, .int .i64 calls] 28)); have hc1 := blk_cell b1; have HB1 := hid b1; clear b1)
          | (go_at_call 87; refine (truths_x ((KE.out.ext e1).tab) HTF.out).mono ?_; rintro e w2 ⟨TT, tc, rfl, htt, hB2⟩; rw [HTL.out]; have e2 : Ext w w2 := ext_trans e1 hB2; have b2 := ext_blk_keep hB2 HB1.out; have hc2 := blk_cell b2; have HB2 := hid b2; clear b2 hc1 htt)
          | (go_at_call 58; refine (in_b _ _ _ _ HX _).mono ?_; rintro e w3 ⟨rfl, rfl⟩))
        go_ret
        exact ⟨ret_int (by rw [hf0.out, if_neg (by omega)]), e2⟩
    · have k1' : ((hn : Int) != (n : Int)) = true := by rw [bne_iff_ne]; omega
      go_enter Tryz.func77, Tryz.ntmps77
      go_wp2_with (first
        | (go_at_call 108; refine (faultT_c A n wc women S pn pc pieces wrong _ ((KE.out.ext (by go_grown)).tab) _ HTF).mono ?_; rintro e w1 ⟨rfl, hB1⟩; have e1 : Ext w w1 := ext_trans (by go_grown) hB1; have b1 := ext_blk_keep hB1 (heap_alloc_new w (.cells #[.slice A n wc, .slice S pn pc, .int .i64 wrong, .slice H hn hc, .slice T sn sc, .int .i64 start, .int .i64 calls] 28)); have hc1 := blk_cell b1; have HB1 := hid b1; clear b1)
        | (go_at_call 87; refine (truths_x ((KE.out.ext e1).tab) HTF.out).mono ?_; rintro e w2 ⟨TT, tc, rfl, htt, hB2⟩; rw [HTL.out]; have e2 : Ext w w2 := ext_trans e1 hB2; have b2 := ext_blk_keep hB2 HB1.out; have hc2 := blk_cell b2; have HB2 := hid b2; clear b2 hc1 htt)
        | (go_at_call 58; refine (in_b _ _ _ _ HX _).mono ?_; rintro e w3 ⟨rfl, rfl⟩))
      go_ret
      exact ⟨ret_int (by rw [hf0.out, if_neg (by omega)]), e2⟩
  · have h0' : (tf != 0) = true := by rw [bne_iff_ne]; exact h0
    clear htf
    go_enter Tryz.func77, Tryz.ntmps77
    go_wp2_with (go_at_call 108; refine (faultT_c A n wc women S pn pc pieces wrong _ ((KE.out.ext (by go_grown)).tab) _ HTF).mono ?_; rintro e w1 ⟨rfl, hB1⟩)
    go_ret
    have hae : askedE women pieces wrong = tf := by rw [askedE, if_neg (by rw [HTF.out]; exact h0), HTF.out]
    exact ⟨ret_int (by rw [← hfe.out, errE, if_pos (by rw [hae]; exact h0), hae]), ext_trans (by go_grown) hB1⟩
set_option maxHeartbeats 400000 in
theorem fault_c (w : World) (h : ErrAt w A n wc S pn pc H hn hc T sn sc women pieces home streets) (fe : Int) (hfe : Hid (errE women pieces wrong home streets start calls = fe)) :
    Calls Tryz.prog 27 #[.agg #[.slice A n wc, .slice S pn pc, .int .i64 wrong, .slice H hn hc, .slice T sn sc, .int .i64 start, .int .i64 calls]] w
      fun e w' => e = .returned (.int .i64 fe) ∧ Ext w w' := by
  have KE := hid h
  clear h
  go_enter Tryz.func27, Tryz.ntmps27
  go_wp2_with (go_at_call 77; refine (faultE_c A n wc S pn pc wrong H hn hc T sn sc start calls women pieces home streets _ (KE.out.ext (by go_grown)) fe hfe).mono ?_; rintro e w1 ⟨rfl, hB1⟩)
  go_ret
  exact ⟨rfl, ext_trans (by go_grown) hB1⟩
set_option maxHeartbeats 800000 in
theorem walked_c (w : World) (h : ErrAt w A n wc S pn pc H hn hc T sn sc women pieces home streets) (wv : Value) (walk : List Int) (hW : IsInts w wv walk) (code : Int) (hcode : Hid (walkC women pieces wrong home streets start calls walk = code)) :
    Calls Tryz.prog 25 #[.agg #[.slice A n wc, .slice S pn pc, .int .i64 wrong, .slice H hn hc, .slice T sn sc, .int .i64 start, .int .i64 calls], wv] w
      fun e w' => e = .returned (.int .i64 code) ∧ Ext w w' := by
  have KE := hid h
  have KW := hid hW
  have HWL := hid h.wl
  clear h hW
  obtain ⟨fe, hfe⟩ : ∃ x, errE women pieces wrong home streets start calls = x := ⟨_, rfl⟩
  obtain ⟨y, hy⟩ : ∃ x, isWalkF n walk = x := ⟨_, rfl⟩
  have HFE := hid hfe
  have HY := hid hy
  have hc0 : Hid (code = wErr fe y) := hid (by rw [← hcode.out, walkC, hfe, HWL.out, hy])
  clear hfe hy
  by_cases h0 : fe = 0
  · subst h0
    cases y
    all_goals
      go_enter Tryz.func25, Tryz.ntmps25
      go_wp2_with (first
        | (go_at_call 27; refine (fault_c A n wc S pn pc wrong H hn hc T sn sc start calls women pieces home streets _ (KE.out.ext (by go_grown)) _ HFE).mono ?_; rintro e w1 ⟨rfl, hB1⟩; have e1 : Ext w w1 := ext_trans (by go_grown) hB1; have hc1 := blk_cell (ext_blk_keep hB1 (heap_alloc_new w (.cells #[.slice A n wc, .slice S pn pc, .int .i64 wrong, .slice H hn hc, .slice T sn sc, .int .i64 start, .int .i64 calls] 28))))
        | (go_at_call 60; refine (isWalkR_c n _ _ _ wrong start calls A wc KE.out.n3 _ walk _ (KW.out.ext e1) _ HY).mono ?_; rintro e w2 ⟨rfl, hB2⟩))
      go_ret
      exact ⟨ret_int (by rw [hc0.out]; rfl), ext_trans e1 hB2⟩
  · have h0' : (fe != 0) = true := by rw [bne_iff_ne]; exact h0
    go_enter Tryz.func25, Tryz.ntmps25
    go_wp2_with (go_at_call 27; refine (fault_c A n wc S pn pc wrong H hn hc T sn sc start calls women pieces home streets _ (KE.out.ext (by go_grown)) _ HFE).mono ?_; rintro e w1 ⟨rfl, hB1⟩)
    go_ret
    exact ⟨ret_int (by rw [hc0.out, wErr, if_pos h0]), ext_trans (by go_grown) hB1⟩
end
end Go.Proofs.YtlcakmbejjlmeaaGreat
