/- The table, as the statements turn it to the program's: Table. -/
import Derived.Test.YtlcakmbejjlmeaaGreatK7
import Derived.Test.YtlcakmbejjlmeaaGreatK6
import Derived.Test.YtlcakmbejjlmeaaGreatK1
import Derived.ProofKit
import Derived.OpenShut
import Derived.SizedLaws
import Derived.Deep.Slices
import Derived.Deep.Strs
set_option linter.unusedVariables false
set_option linter.unusedSimpArgs false
namespace Go.Proofs.YtlcakmbejjlmeaaGreat
open Go.RowKit

/-- A row of pieces that the call owns; their marks lie elsewhere. -/
structure PRow (w : World) (base : Nat) (v : Value) (pieces : List Pce) (k : Nat) (ms : Nat → Value) : Prop where
  own : w.ownsRow base 143 2 v k ((List.range k).flatMap fun i => [ms i, .int .i64 (pBd pieces i)])
  ints : ∀ i, i < k → IsInts w (ms i) (pMs pieces i)
  blk : ∀ i, i < k → ∀ b, (ms i).ownBlock = some b → v.ownBlock ≠ some b ∧ base ≤ b ∧ b < w.heap.size
theorem PRow.nil (w : World) (base : Nat) (pieces : List Pce) (ms : Nat → Value) : PRow w base (.slice none 0 0) pieces 0 ms := ⟨own_nil _ _ _ _, fun i h => absurd h (Nat.not_lt_zero i), fun i h => absurd h (Nat.not_lt_zero i)⟩
theorem PRow.ext {w w' : World} {base : Nat} {v : Value} {pieces : List Pce} {k : Nat} {ms : Nat → Value} (h : PRow w base v pieces k ms) (e : Ext w w') : PRow w' base v pieces k ms :=
  ⟨own_ext h.own e, fun i hi => (h.ints i hi).ext e, fun i hi b hb => ⟨(h.blk i hi b hb).1, (h.blk i hi b hb).2.1, Nat.lt_of_lt_of_le (h.blk i hi b hb).2.2 e.size⟩⟩
theorem PRow.snoc {W W' : World} {base : Nat} {v : Value} {pieces : List Pce} {k : Nat} {ms : Nat → Value} (h : PRow W base v pieces k ms) (m : Value) (hm : IsInts W m (pMs pieces k)) (hE : ∀ b, m.ownBlock = some b → v.ownBlock ≠ some b ∧ base ≤ b ∧ b < W.heap.size)
    (g cap : Nat) (hown : W'.ownsRow base 143 2 (.slice (some ⟨g, 0, none⟩) (k + 1) cap) (k + 1) (((List.range k).flatMap fun i => [ms i, .int .i64 (pBd pieces i)]) ++ [m, .int .i64 (pBd pieces k)])) (hg : W.grownBy W' v.ownBlock) (hor : v.ownBlock = some g ∨ W.heap.size ≤ g) :
    PRow W' base (.slice (some ⟨g, 0, none⟩) (k + 1) cap) pieces (k + 1) (fun i => if i < k then ms i else m) := by
  have hne : ∀ b, (b < W.heap.size ∧ v.ownBlock ≠ some b) → (Value.slice (some ⟨g, 0, none⟩) (k + 1) cap).ownBlock ≠ some b := fun b ⟨h1, h2⟩ h3 => by
    have : g = b := by simpa [Value.ownBlock] using h3
    subst this
    rcases hor with h | h
    · exact h2 h
    · omega
  refine ⟨?_, fun i hi => ?_, fun i hi b hb => ?_⟩
  · have e : ((List.range (k + 1)).flatMap fun i => [if i < k then ms i else m, .int .i64 (pBd pieces i)]) = ((List.range k).flatMap fun i => [ms i, .int .i64 (pBd pieces i)]) ++ [m, .int .i64 (pBd pieces k)] := by
      rw [List.range_succ, List.flatMap_append]
      congr 1
      · simp only [List.flatMap_def]
        congr 1
        apply List.map_congr_left
        intro i hi
        rw [if_pos (List.mem_range.1 hi)]
      · simp
    rw [e]
    exact hown
  · by_cases h1 : i < k
    · rw [if_pos h1]
      exact ints_grown (h.ints i h1) hg fun b hb => (h.blk i h1 b hb).1
    · obtain rfl : i = k := by omega
      rw [if_neg h1]
      exact ints_grown hm hg fun b hb => (hE b hb).1
  · by_cases h1 : i < k
    · rw [if_pos h1] at hb
      have h2 := h.blk i h1 b hb
      exact ⟨hne b ⟨h2.2.2, h2.1⟩, h2.2.1, Nat.lt_of_lt_of_le h2.2.2 hg.size⟩
    · rw [if_neg h1] at hb
      exact ⟨hne b ⟨(hE b hb).2.2, (hE b hb).1⟩, (hE b hb).2.1, Nat.lt_of_lt_of_le (hE b hb).2.2 hg.size⟩
theorem own_kept {W W' : World} {base : Nat} {e : TypeId} {size : Nat} {v : Value} {n : Nat} {xs : List Value} {ow : Nat → Prop} (h : W.ownsRow base e size v n xs) (hk : Kept ow W W') (hlo : ∀ b, ow b → b < base) : W'.ownsRow base e size v n xs := by
  refine ⟨h.1, h.2.imp id ?_⟩
  rintro ⟨g', cap', cur, he, hg', hc', r⟩
  exact ⟨g', cap', cur, he, hg', hk.keep hc' (fun ho => by have := hlo _ ho; omega), r⟩
theorem own_low {W : World} {base base' : Nat} {e : TypeId} {size : Nat} {v : Value} {n : Nat} {xs : List Value} (h : W.ownsRow base e size v n xs) (hb : base' ≤ base) : W.ownsRow base' e size v n xs := by
  refine ⟨h.1, h.2.imp id ?_⟩
  rintro ⟨g', cap', cur, he, hg', r⟩
  exact ⟨g', cap', cur, he, Nat.le_trans hb hg', r⟩
theorem PRow.low {w : World} {base base' : Nat} {v : Value} {pieces : List Pce} {k : Nat} {ms : Nat → Value} (h : PRow w base v pieces k ms) (hb : base' ≤ base) : PRow w base' v pieces k ms :=
  ⟨own_low h.own hb, h.ints, fun i hi b he => ⟨(h.blk i hi b he).1, Nat.le_trans hb (h.blk i hi b he).2.1, (h.blk i hi b he).2.2⟩⟩
theorem PRow.kept {W W' : World} {base : Nat} {v : Value} {pieces : List Pce} {k : Nat} {ms : Nat → Value} {ow : Nat → Prop} (h : PRow W base v pieces k ms) (hk : Kept ow W W') (hlo : ∀ b, ow b → b < base) : PRow W' base v pieces k ms := by
  refine ⟨⟨h.own.1, h.own.2.imp id ?_⟩, fun i hi => (h.ints i hi).kept (fun b hb ho => by have := (h.blk i hi b hb).2.1; have := hlo b ho; omega) hk, fun i hi b hb => ⟨(h.blk i hi b hb).1, (h.blk i hi b hb).2.1, Nat.lt_of_lt_of_le (h.blk i hi b hb).2.2 hk.size⟩⟩
  rintro ⟨g', cap', cur, he, hg', hc', r⟩
  exact ⟨g', cap', cur, he, hg', hk.keep hc' (fun ho => by have := hlo _ ho; omega), r⟩
theorem pceRow_at (pieces : List Pce) (ms : Nat → Value) : ∀ k i, i < k → ((List.range k).flatMap fun i => [ms i, .int .i64 (pBd pieces i)])[i * 2]? = some (ms i) ∧ ((List.range k).flatMap fun i => [ms i, Value.int .i64 (pBd pieces i)])[i * 2 + 1]? = some (.int .i64 (pBd pieces i))
  | 0, i, h => absurd h (Nat.not_lt_zero i)
  | k + 1, i, h => by
    have hl : ((List.range k).flatMap fun i => [ms i, Value.int .i64 (pBd pieces i)]).length = k * 2 := by
      rw [length_flatMap_const _ 2 _ (fun x _ => rfl), List.length_range]
    rw [List.range_succ, List.flatMap_append]
    by_cases h1 : i < k
    · rw [List.getElem?_append_left (by omega), List.getElem?_append_left (by omega)]
      exact pceRow_at pieces ms k i h1
    · obtain rfl : i = k := by omega
      rw [List.getElem?_append_right (by omega), List.getElem?_append_right (by omega), hl]
      simp
theorem PRow.pces {w : World} {base : Nat} {v : Value} {pieces : List Pce} {k : Nat} {ms : Nat → Value} (h : PRow w base v pieces k ms) (hk : pieces.length = k) (hl : k ≤ 1000) : IsPces w v pieces := by
  subst hk
  obtain ⟨h1, h2⟩ := h.own
  refine ⟨by omega, ?_⟩
  rcases h2 with ⟨rfl, h0⟩ | ⟨g, cap, cur, rfl, hg, hc, hcap, hmax, hsz, htk⟩
  · exact ⟨none, 0, by rw [h0], fun h => by omega⟩
  · refine ⟨_, cap, rfl, fun _ => ⟨g, 0, rfl, fun i hi => ⟨ms i, ?_, h.ints i hi, ?_⟩⟩⟩
    · have h3 := (pceRow_at pieces ms _ i hi).1
      rw [← htk, List.getElem?_take_of_lt (by omega)] at h3
      rw [blk_cell hc, Nat.zero_add]
      simpa using h3
    · have h3 := (pceRow_at pieces ms _ i hi).2
      rw [← htk, List.getElem?_take_of_lt (by omega)] at h3
      rw [blk_cell hc, Nat.zero_add]
      simpa using h3
set_option maxHeartbeats 3200000 in
set_option maxRecDepth 100000 in
theorem table_o (A : Option Addr) (n wc : Nat) (women : List Wom) (S : Option Addr) (pn pc : Nat) (pieces : List Pce) (wrong : Int) (w : World) (hW : IsWoms w (.slice A n wc) women) (hwl : women.length = n) (hP : IsPces w (.slice S pn pc) pieces) (hpl : pieces.length = pn) (hn : n ≤ 1000) (hpn : pn ≤ 1000) (hm : ∀ i, i < pn → (pMs pieces i).length ≤ 1000) :
    Calls Tryz.prog 51 #[.agg #[.slice A n wc, .slice S pn pc, .int .i64 wrong]] w
      fun e w' => ∃ A' wc' S' pc' ms, e = .returned (.agg #[.slice A' n wc', .slice S' pn pc', .int .i64 wrong]) ∧ w'.ownsRow w.heap.size 148 3 (.slice A' n wc') n (womCells women) ∧ PRow w' w.heap.size (.slice S' pn pc') pieces pn ms ∧ Ext w w' := by
  have KW := hid hW
  have KP := hid hP
  have HWL := hid hwl
  have HPL := hid hpl
  have HM := hid hm
  clear hW hP hwl hpl hm
  go_enter Tryz.func51, Tryz.ntmps51
  go_wp2
  refine wp_gen ?_
  intro Wl hWl
  have hEl : Ext w Wl := by rw [hWl]; go_grown
  have l1 : Wl.heap[w.heap.size]? = some (.cells #[.slice A n wc, .slice S pn pc, .int .i64 wrong] 25 (0, 0)) := by rw [hWl]; exact (by repeat (first | exact heap_alloc_at _ _ (by simp) | refine heap_alloc_keep ?_))
  have l2 : Wl.heap[w.heap.size + 1]? = some (.cells #[.slice none 0 0, .slice none 0 0, .int .i64 0] 38 (0, 0)) := by rw [hWl]; exact (by repeat (first | exact heap_alloc_at _ _ (by simp) | refine heap_alloc_keep ?_))
  have l3 : Wl.heap[w.heap.size + 1 + 1]? = some (.cells #[.slice none 0 0, .slice none 0 0, .int .i64 wrong] 38 (0, 0)) := by rw [hWl]; exact (by repeat (first | exact heap_alloc_at _ _ (by simp) | refine heap_alloc_keep ?_))
  have hsl : Wl.heap.size = w.heap.size + 3 := by rw [hWl]; simp
  have L1 := hid l1
  have L2 := hid l2
  have L3 := hid l3
  have HSL := hid hsl
  have HEL := hid hEl
  clear hWl l1 l2 l3 hsl hEl
  go_loopw [4] (fun i wr => ∃ (k : Nat) (v : Value), k ≤ n ∧ i = .int .i64 k ∧ wr.heap[w.heap.size + 1 + 1]? = some (.cells #[v, .slice none 0 0, .int .i64 wrong] 38 (0, 0)) ∧ wr.ownsRow Wl.heap.size 148 3 v k (womCells (women.take k)) ∧ Kept (fun b => b = w.heap.size + 1 + 1) Wl wr) (fun i _ => n - (intOf i).toNat)
  case atStart => exact ⟨0, .slice none 0 0, Nat.zero_le _, rfl, L3.out, own_nil _ _ _ _, Kept.refl _ _⟩
  case round =>
    obtain ⟨k, v, hk, rfl, hv, hown, hkp⟩ := hrel
    have hsl := HSL.out
    have HSX := hid hsl
    have c1 := blk_cell (hkp.keep L1.out (by omega))
    have c3 := blk_cell hv
    have hl3 : w.heap.size + 1 + 1 < wr.heap.size := (Array.getElem?_eq_some_iff.1 hv).1
    have hl1 : w.heap.size < wr.heap.size := by omega
    have hew : Ext w wr := hkp.extOld HEL.out (fun b hb h => by omega)
    have HOW := hid hown
    have HKP := hid hkp
    have HV := hid hv
    have hsz : Wl.heap.size ≤ wr.heap.size := hkp.size
    clear hkp hv hsl
    by_cases hlt : k < n
    · obtain ⟨b, o, hA, hcell⟩ := (KW.out.ext hew).at (by omega)
      obtain ⟨m0, m1, m2⟩ := hcell k hlt
      obtain ⟨O, oc, rfl⟩ := own_slice hown
      have hs := wom_at women k (by have := HWL.out; omega)
      obtain ⟨mk, hmk⟩ : ∃ x, wMk women k = x := ⟨_, rfl⟩
      obtain ⟨lo, hlo⟩ : ∃ x, wLo women k = x := ⟨_, rfl⟩
      obtain ⟨hi, hhi⟩ : ∃ x, wHi women k = x := ⟨_, rfl⟩
      rw [hmk, hlo, hhi] at hs
      rw [hmk] at m0
      rw [hlo] at m1
      rw [hhi] at m2
      have HS := hid hs
      have hi0 : (0 : Int) ≤ (k : Int) := by omega
      have hi1 : (k : Int) < (n : Int) := by omega
      clear hcell hs hmk hlo hhi hown
      subst hA
      have eA : Ext wr (wr.alloc (.cells #[.int .i64 mk, .int .i64 lo, .int .i64 hi] 145)) := by go_grown
      go_wp2_with (at_builtin; refine app_cellsH rfl _ _ 35 148 (.agg #[.int .i64 0, .int .i64 0, .int .i64 0]) 24 #[.int .i64 mk, .int .i64 lo, .int .i64 hi] rfl Tryz.underlying35 (by kernel_rfl) rfl (by simp) (by decide) (by simp [Value.oneCell']) Wl.heap.size _ k _ _ rfl rfl (by simp) (own_ext HOW.out eA) (Nat.le_trans hsz eA.size) (by omega) ?_; intro g cap w3 hown3 hB3 hg3 hlt3 hbg3
                   have b3 : w3.heap[w.heap.size + 1 + 1]? = some (.cells #[.slice O k oc, .slice none 0 0, .int .i64 wrong] 38 (0, 0)) := by
                     rw [hB3.block _ (by have := HSX.out; omega)]
                     exact ext_blk_keep eA HV.out
                   have c4 := blk_cell b3
                   have z4 : ∀ j, w3.frozen? ⟨w.heap.size + 1 + 1, j, none⟩ = false := fun j => frozen_of_row w3 _ j _ _ b3
                   have B3 := hid b3
                   clear b3)
      go_roundw
      case rel =>
        refine ⟨k + 1, .slice (some ⟨g, 0, none⟩) (k + 1) cap, hlt, by go_num, heap_set_at B3.out rfl, ?_, ?_⟩
        · have hbg' : w.heap.size + 1 + 1 < g := by have := HSX.out; omega
          rw [HS.out, womCells_append]
          obtain ⟨h1, h2⟩ := hown3
          refine ⟨h1, h2.imp id ?_⟩
          rintro ⟨g', cap', cur, he, hg', hc', r⟩
          have he' : g' = g := by injection he with h; injection h with h; injection h with h; exact h.symm
          exact ⟨g', cap', cur, he, hg', heap_set_keep (by omega) hc', r⟩
        · refine Kept.set ?_ _ rfl
          have hE3 : Below Wl.heap.size (wr.alloc (.cells #[.int .i64 mk, .int .i64 lo, .int .i64 hi] 145)) w3 := hB3
          exact ⟨hE3.os.trans (HKP.out.ext eA).os, hE3.tape.trans (HKP.out.ext eA).tape, hE3.output.trans (HKP.out.ext eA).output, Nat.le_trans (HKP.out.ext eA).size hE3.size, fun b hb hob => (hE3.block b hb).trans ((HKP.out.ext eA).blk b hb hob)⟩
      case measure => simp [intOf]; omega
    · obtain rfl : k = n := by omega
      rw [List.take_of_length_le (by have := HWL.out; omega)] at HOW
      obtain ⟨O, oc, rfl⟩ := own_slice hown
      clear hown
      go_wp2
      refine wp_gen ?_
      intro W2 hW2
      subst hW2
      have T1 := hid (blk_cell (HKP.out.keep L1.out (by omega)))
      have T1B := hid (HKP.out.keep L1.out (by omega))
      have HEW := hid hew
      have hs2 : Wl.heap.size ≤ W2.heap.size := hsz
      clear c1 c3 hew
      go_loopw [6] (fun i wr => ∃ (q : Nat) (v : Value) (ms : Nat → Value), q ≤ pn ∧ i = .int .i64 q ∧ wr.heap[w.heap.size + 1 + 1]? = some (.cells #[.slice O k oc, v, .int .i64 wrong] 38 (0, 0)) ∧ PRow wr W2.heap.size v pieces q ms ∧ Kept (fun b => b = w.heap.size + 1 + 1) W2 wr) (fun i _ => pn - (intOf i).toNat)
      case atStart => exact ⟨0, .slice none 0 0, fun _ => undef, Nat.zero_le _, rfl, HV.out, PRow.nil _ _ _ _, Kept.refl _ _⟩
      case round =>
        obtain ⟨q, v, ms, hq, rfl, hv3, hrow, hkp⟩ := hrel
        obtain ⟨P, pcp, rfl⟩ := own_slice hrow.own
        have hlt3 := (Array.getElem?_eq_some_iff.1 hv3).1
        have hew2 : Ext w wr := hkp.extOld HEW.out (fun b hb h => by omega)
        have b1 := hkp.keep T1B.out (by omega)
        have c1 := blk_cell b1
        have c3 := blk_cell hv3
        have z3 : ∀ j, wr.frozen? ⟨w.heap.size + 1 + 1, j, none⟩ = false := fun j => frozen_of_row wr _ j _ _ hv3
        have V3 := hid hv3
        have HROW := hid hrow
        have HKP2 := hid hkp
        have hszq := hkp.size
        have B1 := hid b1
        clear hv3 hrow b1
        by_cases hlt : q < pn
        · obtain ⟨pb, po, hS, hpc⟩ := KP.out.at (by omega)
          subst hS
          obtain ⟨mv, m1, m2, m3⟩ := hpc q hlt
          obtain ⟨marks, hms⟩ : ∃ x, pMs pieces q = x := ⟨_, rfl⟩
          obtain ⟨bd, hbd⟩ : ∃ x, pBd pieces q = x := ⟨_, rfl⟩
          rw [hms] at m2
          rw [hbd] at m3
          obtain ⟨MA, Mc, rfl⟩ := m2.val
          have hml := HM.out q hlt
          rw [hms] at hml
          have HMS := hid hms
          have HBD := hid hbd
          have KM := hid m2
          have hq0 : (0 : Int) ≤ (q : Int) := by omega
          have hq1 : (q : Int) < (pn : Int) := by omega
          have hpb1 := cell_lt m1
          have f1 : ∀ W, Kept (fun b => b = w.heap.size + 1 + 1) W2 W → ∀ j, W.cell? ⟨w.heap.size, j, none⟩ = (#[.slice A k wc, .slice (some ⟨pb, po, none⟩) pn pc, .int .i64 wrong] : Array Value)[j]? := fun W h => blk_cell (h.keep T1B.out (by omega))
          have f2 : ∀ W, Kept (fun b => b = w.heap.size + 1 + 1) W2 W → W.cell? ⟨pb, po + q * 2, none⟩ = some (.slice MA marks.length Mc) := fun W h => by
            rw [← cell_ext HEW.out m1]; exact World.cell?_of_block (h.blk pb (by omega) (by omega))
          have f3 : ∀ W, Kept (fun b => b = w.heap.size + 1 + 1) W2 W → W.cell? ⟨pb, po + q * 2 + 1, none⟩ = some (.int .i64 bd) := fun W h => by
            rw [← cell_ext HEW.out m3]; exact World.cell?_of_block (h.blk pb (by omega) (by omega))
          clear hpc m1 m2 m3 hms hbd
          go_wp2
          clear c1
          refine region_plainR (Kept (fun b => b = w.heap.size + 1 + 1) W2) 20 #[false, false, false, false, false, false, false, false, false, false, false, false, false, false, false, false, false, false, false, false] (by kernel_rfl) (by kernel_rfl) (by kernel_rfl) (fun R HR => ?_)
          obtain ⟨V0, hV0⟩ : ∃ V0, wr.drew = V0 := ⟨_, rfl⟩
          rw [hV0]
          have x0 : Ext wr V0 := by rw [← hV0]; exact (ext_refl wr).drew
          have y0 : Kept (fun b => b = w.heap.size + 1 + 1) W2 V0 := HKP2.out.ext x0
          have s0 := x0.size
          clear hV0
          refine takeR (i := 0) (oi := ?_) (v := ?_) ?_ (by kernel_rfl) (by kernel_rfl) (by kernel_rfl) ?_ ?_ (by assumption) ?_
          rotate_left 2
          · simp only [List.getElem?_toArray, List.getElem?_cons_succ, List.getElem?_cons_zero]; rfl
          · kernel_rfl
          · intro Wx hSx
            try dsimp only at hSx
            go_simp
            try with_reducible rfl
          simp only [Act.put, List.setIfInBounds_toArray, List.set_cons_zero, List.set_cons_succ]
          refine takeR (i := 2) (oi := ?_) (v := ?_) ?_ (by kernel_rfl) (by kernel_rfl) (by kernel_rfl) ?_ ?_ (by assumption) ?_
          rotate_left 2
          · simp only [List.getElem?_toArray, List.getElem?_cons_succ, List.getElem?_cons_zero]; rfl
          · kernel_rfl
          · intro Wx hSx
            try dsimp only at hSx
            go_simp
            try with_reducible rfl
          simp only [Act.put, List.setIfInBounds_toArray, List.set_cons_zero, List.set_cons_succ]
          refine takeR (i := 3) (oi := ?_) (v := ?_) ?_ (by kernel_rfl) (by kernel_rfl) (by kernel_rfl) ?_ ?_ (by assumption) ?_
          rotate_left 2
          · simp only [List.getElem?_toArray, List.getElem?_cons_succ, List.getElem?_cons_zero]; rfl
          · kernel_rfl
          · intro Wx hSx
            try dsimp only at hSx
            go_simp
            try with_reducible rfl
          simp only [Act.put, List.setIfInBounds_toArray, List.set_cons_zero, List.set_cons_succ]
          refine takeR (i := 4) (oi := ?_) (v := ?_) ?_ (by kernel_rfl) (by kernel_rfl) (by kernel_rfl) ?_ ?_ (by assumption) ?_
          rotate_left 2
          · simp only [List.getElem?_toArray, List.getElem?_cons_succ, List.getElem?_cons_zero]; rfl
          · kernel_rfl
          · intro Wx hSx
            try dsimp only at hSx
            go_simp
            try with_reducible rfl
          simp only [Act.put, List.setIfInBounds_toArray, List.set_cons_zero, List.set_cons_succ]
          refine takeR (i := 5) (oi := ?_) (v := ?_) ?_ (by kernel_rfl) (by kernel_rfl) (by kernel_rfl) ?_ ?_ (by assumption) ?_
          rotate_left 2
          · simp only [List.getElem?_toArray, List.getElem?_cons_succ, List.getElem?_cons_zero]; rfl
          · kernel_rfl
          · intro Wx hSx
            try dsimp only at hSx
            go_simp
            try with_reducible rfl
          simp only [Act.put, List.setIfInBounds_toArray, List.set_cons_zero, List.set_cons_succ]
          refine takeR (i := 6) (oi := ?_) (v := ?_) ?_ (by kernel_rfl) (by kernel_rfl) (by kernel_rfl) ?_ ?_ (by assumption) ?_
          rotate_left 2
          · simp only [List.getElem?_toArray, List.getElem?_cons_succ, List.getElem?_cons_zero]; rfl
          · kernel_rfl
          · intro Wx hSx
            try dsimp only at hSx
            go_simp
            try with_reducible rfl
          simp only [Act.put, List.setIfInBounds_toArray, List.set_cons_zero, List.set_cons_succ]
          refine takeR (i := 7) (oi := ?_) (v := ?_) ?_ (by kernel_rfl) (by kernel_rfl) (by kernel_rfl) ?_ ?_ (by assumption) ?_
          rotate_left 2
          · simp only [List.getElem?_toArray, List.getElem?_cons_succ, List.getElem?_cons_zero]; rfl
          · kernel_rfl
          · intro Wx hSx
            try dsimp only at hSx
            go_simp
            try with_reducible rfl
          simp only [Act.put, List.setIfInBounds_toArray, List.set_cons_zero, List.set_cons_succ]
          refine takeR (i := 9) (oi := ?_) (v := ?_) ?_ (by kernel_rfl) (by kernel_rfl) (by kernel_rfl) ?_ ?_ (by assumption) ?_
          rotate_left 2
          · simp only [List.getElem?_toArray, List.getElem?_cons_succ, List.getElem?_cons_zero]; rfl
          · kernel_rfl
          · intro Wx hSx
            try dsimp only at hSx
            go_simp
            try with_reducible rfl
          simp only [Act.put, List.setIfInBounds_toArray, List.set_cons_zero, List.set_cons_succ]
          refine takeR (i := 10) (oi := ?_) (v := ?_) ?_ (by kernel_rfl) (by kernel_rfl) (by kernel_rfl) ?_ ?_ (by assumption) ?_
          rotate_left 2
          · simp only [List.getElem?_toArray, List.getElem?_cons_succ, List.getElem?_cons_zero]; rfl
          · kernel_rfl
          · intro Wx hSx
            try dsimp only at hSx
            go_simp
            try with_reducible rfl
          simp only [Act.put, List.setIfInBounds_toArray, List.set_cons_zero, List.set_cons_succ]
          refine takeR (i := 11) (oi := ?_) (v := ?_) ?_ (by kernel_rfl) (by kernel_rfl) (by kernel_rfl) ?_ ?_ (by assumption) ?_
          rotate_left 2
          · simp only [List.getElem?_toArray, List.getElem?_cons_succ, List.getElem?_cons_zero]; rfl
          · kernel_rfl
          · intro Wx hSx
            try dsimp only at hSx
            go_simp
            try with_reducible rfl
          simp only [Act.put, List.setIfInBounds_toArray, List.set_cons_zero, List.set_cons_succ]
          refine takeR (i := 12) (oi := ?_) (v := ?_) ?_ (by kernel_rfl) (by kernel_rfl) (by kernel_rfl) ?_ ?_ (by assumption) ?_
          rotate_left 2
          · simp only [List.getElem?_toArray, List.getElem?_cons_succ, List.getElem?_cons_zero]; rfl
          · kernel_rfl
          · intro Wx hSx
            try dsimp only at hSx
            go_simp
            try with_reducible rfl
          simp only [Act.put, List.setIfInBounds_toArray, List.set_cons_zero, List.set_cons_succ]
          refine takeR (i := 13) (oi := ?_) (v := ?_) ?_ (by kernel_rfl) (by kernel_rfl) (by kernel_rfl) ?_ ?_ (by assumption) ?_
          rotate_left 2
          · simp only [List.getElem?_toArray, List.getElem?_cons_succ, List.getElem?_cons_zero]; rfl
          · kernel_rfl
          · intro Wx hSx
            try dsimp only at hSx
            go_simp
            try with_reducible rfl
          simp only [Act.put, List.setIfInBounds_toArray, List.set_cons_zero, List.set_cons_succ]
          refine takeR (i := 14) (oi := ?_) (v := ?_) ?_ (by kernel_rfl) (by kernel_rfl) (by kernel_rfl) ?_ ?_ (by assumption) ?_
          rotate_left 2
          · simp only [List.getElem?_toArray, List.getElem?_cons_succ, List.getElem?_cons_zero]; rfl
          · kernel_rfl
          · intro Wx hSx
            try dsimp only at hSx
            go_simp
            try with_reducible rfl
          simp only [Act.put, List.setIfInBounds_toArray, List.set_cons_zero, List.set_cons_succ]
          clear f1 f2 f3
          refine wpAnyH_ready (rs := [1, 8]) (by kernel_rfl) (by simp) ?_
          refine AllReadyH.cons (o := ?_) ?_ (fun K hK => ?_) ?_
          rotate_left
          · simp only [List.getElem?_toArray, List.getElem?_cons_succ, List.getElem?_cons_zero]; rfl
          · have c4 := blk_cell (ext_blk_keep x0 V3.out)
            go_simp
            refine hK.out _ _ y0 (fun hHeld => ?_)
            clear hK K
            simp only [Act.put, List.setIfInBounds_toArray, List.set_cons_zero, List.set_cons_succ]
            clear c4
            refine wpAnyH_ready (rs := [8]) (by kernel_rfl) (by simp) ?_
            refine AllReadyH.cons (o := ?_) ?_ (fun K hK => ?_) AllReadyH.nil
            rotate_left
            · simp only [List.getElem?_toArray, List.getElem?_cons_succ, List.getElem?_cons_zero]; rfl
            go_simp
            refine (list3_c2 _ marks _ (KM.out.ext (ext_trans hew2 x0)) hml).mono ?_
            rintro e W1 ⟨lv, rfl, hlv, hE1, hob⟩
            have x1 := ext_trans x0 hE1
            refine hK.out _ _ (HKP2.out.ext x1) (fun hHeld => ?_)
            clear hK K
            simp only [Act.put, List.setIfInBounds_toArray, List.set_cons_zero, List.set_cons_succ]
            obtain ⟨LA, lc, rfl⟩ := hlv.val
            refine takeR (i := 15) (oi := ?_) (v := ?_) ?_ (by kernel_rfl) (by kernel_rfl) (by kernel_rfl) ?_ ?_ (by assumption) ?_
            rotate_left 2
            · simp only [List.getElem?_toArray, List.getElem?_cons_succ, List.getElem?_cons_zero]; rfl
            · kernel_rfl
            · intro Wx hSx
              try dsimp only at hSx
              go_simp
              try with_reducible rfl
            simp only [Act.put, List.setIfInBounds_toArray, List.set_cons_zero, List.set_cons_succ]
            refine wpAnyH_ready (rs := [16]) (by kernel_rfl) (by simp) ?_
            refine AllReadyH.cons (o := ?_) ?_ (fun K hK => ?_) AllReadyH.nil
            rotate_left
            · simp only [List.getElem?_toArray, List.getElem?_cons_succ, List.getElem?_cons_zero]; rfl
            go_simp
            refine hK.out _ _ ((HKP2.out.ext x1).alloc _) (fun hHeld => ?_)
            clear hK K
            simp only [Act.put, List.setIfInBounds_toArray, List.set_cons_zero, List.set_cons_succ]
            refine wpAnyH_ready (rs := [17]) (by kernel_rfl) (by simp) ?_
            refine AllReadyH.cons (o := ?_) ?_ (fun K hK => ?_) AllReadyH.nil
            rotate_left
            · simp only [List.getElem?_toArray, List.getElem?_cons_succ, List.getElem?_cons_zero]; rfl
            refine step_app_one (W0 := W1) (by rfl) _ _ 36 143 (by rfl) Tryz.underlying36 (.agg #[.slice none 0 0, .int .i64 0]) 32 #[.slice LA marks.length lc, .int .i64 bd] (by kernel_rfl) rfl (by simp) (by simp) (by decide) (by simp [Value.oneCell']) W2.heap.size _ q _ (by rfl) (by exact own_ext HROW.out.own x1) (by exact ext_alloc (ext_refl _) _) _ (by rfl) (heap_alloc_at _ _ (by simp)) (by have := x1.size; omega) (by omega) ?_
            intro g cap w5 hown5 hB5 hg5 hor5
            have eA : Ext W1 (W1.alloc (.cells #[.slice LA marks.length lc, .int .i64 bd] 143)) := ext_alloc (ext_refl _) _
            have xA := ext_trans x1 eA
            have hk5 : Kept (fun b => b = w.heap.size + 1 + 1) W2 w5 := ⟨hB5.os.trans (HKP2.out.ext xA).os, hB5.tape.trans (HKP2.out.ext xA).tape, hB5.output.trans (HKP2.out.ext xA).output, Nat.le_trans (HKP2.out.ext xA).size hB5.size, fun b hb ho => (hB5.block b hb).trans ((HKP2.out.ext xA).blk b hb ho)⟩
            have b5 : w5.heap[w.heap.size + 1 + 1]? = some (.cells #[.slice O k oc, .slice P q pcp, .int .i64 wrong] 38 (0, 0)) := by
              rw [hB5.block _ (by omega)]; exact ext_blk_keep xA V3.out
            have HROW5 := hid ((HROW.out.ext xA).snoc (.slice LA marks.length lc) (by rw [HMS.out]; exact hlv.ext eA) (fun b hb => by
              have h1 := hob b hb
              have h2 := own_block HROW.out.own b
              have h3 := x1.size
              have h4 := eA.size
              have h5 := x0.size
              exact ⟨fun h' => by have := (h2 h').2; omega, by omega, by omega⟩) g cap (by rw [HBD.out]; exact hown5) hg5 hor5)
            refine hK.out _ _ hk5 (fun hHeld => ?_)
            clear hK K
            simp only [Act.put, List.setIfInBounds_toArray, List.set_cons_zero, List.set_cons_succ]
            have c5 := blk_cell b5
            have z5 : ∀ j, w5.frozen? ⟨w.heap.size + 1 + 1, j, none⟩ = false := fun j => frozen_of_row w5 _ j _ _ b5
            have B5 := hid b5
            clear b5 c3 z3
            refine takeR (i := 18) (oi := ?_) (v := ?_) ?_ (by kernel_rfl) (by kernel_rfl) (by kernel_rfl) ?_ ?_ (by assumption) ?_
            rotate_left 2
            · simp only [List.getElem?_toArray, List.getElem?_cons_succ, List.getElem?_cons_zero]; rfl
            · kernel_rfl
            · intro Wx hSx
              try dsimp only at hSx
              go_simp
              try with_reducible rfl
            simp only [Act.put, List.setIfInBounds_toArray, List.set_cons_zero, List.set_cons_succ]
            refine wpAnyH_ready (rs := [19]) (by kernel_rfl) (by simp) ?_
            refine AllReadyH.cons (o := ?_) ?_ (fun K hK => ?_) AllReadyH.nil
            rotate_left
            · simp only [List.getElem?_toArray, List.getElem?_cons_succ, List.getElem?_cons_zero]; rfl
            go_simp
            refine hK.out _ _ (hk5.set _ rfl) (fun hHeld => ?_)
            clear hK K
            simp only [Act.put, List.setIfInBounds_toArray, List.set_cons_zero, List.set_cons_succ]
            refine done_R HR (by kernel_rfl) ?_
            clear HR c5 z5
            go_wp2
            go_roundw
            case rel => exact ⟨q + 1, _, _, hlt, by go_num, heap_set_at B5.out rfl, HROW5.out.kept ((Kept.refl (fun b => b = w.heap.size + 1 + 1) _).set _ rfl) (fun b hb => by omega), hk5.set _ rfl⟩
            case measure => simp [intOf]; omega
          refine AllReadyH.cons (o := ?_) ?_ (fun K hK => ?_) AllReadyH.nil
          rotate_left
          · simp only [List.getElem?_toArray, List.getElem?_cons_succ, List.getElem?_cons_zero]; rfl
          · go_simp
            refine (list3_c2 _ marks _ (KM.out.ext (ext_trans hew2 x0)) hml).mono ?_
            rintro e W1 ⟨lv, rfl, hlv, hE1, hob⟩
            have x1 := ext_trans x0 hE1
            have c4 := blk_cell (ext_blk_keep x1 V3.out)
            refine hK.out _ _ (HKP2.out.ext x1) (fun hHeld => ?_)
            clear hK K
            simp only [Act.put, List.setIfInBounds_toArray, List.set_cons_zero, List.set_cons_succ]
            obtain ⟨LA, lc, rfl⟩ := hlv.val
            refine takeR (i := 15) (oi := ?_) (v := ?_) ?_ (by kernel_rfl) (by kernel_rfl) (by kernel_rfl) ?_ ?_ (by assumption) ?_
            rotate_left 2
            · simp only [List.getElem?_toArray, List.getElem?_cons_succ, List.getElem?_cons_zero]; rfl
            · kernel_rfl
            · intro Wx hSx
              try dsimp only at hSx
              go_simp
              try with_reducible rfl
            simp only [Act.put, List.setIfInBounds_toArray, List.set_cons_zero, List.set_cons_succ]
            refine wpAnyH_ready (rs := [1, 16]) (by kernel_rfl) (by simp) ?_
            refine AllReadyH.cons (o := ?_) ?_ (fun K hK => ?_) ?_
            rotate_left
            · simp only [List.getElem?_toArray, List.getElem?_cons_succ, List.getElem?_cons_zero]; rfl
            · go_simp
              refine hK.out _ _ (HKP2.out.ext x1) (fun hHeld => ?_)
              clear hK K
              simp only [Act.put, List.setIfInBounds_toArray, List.set_cons_zero, List.set_cons_succ]
              clear c4
              refine wpAnyH_ready (rs := [16]) (by kernel_rfl) (by simp) ?_
              refine AllReadyH.cons (o := ?_) ?_ (fun K hK => ?_) AllReadyH.nil
              rotate_left
              · simp only [List.getElem?_toArray, List.getElem?_cons_succ, List.getElem?_cons_zero]; rfl
              go_simp
              refine hK.out _ _ ((HKP2.out.ext x1).alloc _) (fun hHeld => ?_)
              clear hK K
              simp only [Act.put, List.setIfInBounds_toArray, List.set_cons_zero, List.set_cons_succ]
              refine wpAnyH_ready (rs := [17]) (by kernel_rfl) (by simp) ?_
              refine AllReadyH.cons (o := ?_) ?_ (fun K hK => ?_) AllReadyH.nil
              rotate_left
              · simp only [List.getElem?_toArray, List.getElem?_cons_succ, List.getElem?_cons_zero]; rfl
              refine step_app_one (W0 := W1) (by rfl) _ _ 36 143 (by rfl) Tryz.underlying36 (.agg #[.slice none 0 0, .int .i64 0]) 32 #[.slice LA marks.length lc, .int .i64 bd] (by kernel_rfl) rfl (by simp) (by simp) (by decide) (by simp [Value.oneCell']) W2.heap.size _ q _ (by rfl) (by exact own_ext HROW.out.own x1) (by exact ext_alloc (ext_refl _) _) _ (by rfl) (heap_alloc_at _ _ (by simp)) (by have := x1.size; omega) (by omega) ?_
              intro g cap w5 hown5 hB5 hg5 hor5
              have eA : Ext W1 (W1.alloc (.cells #[.slice LA marks.length lc, .int .i64 bd] 143)) := ext_alloc (ext_refl _) _
              have xA := ext_trans x1 eA
              have hk5 : Kept (fun b => b = w.heap.size + 1 + 1) W2 w5 := ⟨hB5.os.trans (HKP2.out.ext xA).os, hB5.tape.trans (HKP2.out.ext xA).tape, hB5.output.trans (HKP2.out.ext xA).output, Nat.le_trans (HKP2.out.ext xA).size hB5.size, fun b hb ho => (hB5.block b hb).trans ((HKP2.out.ext xA).blk b hb ho)⟩
              have b5 : w5.heap[w.heap.size + 1 + 1]? = some (.cells #[.slice O k oc, .slice P q pcp, .int .i64 wrong] 38 (0, 0)) := by
                rw [hB5.block _ (by omega)]; exact ext_blk_keep xA V3.out
              have HROW5 := hid ((HROW.out.ext xA).snoc (.slice LA marks.length lc) (by rw [HMS.out]; exact hlv.ext eA) (fun b hb => by
                have h1 := hob b hb
                have h2 := own_block HROW.out.own b
                have h3 := x1.size
                have h4 := eA.size
                have h5 := x0.size
                exact ⟨fun h' => by have := (h2 h').2; omega, by omega, by omega⟩) g cap (by rw [HBD.out]; exact hown5) hg5 hor5)
              refine hK.out _ _ hk5 (fun hHeld => ?_)
              clear hK K
              simp only [Act.put, List.setIfInBounds_toArray, List.set_cons_zero, List.set_cons_succ]
              have c5 := blk_cell b5
              have z5 : ∀ j, w5.frozen? ⟨w.heap.size + 1 + 1, j, none⟩ = false := fun j => frozen_of_row w5 _ j _ _ b5
              have B5 := hid b5
              clear b5 c3 z3
              refine takeR (i := 18) (oi := ?_) (v := ?_) ?_ (by kernel_rfl) (by kernel_rfl) (by kernel_rfl) ?_ ?_ (by assumption) ?_
              rotate_left 2
              · simp only [List.getElem?_toArray, List.getElem?_cons_succ, List.getElem?_cons_zero]; rfl
              · kernel_rfl
              · intro Wx hSx
                try dsimp only at hSx
                go_simp
                try with_reducible rfl
              simp only [Act.put, List.setIfInBounds_toArray, List.set_cons_zero, List.set_cons_succ]
              refine wpAnyH_ready (rs := [19]) (by kernel_rfl) (by simp) ?_
              refine AllReadyH.cons (o := ?_) ?_ (fun K hK => ?_) AllReadyH.nil
              rotate_left
              · simp only [List.getElem?_toArray, List.getElem?_cons_succ, List.getElem?_cons_zero]; rfl
              go_simp
              refine hK.out _ _ (hk5.set _ rfl) (fun hHeld => ?_)
              clear hK K
              simp only [Act.put, List.setIfInBounds_toArray, List.set_cons_zero, List.set_cons_succ]
              refine done_R HR (by kernel_rfl) ?_
              clear HR c5 z5
              go_wp2
              go_roundw
              case rel => exact ⟨q + 1, _, _, hlt, by go_num, heap_set_at B5.out rfl, HROW5.out.kept ((Kept.refl (fun b => b = w.heap.size + 1 + 1) _).set _ rfl) (fun b hb => by omega), hk5.set _ rfl⟩
              case measure => simp [intOf]; omega
            refine AllReadyH.cons (o := ?_) ?_ (fun K hK => ?_) AllReadyH.nil
            rotate_left
            · simp only [List.getElem?_toArray, List.getElem?_cons_succ, List.getElem?_cons_zero]; rfl
            · go_simp
              clear c4
              have c4 := blk_cell (ext_blk_keep (ext_alloc x1 (.cells #[.slice LA marks.length lc, .int .i64 bd] 143)) V3.out)
              refine hK.out _ _ ((HKP2.out.ext x1).alloc _) (fun hHeld => ?_)
              clear hK K
              simp only [Act.put, List.setIfInBounds_toArray, List.set_cons_zero, List.set_cons_succ]
              refine wpAnyH_ready (rs := [1]) (by kernel_rfl) (by simp) ?_
              refine AllReadyH.cons (o := ?_) ?_ (fun K hK => ?_) AllReadyH.nil
              rotate_left
              · simp only [List.getElem?_toArray, List.getElem?_cons_succ, List.getElem?_cons_zero]; rfl
              go_simp
              refine hK.out _ _ ((HKP2.out.ext x1).alloc _) (fun hHeld => ?_)
              clear hK K
              simp only [Act.put, List.setIfInBounds_toArray, List.set_cons_zero, List.set_cons_succ]
              clear c4
              refine wpAnyH_ready (rs := [17]) (by kernel_rfl) (by simp) ?_
              refine AllReadyH.cons (o := ?_) ?_ (fun K hK => ?_) AllReadyH.nil
              rotate_left
              · simp only [List.getElem?_toArray, List.getElem?_cons_succ, List.getElem?_cons_zero]; rfl
              refine step_app_one (W0 := W1) (by rfl) _ _ 36 143 (by rfl) Tryz.underlying36 (.agg #[.slice none 0 0, .int .i64 0]) 32 #[.slice LA marks.length lc, .int .i64 bd] (by kernel_rfl) rfl (by simp) (by simp) (by decide) (by simp [Value.oneCell']) W2.heap.size _ q _ (by rfl) (by exact own_ext HROW.out.own x1) (by exact ext_alloc (ext_refl _) _) _ (by rfl) (heap_alloc_at _ _ (by simp)) (by have := x1.size; omega) (by omega) ?_
              intro g cap w5 hown5 hB5 hg5 hor5
              have eA : Ext W1 (W1.alloc (.cells #[.slice LA marks.length lc, .int .i64 bd] 143)) := ext_alloc (ext_refl _) _
              have xA := ext_trans x1 eA
              have hk5 : Kept (fun b => b = w.heap.size + 1 + 1) W2 w5 := ⟨hB5.os.trans (HKP2.out.ext xA).os, hB5.tape.trans (HKP2.out.ext xA).tape, hB5.output.trans (HKP2.out.ext xA).output, Nat.le_trans (HKP2.out.ext xA).size hB5.size, fun b hb ho => (hB5.block b hb).trans ((HKP2.out.ext xA).blk b hb ho)⟩
              have b5 : w5.heap[w.heap.size + 1 + 1]? = some (.cells #[.slice O k oc, .slice P q pcp, .int .i64 wrong] 38 (0, 0)) := by
                rw [hB5.block _ (by omega)]; exact ext_blk_keep xA V3.out
              have HROW5 := hid ((HROW.out.ext xA).snoc (.slice LA marks.length lc) (by rw [HMS.out]; exact hlv.ext eA) (fun b hb => by
                have h1 := hob b hb
                have h2 := own_block HROW.out.own b
                have h3 := x1.size
                have h4 := eA.size
                have h5 := x0.size
                exact ⟨fun h' => by have := (h2 h').2; omega, by omega, by omega⟩) g cap (by rw [HBD.out]; exact hown5) hg5 hor5)
              refine hK.out _ _ hk5 (fun hHeld => ?_)
              clear hK K
              simp only [Act.put, List.setIfInBounds_toArray, List.set_cons_zero, List.set_cons_succ]
              have c5 := blk_cell b5
              have z5 : ∀ j, w5.frozen? ⟨w.heap.size + 1 + 1, j, none⟩ = false := fun j => frozen_of_row w5 _ j _ _ b5
              have B5 := hid b5
              clear b5 c3 z3
              refine takeR (i := 18) (oi := ?_) (v := ?_) ?_ (by kernel_rfl) (by kernel_rfl) (by kernel_rfl) ?_ ?_ (by assumption) ?_
              rotate_left 2
              · simp only [List.getElem?_toArray, List.getElem?_cons_succ, List.getElem?_cons_zero]; rfl
              · kernel_rfl
              · intro Wx hSx
                try dsimp only at hSx
                go_simp
                try with_reducible rfl
              simp only [Act.put, List.setIfInBounds_toArray, List.set_cons_zero, List.set_cons_succ]
              refine wpAnyH_ready (rs := [19]) (by kernel_rfl) (by simp) ?_
              refine AllReadyH.cons (o := ?_) ?_ (fun K hK => ?_) AllReadyH.nil
              rotate_left
              · simp only [List.getElem?_toArray, List.getElem?_cons_succ, List.getElem?_cons_zero]; rfl
              go_simp
              refine hK.out _ _ (hk5.set _ rfl) (fun hHeld => ?_)
              clear hK K
              simp only [Act.put, List.setIfInBounds_toArray, List.set_cons_zero, List.set_cons_succ]
              refine done_R HR (by kernel_rfl) ?_
              clear HR c5 z5
              go_wp2
              go_roundw
              case rel => exact ⟨q + 1, _, _, hlt, by go_num, heap_set_at B5.out rfl, HROW5.out.kept ((Kept.refl (fun b => b = w.heap.size + 1 + 1) _).set _ rfl) (fun b hb => by omega), hk5.set _ rfl⟩
              case measure => simp [intOf]; omega
        · obtain rfl : q = pn := by omega
          have T2 := hid (HKP2.out.keep (HKP.out.keep L2.out (by omega)) (by omega))
          have c2 := blk_cell T2.out
          have z2 : ∀ j, wr.frozen? ⟨w.heap.size + 1, j, none⟩ = false := fun j => frozen_of_row wr _ j _ _ T2.out
          go_wp2
          have hk2 : Kept (fun b => b = w.heap.size + 1) wr (((wr.setCell ⟨w.heap.size + 1, 0, none⟩ (.slice O k oc)).setCell ⟨w.heap.size + 1, 1, none⟩ (.slice P q pcp)).setCell ⟨w.heap.size + 1, 2, none⟩ (.int .i64 wrong)) := (((Kept.refl (fun b => b = w.heap.size + 1) wr).set _ rfl).set _ rfl).set _ rfl
          refine bodyPost_ret (v := .agg #[.slice O k oc, .slice P q pcp, .int .i64 wrong]) (results_cell_row (fn := Tryz.f51) (p := 2) (ty := 38) rfl _ _ (w.heap.size + 1) 38 _ (0, 0) _ rfl (heap_set_at (heap_set_at (heap_set_at T2.out rfl) rfl) rfl) Tryz.underlying38 rfl (by kernel_rfl)) rfl ⟨_, _, _, _, ms, rfl, ?_, ?_, ?_⟩
          · exact own_low (own_kept (own_kept HOW.out HKP2.out (fun b hb => by have := HSL.out; omega)) hk2 (fun b hb => by have := HSL.out; omega)) (by have := HSL.out; omega)
          · exact (HROW.out.kept hk2 (fun b hb => by omega)).low (by omega)
          · exact hk2.extOld hew2 (fun b hb h => by omega)
theorem table_c (A : Option Addr) (n wc : Nat) (women : List Wom) (S : Option Addr) (pn pc : Nat) (pieces : List Pce) (wrong : Int) (w : World) (hW : IsWoms w (.slice A n wc) women) (hwl : women.length = n) (hP : IsPces w (.slice S pn pc) pieces) (hpl : pieces.length = pn) (hn : n ≤ 1000) (hpn : pn ≤ 1000) (hm : ∀ i, i < pn → (pMs pieces i).length ≤ 1000) :
    Calls Tryz.prog 51 #[.agg #[.slice A n wc, .slice S pn pc, .int .i64 wrong]] w
      fun e w' => ∃ A' wc' S' pc', e = .returned (.agg #[.slice A' n wc', .slice S' pn pc', .int .i64 wrong]) ∧ IsWoms w' (.slice A' n wc') women ∧ IsPces w' (.slice S' pn pc') pieces ∧ Ext w w' :=
  (table_o A n wc women S pn pc pieces wrong w hW hwl hP hpl hn hpn hm).mono fun e w' ⟨A', wc', S', pc', ms, he, h1, h2, h3⟩ => ⟨A', wc', S', pc', he, own_woms hwl h1 (by omega), h2.pces hpl hpn, h3⟩
end Go.Proofs.YtlcakmbejjlmeaaGreat
/- The errand, as the statements turn it to the program's: Errand. -/
set_option linter.unusedVariables false
set_option linter.unusedSimpArgs false
namespace Go.Proofs.YtlcakmbejjlmeaaGreat
open Go.RowKit

theorem rng_at (l : List Rng) (k : Nat) (h : k < l.length) : l.take (k + 1) = l.take k ++ [⟨rLo l k, rHi l k⟩] := by
  rw [List.take_succ_eq_append_getElem h]
  congr 1
  simp [rLo, rHi, List.getD_eq_getElem?_getD, List.getElem?_eq_getElem h]
theorem own_kept2 {W W' : World} {base : Nat} {e : TypeId} {size : Nat} {v : Value} {n : Nat} {xs : List Value} {ow : Nat → Prop} (h : W.ownsRow base e size v n xs) (hk : Kept ow W W') (hlo : ∀ b, ow b → v.ownBlock ≠ some b) : W'.ownsRow base e size v n xs := by
  refine ⟨h.1, h.2.imp id ?_⟩
  rintro ⟨g', cap', cur, he, hg', hc', r⟩
  exact ⟨g', cap', cur, he, hg', hk.keep hc' (fun ho => hlo _ ho (by rw [he]; rfl)), r⟩
theorem PRow.kept2 {W W' : World} {base : Nat} {v : Value} {pieces : List Pce} {k : Nat} {ms : Nat → Value} {ow : Nat → Prop} (h : PRow W base v pieces k ms) (hk : Kept ow W W') (hlo : ∀ b, ow b → v.ownBlock ≠ some b) (hlo2 : ∀ i, i < k → ∀ b, ow b → (ms i).ownBlock ≠ some b) : PRow W' base v pieces k ms :=
  ⟨own_kept2 h.own hk hlo, fun i hi => (h.ints i hi).kept (fun b hb ho => hlo2 i hi b ho hb) hk, fun i hi b hb => ⟨(h.blk i hi b hb).1, (h.blk i hi b hb).2.1, Nat.lt_of_lt_of_le (h.blk i hi b hb).2.2 hk.size⟩⟩
theorem tab_kept {W W' : World} {base : Nat} {A' : Option Addr} {n wc' : Nat} {S' : Option Addr} {pn pc' : Nat} {women : List Wom} {pieces : List Pce} {ms : Nat → Value} {ow : Nat → Prop} (how : W.ownsRow base 148 3 (.slice A' n wc') n (womCells women)) (hrow : PRow W base (.slice S' pn pc') pieces pn ms) (hwl : women.length = n) (hpl : pieces.length = pn) (hn3 : n ≤ 1000) (hp3 : pn ≤ 1000)
    (hk : Kept ow W W') (hlo : ∀ b, ow b → b < base ∨ W.heap.size ≤ b) : TabAt W' A' n wc' S' pn pc' women pieces :=
  ⟨own_woms hwl (own_kept2 how hk (fun b ho h' => by have h1 := own_block how b h'; rcases hlo b ho with h | h <;> omega)) (by omega), hwl,
   (hrow.kept2 hk (fun b ho h' => by have h1 := own_block hrow.own b h'; rcases hlo b ho with h | h <;> omega) (fun i hi b ho h' => by have h1 := hrow.blk i hi b h'; rcases hlo b ho with h | h <;> omega)).pces hpl hp3, hpl, hn3, hp3⟩
section
variable (A : Option Addr) (n wc : Nat) (S : Option Addr) (pn pc : Nat) (wrong : Int) (H : Option Addr) (hn hc : Nat) (T : Option Addr) (sn sc : Nat) (start calls : Int) (women : List Wom) (pieces : List Pce) (home streets : List Rng)
set_option maxHeartbeats 6400000 in
set_option maxRecDepth 100000 in
theorem errand_c (w : World) (h : ErrAt w A n wc S pn pc H hn hc T sn sc women pieces home streets) (hm : ∀ i, i < pn → (pMs pieces i).length ≤ 1000) :
    Calls Tryz.prog 23 #[.agg #[.slice A n wc, .slice S pn pc, .int .i64 wrong, .slice H hn hc, .slice T sn sc, .int .i64 start, .int .i64 calls]] w
      fun e w' => ∃ A' wc' S' pc' H' hc' T' sc', e = .returned (.agg #[.slice A' n wc', .slice S' pn pc', .int .i64 wrong, .slice H' hn hc', .slice T' sn sc', .int .i64 start, .int .i64 calls]) ∧ ErrAt w' A' n wc' S' pn pc' H' hn hc' T' sn sc' women pieces home streets ∧ Ext w w' := by
  have KE := hid h
  have HM := hid hm
  have hn3 := h.n3
  have hp3 := h.p3
  have hh3 := h.h3
  have hs3 := h.s3
  clear h hm
  go_enter Tryz.func23, Tryz.ntmps23
  go_wp2
  refine wp_gen ?_
  intro Wl hWl
  have hEl : Ext w Wl := by rw [hWl]; go_grown
  have l1 : Wl.heap[w.heap.size]? = some (.cells #[.slice A n wc, .slice S pn pc, .int .i64 wrong, .slice H hn hc, .slice T sn sc, .int .i64 start, .int .i64 calls] 28 (0, 0)) := by rw [hWl]; exact (by repeat (first | exact heap_alloc_at _ _ (by simp) | refine heap_alloc_keep ?_))
  have l2 : Wl.heap[w.heap.size + 1]? = some (.cells #[.slice none 0 0, .slice none 0 0, .int .i64 0, .slice none 0 0, .slice none 0 0, .int .i64 0, .int .i64 0] 41 (0, 0)) := by rw [hWl]; exact (by repeat (first | exact heap_alloc_at _ _ (by simp) | refine heap_alloc_keep ?_))
  have hsl : Wl.heap.size = w.heap.size + 2 := by rw [hWl]; simp
  have L1 := hid l1
  have L2 := hid l2
  have HSL := hid hsl
  have HEL := hid hEl
  have f1 := ext_blk l1
  clear hWl l1 l2 hsl hEl
  refine region_plainR (fun W => Ext Wl W) 10 #[false, false, false, false, false, false, false, false, false, false] (by kernel_rfl) (by kernel_rfl) (by kernel_rfl) (fun R HR => ?_)
  obtain ⟨V0, hV0⟩ : ∃ V0, Wl.drew = V0 := ⟨_, rfl⟩
  rw [hV0]
  have y0 : Ext Wl V0 := by rw [← hV0]; exact (ext_refl Wl).drew
  clear hV0
  refine takeR (i := 0) (oi := ?_) (v := ?_) ?_ (by kernel_rfl) (by kernel_rfl) (by kernel_rfl) ?_ ?_ (by assumption) ?_
  rotate_left 2
  · simp only [List.getElem?_toArray, List.getElem?_cons_succ, List.getElem?_cons_zero]; rfl
  · kernel_rfl
  · intro Wx hSx
    try dsimp only at hSx
    go_simp
    try with_reducible rfl
  simp only [Act.put, List.setIfInBounds_toArray, List.set_cons_zero, List.set_cons_succ]
  refine takeR (i := 1) (oi := ?_) (v := ?_) ?_ (by kernel_rfl) (by kernel_rfl) (by kernel_rfl) ?_ ?_ (by assumption) ?_
  rotate_left 2
  · simp only [List.getElem?_toArray, List.getElem?_cons_succ, List.getElem?_cons_zero]; rfl
  · kernel_rfl
  · intro Wx hSx
    try dsimp only at hSx
    go_simp
    try with_reducible rfl
  simp only [Act.put, List.setIfInBounds_toArray, List.set_cons_zero, List.set_cons_succ]
  refine takeR (i := 3) (oi := ?_) (v := ?_) ?_ (by kernel_rfl) (by kernel_rfl) (by kernel_rfl) ?_ ?_ (by assumption) ?_
  rotate_left 2
  · simp only [List.getElem?_toArray, List.getElem?_cons_succ, List.getElem?_cons_zero]; rfl
  · kernel_rfl
  · intro Wx hSx
    try dsimp only at hSx
    go_simp
    try with_reducible rfl
  simp only [Act.put, List.setIfInBounds_toArray, List.set_cons_zero, List.set_cons_succ]
  refine takeR (i := 4) (oi := ?_) (v := ?_) ?_ (by kernel_rfl) (by kernel_rfl) (by kernel_rfl) ?_ ?_ (by assumption) ?_
  rotate_left 2
  · simp only [List.getElem?_toArray, List.getElem?_cons_succ, List.getElem?_cons_zero]; rfl
  · kernel_rfl
  · intro Wx hSx
    try dsimp only at hSx
    go_simp
    try with_reducible rfl
  simp only [Act.put, List.setIfInBounds_toArray, List.set_cons_zero, List.set_cons_succ]
  refine takeR (i := 5) (oi := ?_) (v := ?_) ?_ (by kernel_rfl) (by kernel_rfl) (by kernel_rfl) ?_ ?_ (by assumption) ?_
  rotate_left 2
  · simp only [List.getElem?_toArray, List.getElem?_cons_succ, List.getElem?_cons_zero]; rfl
  · kernel_rfl
  · intro Wx hSx
    try dsimp only at hSx
    go_simp
    try with_reducible rfl
  simp only [Act.put, List.setIfInBounds_toArray, List.set_cons_zero, List.set_cons_succ]
  refine takeR (i := 6) (oi := ?_) (v := ?_) ?_ (by kernel_rfl) (by kernel_rfl) (by kernel_rfl) ?_ ?_ (by assumption) ?_
  rotate_left 2
  · simp only [List.getElem?_toArray, List.getElem?_cons_succ, List.getElem?_cons_zero]; rfl
  · kernel_rfl
  · intro Wx hSx
    try dsimp only at hSx
    go_simp
    try with_reducible rfl
  simp only [Act.put, List.setIfInBounds_toArray, List.set_cons_zero, List.set_cons_succ]
  clear f1
  refine wpAnyH_ready (rs := [2, 8]) (by kernel_rfl) (by simp) ?_
  refine AllReadyH.cons (o := ?_) ?_ (fun K hK => ?_) ?_
  rotate_left
  · simp only [List.getElem?_toArray, List.getElem?_cons_succ, List.getElem?_cons_zero]; rfl
  · go_simp
    refine (table_o A n wc women S pn pc pieces wrong _ (KE.out.W.ext (ext_trans HEL.out y0)) KE.out.wl (KE.out.P.ext (ext_trans HEL.out y0)) KE.out.pl hn3 hp3 HM.out).mono ?_
    rintro e W1 ⟨A', wc', S', pc', ms, rfl, how, hrow, hE1⟩
    have y1 := ext_trans y0 hE1
    refine hK.out _ _ y1 (fun hHeld => ?_)
    clear hK K
    simp only [Act.put, List.setIfInBounds_toArray, List.set_cons_zero, List.set_cons_succ]
    refine takeR (i := 7) (oi := ?_) (v := ?_) ?_ (by kernel_rfl) (by kernel_rfl) (by kernel_rfl) ?_ ?_ (by assumption) ?_
    rotate_left 2
    · simp only [List.getElem?_toArray, List.getElem?_cons_succ, List.getElem?_cons_zero]; rfl
    · kernel_rfl
    · intro Wx hSx
      try dsimp only at hSx
      go_simp
      try with_reducible rfl
    simp only [Act.put, List.setIfInBounds_toArray, List.set_cons_zero, List.set_cons_succ]
    refine wpAnyH_ready (rs := [8]) (by kernel_rfl) (by simp) ?_
    refine AllReadyH.cons (o := ?_) ?_ (fun K hK => ?_) AllReadyH.nil
    rotate_left
    · simp only [List.getElem?_toArray, List.getElem?_cons_succ, List.getElem?_cons_zero]; rfl
    go_simp
    refine hK.out _ _ (ext_alloc y1 _) (fun hHeld => ?_)
    clear hK K
    simp only [Act.put, List.setIfInBounds_toArray, List.set_cons_zero, List.set_cons_succ]
    have b3 : (W1.alloc (.cells #[.slice none 0 0, .slice none 0 0, .int .i64 0, .slice none 0 0, .slice none 0 0, .int .i64 0, .int .i64 0] 41)).heap[W1.heap.size]? = some (.cells #[.slice none 0 0, .slice none 0 0, .int .i64 0, .slice none 0 0, .slice none 0 0, .int .i64 0, .int .i64 0] 41 (0, 0)) := heap_alloc_new _ _
    refine wpAnyH_ready (rs := [9]) (by kernel_rfl) (by simp) ?_
    refine AllReadyH.cons (o := ?_) ?_ (fun K hK => ?_) AllReadyH.nil
    rotate_left
    · simp only [List.getElem?_toArray, List.getElem?_cons_succ, List.getElem?_cons_zero]; rfl
    go_simp
    refine hK.out _ _ (ext_alloc y1 _) (fun hHeld => ?_)
    clear hK K
    simp only [Act.put, List.setIfInBounds_toArray, List.set_cons_zero, List.set_cons_succ]
    refine done_R HR (by kernel_rfl) ?_
    clear HR b3
    obtain ⟨T3, hT3e⟩ : ∃ x, W1.heap.size = x := ⟨_, rfl⟩
    obtain ⟨Wb, hWb⟩ : ∃ x, (W1.alloc (.cells #[.slice A' n wc', .slice S' pn pc', .int .i64 wrong, .slice none 0 0, .slice none 0 0, .int .i64 start, .int .i64 calls] 41)) = x := ⟨_, rfl⟩
    have e1b : Ext W1 Wb := by rw [← hWb]; exact ext_alloc (ext_refl _) _
    have hT3 : T3 < Wb.heap.size := by rw [← hWb, ← hT3e]; simp
    have b3 : Wb.heap[T3]? = some (.cells #[.slice A' n wc', .slice S' pn pc', .int .i64 wrong, .slice none 0 0, .slice none 0 0, .int .i64 start, .int .i64 calls] 41 (0, 0)) := by rw [← hWb]; exact heap_alloc_at _ _ hT3e.symm
    have htab : ∀ W, Kept (fun b => b = T3 ∨ b = w.heap.size + 1) Wb W → TabAt W A' n wc' S' pn pc' women pieces := fun W hk =>
      tab_kept (ow := fun b => b = T3 ∨ b = w.heap.size + 1) how hrow KE.out.wl KE.out.pl hn3 hp3 ((Kept.of_ext e1b).trans hk) (fun b hb => by have := HSL.out; have := y0.size; omega)
    have ht3w : w.heap.size + 1 < T3 := by have := HSL.out; have := y1.size; omega
    have hEb : Ext w Wb := ext_trans HEL.out (ext_trans y1 e1b)
    have l3 := ext_blk_keep (ext_trans y1 e1b) L1.out
    have l3b := ext_blk_keep (ext_trans y1 e1b) L2.out
    rw [hT3e, hWb]
    clear hT3e hWb how hrow
    have HTAB := hid htab
    have HT3w := hid ht3w
    have HEW := hid hEb
    have B3 := hid b3
    have L3 := hid (l3)
    have L3b := hid (l3b)
    have HT3 := hid hT3
    clear htab ht3w b3 l3 l3b hT3
    go_wp2
    refine wp_gen ?_
    intro Wc hWc
    subst hWc
    go_loopw [4] (fun i wr => ∃ (q : Nat) (v : Value), q ≤ hn ∧ i = .int .i64 q ∧ wr.heap[T3]? = some (.cells #[.slice A' n wc', .slice S' pn pc', .int .i64 wrong, v, .slice none 0 0, .int .i64 start, .int .i64 calls] 41 (0, 0)) ∧ wr.ownsRow Wc.heap.size 57 2 v q (rngCells (home.take q)) ∧ Kept (fun b => b = T3) Wc wr) (fun i _ => hn - (intOf i).toNat)
    case atStart => exact ⟨0, .slice none 0 0, Nat.zero_le _, rfl, B3.out, own_nil _ _ _ _, Kept.refl _ _⟩
    case round =>
      obtain ⟨q, v, hq, rfl, hv3, hown, hkp⟩ := hrel
      obtain ⟨P1, pc1, rfl⟩ := own_slice hown
      have hew : Ext w wr := hkp.extOld HEW.out (fun b hb h => by have := HT3w.out; omega)
      have b1 := hkp.keep L3.out (by have := HT3w.out; omega)
      have c1 := blk_cell b1
      have c3 := blk_cell hv3
      have z3 : ∀ j, wr.frozen? ⟨T3, j, none⟩ = false := fun j => frozen_of_row wr _ j _ _ hv3
      have V3 := hid hv3
      have HOW := hid hown
      have HKP := hid hkp
      have hszq := hkp.size
      clear hv3 hown b1
      by_cases hlt : q < hn
      · obtain ⟨hb, ho, hA, hpc⟩ := KE.out.H.at (by omega)
        subst hA
        obtain ⟨m1, m2⟩ := hpc q hlt
        have hs := rng_at home q (by have := KE.out.hl; omega)
        obtain ⟨lo, hlo⟩ : ∃ x, rLo home q = x := ⟨_, rfl⟩
        obtain ⟨hi, hhi⟩ : ∃ x, rHi home q = x := ⟨_, rfl⟩
        rw [hlo] at m1
        rw [hhi] at m2
        rw [hlo, hhi] at hs
        have HRNG : Hid (rngCells (home.take (q + 1)) = rngCells (home.take q) ++ (#[.int .i64 lo, .int .i64 hi] : Array Value).toList) := hid (by rw [hs, rngCells_append]; rfl)
        have hq0 : (0 : Int) ≤ (q : Int) := by omega
        have hq1 : (q : Int) < (hn : Int) := by omega
        have hpb1 := cell_lt m1
        have ht3w := HT3w.out
        have f1 : ∀ W, Kept (fun b => b = T3) Wc W → ∀ j, W.cell? ⟨w.heap.size, j, none⟩ = (#[.slice A n wc, .slice S pn pc, .int .i64 wrong, .slice (some ⟨hb, ho, none⟩) hn hc, .slice T sn sc, .int .i64 start, .int .i64 calls] : Array Value)[j]? := fun W h => blk_cell (h.keep L3.out (by omega))
        have f2 : ∀ W, Kept (fun b => b = T3) Wc W → W.cell? ⟨hb, ho + q * 2, none⟩ = some (.int .i64 lo) := fun W h => by
          rw [← cell_ext HEW.out m1]; exact World.cell?_of_block (h.blk hb (by have := HEW.out.size; omega) (by omega))
        have f3 : ∀ W, Kept (fun b => b = T3) Wc W → W.cell? ⟨hb, ho + q * 2 + 1, none⟩ = some (.int .i64 hi) := fun W h => by
          rw [← cell_ext HEW.out m2]; exact World.cell?_of_block (h.blk hb (by have := HEW.out.size; omega) (by omega))
        clear hpc m1 m2 hs hlo hhi ht3w
        go_wp2
        clear c1
        refine region_plainR (Kept (fun b => b = T3) Wc) 12 #[false, false, false, false, false, false, false, false, false, false, false, false] (by kernel_rfl) (by kernel_rfl) (by kernel_rfl) (fun R HR => ?_)
        obtain ⟨V0, hV0⟩ : ∃ V0, wr.drew = V0 := ⟨_, rfl⟩
        rw [hV0]
        have x0 : Ext wr V0 := by rw [← hV0]; exact (ext_refl wr).drew
        have y0 : Kept (fun b => b = T3) Wc V0 := HKP.out.ext x0
        have s0 := x0.size
        clear hV0
        refine takeR (i := 0) (oi := ?_) (v := ?_) ?_ (by kernel_rfl) (by kernel_rfl) (by kernel_rfl) ?_ ?_ (by assumption) ?_
        rotate_left 2
        · simp only [List.getElem?_toArray, List.getElem?_cons_succ, List.getElem?_cons_zero]; rfl
        · kernel_rfl
        · intro Wx hSx
          try dsimp only at hSx
          go_simp
          try with_reducible rfl
        simp only [Act.put, List.setIfInBounds_toArray, List.set_cons_zero, List.set_cons_succ]
        refine takeR (i := 2) (oi := ?_) (v := ?_) ?_ (by kernel_rfl) (by kernel_rfl) (by kernel_rfl) ?_ ?_ (by assumption) ?_
        rotate_left 2
        · simp only [List.getElem?_toArray, List.getElem?_cons_succ, List.getElem?_cons_zero]; rfl
        · kernel_rfl
        · intro Wx hSx
          try dsimp only at hSx
          go_simp
          try with_reducible rfl
        simp only [Act.put, List.setIfInBounds_toArray, List.set_cons_zero, List.set_cons_succ]
        refine takeR (i := 3) (oi := ?_) (v := ?_) ?_ (by kernel_rfl) (by kernel_rfl) (by kernel_rfl) ?_ ?_ (by assumption) ?_
        rotate_left 2
        · simp only [List.getElem?_toArray, List.getElem?_cons_succ, List.getElem?_cons_zero]; rfl
        · kernel_rfl
        · intro Wx hSx
          try dsimp only at hSx
          go_simp
          try with_reducible rfl
        simp only [Act.put, List.setIfInBounds_toArray, List.set_cons_zero, List.set_cons_succ]
        refine takeR (i := 4) (oi := ?_) (v := ?_) ?_ (by kernel_rfl) (by kernel_rfl) (by kernel_rfl) ?_ ?_ (by assumption) ?_
        rotate_left 2
        · simp only [List.getElem?_toArray, List.getElem?_cons_succ, List.getElem?_cons_zero]; rfl
        · kernel_rfl
        · intro Wx hSx
          try dsimp only at hSx
          go_simp
          try with_reducible rfl
        simp only [Act.put, List.setIfInBounds_toArray, List.set_cons_zero, List.set_cons_succ]
        refine takeR (i := 5) (oi := ?_) (v := ?_) ?_ (by kernel_rfl) (by kernel_rfl) (by kernel_rfl) ?_ ?_ (by assumption) ?_
        rotate_left 2
        · simp only [List.getElem?_toArray, List.getElem?_cons_succ, List.getElem?_cons_zero]; rfl
        · kernel_rfl
        · intro Wx hSx
          try dsimp only at hSx
          go_simp
          try with_reducible rfl
        simp only [Act.put, List.setIfInBounds_toArray, List.set_cons_zero, List.set_cons_succ]
        refine takeR (i := 6) (oi := ?_) (v := ?_) ?_ (by kernel_rfl) (by kernel_rfl) (by kernel_rfl) ?_ ?_ (by assumption) ?_
        rotate_left 2
        · simp only [List.getElem?_toArray, List.getElem?_cons_succ, List.getElem?_cons_zero]; rfl
        · kernel_rfl
        · intro Wx hSx
          try dsimp only at hSx
          go_simp
          try with_reducible rfl
        simp only [Act.put, List.setIfInBounds_toArray, List.set_cons_zero, List.set_cons_succ]
        clear f1 f2 f3
        refine wpAnyH_ready (rs := [1, 7]) (by kernel_rfl) (by simp) ?_
        refine AllReadyH.cons (o := ?_) ?_ (fun K hK => ?_) ?_
        rotate_left
        · simp only [List.getElem?_toArray, List.getElem?_cons_succ, List.getElem?_cons_zero]; rfl
        · have c4 := blk_cell (ext_blk_keep x0 V3.out)
          go_simp
          refine hK.out _ _ y0 (fun hHeld => ?_)
          clear hK K
          simp only [Act.put, List.setIfInBounds_toArray, List.set_cons_zero, List.set_cons_succ]
          clear c4
          refine wpAnyH_ready (rs := [7]) (by kernel_rfl) (by simp) ?_
          refine AllReadyH.cons (o := ?_) ?_ (fun K hK => ?_) AllReadyH.nil
          rotate_left
          · simp only [List.getElem?_toArray, List.getElem?_cons_succ, List.getElem?_cons_zero]; rfl
          go_simp
          refine (to_c lo hi _).mono ?_
          rintro e W1 ⟨rfl, hE1⟩
          have x1 := ext_trans x0 hE1
          refine hK.out _ _ (HKP.out.ext x1) (fun hHeld => ?_)
          clear hK K
          simp only [Act.put, List.setIfInBounds_toArray, List.set_cons_zero, List.set_cons_succ]
          refine wpAnyH_ready (rs := [8]) (by kernel_rfl) (by simp) ?_
          refine AllReadyH.cons (o := ?_) ?_ (fun K hK => ?_) AllReadyH.nil
          rotate_left
          · simp only [List.getElem?_toArray, List.getElem?_cons_succ, List.getElem?_cons_zero]; rfl
          go_simp
          refine hK.out _ _ ((HKP.out.ext x1).alloc _) (fun hHeld => ?_)
          clear hK K
          simp only [Act.put, List.setIfInBounds_toArray, List.set_cons_zero, List.set_cons_succ]
          refine wpAnyH_ready (rs := [9]) (by kernel_rfl) (by simp) ?_
          refine AllReadyH.cons (o := ?_) ?_ (fun K hK => ?_) AllReadyH.nil
          rotate_left
          · simp only [List.getElem?_toArray, List.getElem?_cons_succ, List.getElem?_cons_zero]; rfl
          refine step_app_one (W0 := W1) (by rfl) _ _ 39 57 (by rfl) Tryz.underlying39 (.agg #[.int .i64 0, .int .i64 0]) 16 #[.int .i64 lo, .int .i64 hi] (by kernel_rfl) rfl (by simp) (by simp) (by decide) (by simp [Value.oneCell']) Wc.heap.size _ q _ (by rfl) (by exact own_ext HOW.out x1) (by exact ext_alloc (ext_refl _) _) _ (by rfl) (heap_alloc_at _ _ (by simp)) (by have := x1.size; omega) (by omega) ?_
          intro g cap w5 hown5 hB5 hg5 hor5
          have eA : Ext W1 (W1.alloc (.cells #[.int .i64 lo, .int .i64 hi] 57)) := ext_alloc (ext_refl _) _
          have xA := ext_trans x1 eA
          have hk5 : Kept (fun b => b = T3) Wc w5 := ⟨hB5.os.trans (HKP.out.ext xA).os, hB5.tape.trans (HKP.out.ext xA).tape, hB5.output.trans (HKP.out.ext xA).output, Nat.le_trans (HKP.out.ext xA).size hB5.size, fun b hb ho => (hB5.block b hb).trans ((HKP.out.ext xA).blk b hb ho)⟩
          have b5 : w5.heap[T3]? = some (.cells #[.slice A' n wc', .slice S' pn pc', .int .i64 wrong, (.slice P1 q pc1), .slice none 0 0, .int .i64 start, .int .i64 calls] 41 (0, 0)) := by
            rw [hB5.block _ HT3.out]; exact ext_blk_keep xA V3.out
          have HOW5 := hid hown5
          clear hown5
          rw [← HRNG.out] at HOW5
          refine hK.out _ _ hk5 (fun hHeld => ?_)
          clear hK K
          simp only [Act.put, List.setIfInBounds_toArray, List.set_cons_zero, List.set_cons_succ]
          have c5 := blk_cell b5
          have z5 : ∀ j, w5.frozen? ⟨T3, j, none⟩ = false := fun j => frozen_of_row w5 _ j _ _ b5
          have B5 := hid b5
          clear b5 c3 z3
          refine takeR (i := 10) (oi := ?_) (v := ?_) ?_ (by kernel_rfl) (by kernel_rfl) (by kernel_rfl) ?_ ?_ (by assumption) ?_
          rotate_left 2
          · simp only [List.getElem?_toArray, List.getElem?_cons_succ, List.getElem?_cons_zero]; rfl
          · kernel_rfl
          · intro Wx hSx
            try dsimp only at hSx
            go_simp
            try with_reducible rfl
          simp only [Act.put, List.setIfInBounds_toArray, List.set_cons_zero, List.set_cons_succ]
          refine wpAnyH_ready (rs := [11]) (by kernel_rfl) (by simp) ?_
          refine AllReadyH.cons (o := ?_) ?_ (fun K hK => ?_) AllReadyH.nil
          rotate_left
          · simp only [List.getElem?_toArray, List.getElem?_cons_succ, List.getElem?_cons_zero]; rfl
          go_simp
          refine hK.out _ _ (hk5.set _ rfl) (fun hHeld => ?_)
          clear hK K
          simp only [Act.put, List.setIfInBounds_toArray, List.set_cons_zero, List.set_cons_succ]
          refine done_R HR (by kernel_rfl) ?_
          clear HR c5 z5
          go_wp2
          go_roundw
          case rel => exact ⟨q + 1, _, hlt, by go_num, heap_set_at B5.out rfl, own_kept HOW5.out ((Kept.refl (fun b => b = T3) _).set _ rfl) (fun b hb => by have := HT3.out; omega), hk5.set _ rfl⟩
          case measure => simp [intOf]; omega
        refine AllReadyH.cons (o := ?_) ?_ (fun K hK => ?_) AllReadyH.nil
        rotate_left
        · simp only [List.getElem?_toArray, List.getElem?_cons_succ, List.getElem?_cons_zero]; rfl
        · go_simp
          refine (to_c lo hi _).mono ?_
          rintro e W1 ⟨rfl, hE1⟩
          have x1 := ext_trans x0 hE1
          have c4 := blk_cell (ext_blk_keep x1 V3.out)
          refine hK.out _ _ (HKP.out.ext x1) (fun hHeld => ?_)
          clear hK K
          simp only [Act.put, List.setIfInBounds_toArray, List.set_cons_zero, List.set_cons_succ]
          refine wpAnyH_ready (rs := [1, 8]) (by kernel_rfl) (by simp) ?_
          refine AllReadyH.cons (o := ?_) ?_ (fun K hK => ?_) ?_
          rotate_left
          · simp only [List.getElem?_toArray, List.getElem?_cons_succ, List.getElem?_cons_zero]; rfl
          · go_simp
            refine hK.out _ _ (HKP.out.ext x1) (fun hHeld => ?_)
            clear hK K
            simp only [Act.put, List.setIfInBounds_toArray, List.set_cons_zero, List.set_cons_succ]
            clear c4
            refine wpAnyH_ready (rs := [8]) (by kernel_rfl) (by simp) ?_
            refine AllReadyH.cons (o := ?_) ?_ (fun K hK => ?_) AllReadyH.nil
            rotate_left
            · simp only [List.getElem?_toArray, List.getElem?_cons_succ, List.getElem?_cons_zero]; rfl
            go_simp
            refine hK.out _ _ ((HKP.out.ext x1).alloc _) (fun hHeld => ?_)
            clear hK K
            simp only [Act.put, List.setIfInBounds_toArray, List.set_cons_zero, List.set_cons_succ]
            refine wpAnyH_ready (rs := [9]) (by kernel_rfl) (by simp) ?_
            refine AllReadyH.cons (o := ?_) ?_ (fun K hK => ?_) AllReadyH.nil
            rotate_left
            · simp only [List.getElem?_toArray, List.getElem?_cons_succ, List.getElem?_cons_zero]; rfl
            refine step_app_one (W0 := W1) (by rfl) _ _ 39 57 (by rfl) Tryz.underlying39 (.agg #[.int .i64 0, .int .i64 0]) 16 #[.int .i64 lo, .int .i64 hi] (by kernel_rfl) rfl (by simp) (by simp) (by decide) (by simp [Value.oneCell']) Wc.heap.size _ q _ (by rfl) (by exact own_ext HOW.out x1) (by exact ext_alloc (ext_refl _) _) _ (by rfl) (heap_alloc_at _ _ (by simp)) (by have := x1.size; omega) (by omega) ?_
            intro g cap w5 hown5 hB5 hg5 hor5
            have eA : Ext W1 (W1.alloc (.cells #[.int .i64 lo, .int .i64 hi] 57)) := ext_alloc (ext_refl _) _
            have xA := ext_trans x1 eA
            have hk5 : Kept (fun b => b = T3) Wc w5 := ⟨hB5.os.trans (HKP.out.ext xA).os, hB5.tape.trans (HKP.out.ext xA).tape, hB5.output.trans (HKP.out.ext xA).output, Nat.le_trans (HKP.out.ext xA).size hB5.size, fun b hb ho => (hB5.block b hb).trans ((HKP.out.ext xA).blk b hb ho)⟩
            have b5 : w5.heap[T3]? = some (.cells #[.slice A' n wc', .slice S' pn pc', .int .i64 wrong, (.slice P1 q pc1), .slice none 0 0, .int .i64 start, .int .i64 calls] 41 (0, 0)) := by
              rw [hB5.block _ HT3.out]; exact ext_blk_keep xA V3.out
            have HOW5 := hid hown5
            clear hown5
            rw [← HRNG.out] at HOW5
            refine hK.out _ _ hk5 (fun hHeld => ?_)
            clear hK K
            simp only [Act.put, List.setIfInBounds_toArray, List.set_cons_zero, List.set_cons_succ]
            have c5 := blk_cell b5
            have z5 : ∀ j, w5.frozen? ⟨T3, j, none⟩ = false := fun j => frozen_of_row w5 _ j _ _ b5
            have B5 := hid b5
            clear b5 c3 z3
            refine takeR (i := 10) (oi := ?_) (v := ?_) ?_ (by kernel_rfl) (by kernel_rfl) (by kernel_rfl) ?_ ?_ (by assumption) ?_
            rotate_left 2
            · simp only [List.getElem?_toArray, List.getElem?_cons_succ, List.getElem?_cons_zero]; rfl
            · kernel_rfl
            · intro Wx hSx
              try dsimp only at hSx
              go_simp
              try with_reducible rfl
            simp only [Act.put, List.setIfInBounds_toArray, List.set_cons_zero, List.set_cons_succ]
            refine wpAnyH_ready (rs := [11]) (by kernel_rfl) (by simp) ?_
            refine AllReadyH.cons (o := ?_) ?_ (fun K hK => ?_) AllReadyH.nil
            rotate_left
            · simp only [List.getElem?_toArray, List.getElem?_cons_succ, List.getElem?_cons_zero]; rfl
            go_simp
            refine hK.out _ _ (hk5.set _ rfl) (fun hHeld => ?_)
            clear hK K
            simp only [Act.put, List.setIfInBounds_toArray, List.set_cons_zero, List.set_cons_succ]
            refine done_R HR (by kernel_rfl) ?_
            clear HR c5 z5
            go_wp2
            go_roundw
            case rel => exact ⟨q + 1, _, hlt, by go_num, heap_set_at B5.out rfl, own_kept HOW5.out ((Kept.refl (fun b => b = T3) _).set _ rfl) (fun b hb => by have := HT3.out; omega), hk5.set _ rfl⟩
            case measure => simp [intOf]; omega
          refine AllReadyH.cons (o := ?_) ?_ (fun K hK => ?_) AllReadyH.nil
          rotate_left
          · simp only [List.getElem?_toArray, List.getElem?_cons_succ, List.getElem?_cons_zero]; rfl
          · go_simp
            clear c4
            have c4 := blk_cell (ext_blk_keep (ext_alloc x1 (.cells #[.int .i64 lo, .int .i64 hi] 57)) V3.out)
            refine hK.out _ _ ((HKP.out.ext x1).alloc _) (fun hHeld => ?_)
            clear hK K
            simp only [Act.put, List.setIfInBounds_toArray, List.set_cons_zero, List.set_cons_succ]
            refine wpAnyH_ready (rs := [1]) (by kernel_rfl) (by simp) ?_
            refine AllReadyH.cons (o := ?_) ?_ (fun K hK => ?_) AllReadyH.nil
            rotate_left
            · simp only [List.getElem?_toArray, List.getElem?_cons_succ, List.getElem?_cons_zero]; rfl
            go_simp
            refine hK.out _ _ ((HKP.out.ext x1).alloc _) (fun hHeld => ?_)
            clear hK K
            simp only [Act.put, List.setIfInBounds_toArray, List.set_cons_zero, List.set_cons_succ]
            clear c4
            refine wpAnyH_ready (rs := [9]) (by kernel_rfl) (by simp) ?_
            refine AllReadyH.cons (o := ?_) ?_ (fun K hK => ?_) AllReadyH.nil
            rotate_left
            · simp only [List.getElem?_toArray, List.getElem?_cons_succ, List.getElem?_cons_zero]; rfl
            refine step_app_one (W0 := W1) (by rfl) _ _ 39 57 (by rfl) Tryz.underlying39 (.agg #[.int .i64 0, .int .i64 0]) 16 #[.int .i64 lo, .int .i64 hi] (by kernel_rfl) rfl (by simp) (by simp) (by decide) (by simp [Value.oneCell']) Wc.heap.size _ q _ (by rfl) (by exact own_ext HOW.out x1) (by exact ext_alloc (ext_refl _) _) _ (by rfl) (heap_alloc_at _ _ (by simp)) (by have := x1.size; omega) (by omega) ?_
            intro g cap w5 hown5 hB5 hg5 hor5
            have eA : Ext W1 (W1.alloc (.cells #[.int .i64 lo, .int .i64 hi] 57)) := ext_alloc (ext_refl _) _
            have xA := ext_trans x1 eA
            have hk5 : Kept (fun b => b = T3) Wc w5 := ⟨hB5.os.trans (HKP.out.ext xA).os, hB5.tape.trans (HKP.out.ext xA).tape, hB5.output.trans (HKP.out.ext xA).output, Nat.le_trans (HKP.out.ext xA).size hB5.size, fun b hb ho => (hB5.block b hb).trans ((HKP.out.ext xA).blk b hb ho)⟩
            have b5 : w5.heap[T3]? = some (.cells #[.slice A' n wc', .slice S' pn pc', .int .i64 wrong, (.slice P1 q pc1), .slice none 0 0, .int .i64 start, .int .i64 calls] 41 (0, 0)) := by
              rw [hB5.block _ HT3.out]; exact ext_blk_keep xA V3.out
            have HOW5 := hid hown5
            clear hown5
            rw [← HRNG.out] at HOW5
            refine hK.out _ _ hk5 (fun hHeld => ?_)
            clear hK K
            simp only [Act.put, List.setIfInBounds_toArray, List.set_cons_zero, List.set_cons_succ]
            have c5 := blk_cell b5
            have z5 : ∀ j, w5.frozen? ⟨T3, j, none⟩ = false := fun j => frozen_of_row w5 _ j _ _ b5
            have B5 := hid b5
            clear b5 c3 z3
            refine takeR (i := 10) (oi := ?_) (v := ?_) ?_ (by kernel_rfl) (by kernel_rfl) (by kernel_rfl) ?_ ?_ (by assumption) ?_
            rotate_left 2
            · simp only [List.getElem?_toArray, List.getElem?_cons_succ, List.getElem?_cons_zero]; rfl
            · kernel_rfl
            · intro Wx hSx
              try dsimp only at hSx
              go_simp
              try with_reducible rfl
            simp only [Act.put, List.setIfInBounds_toArray, List.set_cons_zero, List.set_cons_succ]
            refine wpAnyH_ready (rs := [11]) (by kernel_rfl) (by simp) ?_
            refine AllReadyH.cons (o := ?_) ?_ (fun K hK => ?_) AllReadyH.nil
            rotate_left
            · simp only [List.getElem?_toArray, List.getElem?_cons_succ, List.getElem?_cons_zero]; rfl
            go_simp
            refine hK.out _ _ (hk5.set _ rfl) (fun hHeld => ?_)
            clear hK K
            simp only [Act.put, List.setIfInBounds_toArray, List.set_cons_zero, List.set_cons_succ]
            refine done_R HR (by kernel_rfl) ?_
            clear HR c5 z5
            go_wp2
            go_roundw
            case rel => exact ⟨q + 1, _, hlt, by go_num, heap_set_at B5.out rfl, own_kept HOW5.out ((Kept.refl (fun b => b = T3) _).set _ rfl) (fun b hb => by have := HT3.out; omega), hk5.set _ rfl⟩
            case measure => simp [intOf]; omega
      · obtain rfl : hn = q := by omega
        rw [List.take_of_length_le (by have := KE.out.hl; omega)] at HOW
        go_wp2
        refine wp_gen ?_
        intro Wd hWd
        subst hWd
        have HTAB2 : Hid (∀ W, Kept (fun b => b = T3 ∨ b = w.heap.size + 1) Wd W → TabAt W A' n wc' S' pn pc' women pieces) := hid (fun W hk => HTAB.out W ((HKP.out.mono (fun b hb => .inl hb)).trans hk))
        have HHOM : Hid (∀ W, Kept (fun b => b = T3 ∨ b = w.heap.size + 1) Wd W → IsRngs W (.slice P1 hn pc1) home) := hid (fun W hk => own_rngs KE.out.hl (own_kept HOW.out hk (fun b hb => by have := HT3.out; have := HT3w.out; omega)) (by omega))
        have L4 := hid (HKP.out.keep L3.out (by have := HT3w.out; omega))
        have L5 := hid (HKP.out.keep L3b.out (by have := HT3w.out; omega))
        have HEW2 := hid hew
        have HT4 : Hid (T3 < Wd.heap.size) := hid (by have := HT3.out; omega)
        clear c1 c3 z3 hew
        go_loopw [5] (fun i wr => ∃ (q : Nat) (v : Value), q ≤ sn ∧ i = .int .i64 q ∧ wr.heap[T3]? = some (.cells #[.slice A' n wc', .slice S' pn pc', .int .i64 wrong, .slice P1 hn pc1, v, .int .i64 start, .int .i64 calls] 41 (0, 0)) ∧ wr.ownsRow Wd.heap.size 57 2 v q (rngCells (streets.take q)) ∧ Kept (fun b => b = T3) Wd wr) (fun i _ => sn - (intOf i).toNat)
        case atStart => exact ⟨0, .slice none 0 0, Nat.zero_le _, rfl, V3.out, own_nil _ _ _ _, Kept.refl _ _⟩
        case round =>
          obtain ⟨q, v, hq, rfl, hv3, hown, hkp⟩ := hrel
          obtain ⟨P2, pc2, rfl⟩ := own_slice hown
          have hew : Ext w wr := hkp.extOld HEW2.out (fun b hb h => by have := HT3w.out; omega)
          have b1 := hkp.keep L4.out (by have := HT3w.out; omega)
          have c1 := blk_cell b1
          have c3 := blk_cell hv3
          have z3 : ∀ j, wr.frozen? ⟨T3, j, none⟩ = false := fun j => frozen_of_row wr _ j _ _ hv3
          have V3 := hid hv3
          have HOW := hid hown
          have HKP := hid hkp
          have hszq := hkp.size
          clear hv3 hown b1
          by_cases hlt : q < sn
          · obtain ⟨hb, ho, hA, hpc⟩ := KE.out.T.at (by omega)
            subst hA
            obtain ⟨m1, m2⟩ := hpc q hlt
            have hs := rng_at streets q (by have := KE.out.tl; omega)
            obtain ⟨lo, hlo⟩ : ∃ x, rLo streets q = x := ⟨_, rfl⟩
            obtain ⟨hi, hhi⟩ : ∃ x, rHi streets q = x := ⟨_, rfl⟩
            rw [hlo] at m1
            rw [hhi] at m2
            rw [hlo, hhi] at hs
            have HRNG : Hid (rngCells (streets.take (q + 1)) = rngCells (streets.take q) ++ (#[.int .i64 lo, .int .i64 hi] : Array Value).toList) := hid (by rw [hs, rngCells_append]; rfl)
            have hq0 : (0 : Int) ≤ (q : Int) := by omega
            have hq1 : (q : Int) < (sn : Int) := by omega
            have hpb1 := cell_lt m1
            have ht3w := HT3w.out
            have f1 : ∀ W, Kept (fun b => b = T3) Wd W → ∀ j, W.cell? ⟨w.heap.size, j, none⟩ = (#[.slice A n wc, .slice S pn pc, .int .i64 wrong, .slice H hn hc, .slice (some ⟨hb, ho, none⟩) sn sc, .int .i64 start, .int .i64 calls] : Array Value)[j]? := fun W h => blk_cell (h.keep L4.out (by omega))
            have f2 : ∀ W, Kept (fun b => b = T3) Wd W → W.cell? ⟨hb, ho + q * 2, none⟩ = some (.int .i64 lo) := fun W h => by
              rw [← cell_ext HEW2.out m1]; exact World.cell?_of_block (h.blk hb (by have := HEW2.out.size; omega) (by omega))
            have f3 : ∀ W, Kept (fun b => b = T3) Wd W → W.cell? ⟨hb, ho + q * 2 + 1, none⟩ = some (.int .i64 hi) := fun W h => by
              rw [← cell_ext HEW2.out m2]; exact World.cell?_of_block (h.blk hb (by have := HEW2.out.size; omega) (by omega))
            clear hpc m1 m2 hs hlo hhi ht3w
            go_wp2
            clear c1
            refine region_plainR (Kept (fun b => b = T3) Wd) 12 #[false, false, false, false, false, false, false, false, false, false, false, false] (by kernel_rfl) (by kernel_rfl) (by kernel_rfl) (fun R HR => ?_)
            obtain ⟨V0, hV0⟩ : ∃ V0, wr.drew = V0 := ⟨_, rfl⟩
            rw [hV0]
            have x0 : Ext wr V0 := by rw [← hV0]; exact (ext_refl wr).drew
            have y0 : Kept (fun b => b = T3) Wd V0 := HKP.out.ext x0
            have s0 := x0.size
            clear hV0
            refine takeR (i := 0) (oi := ?_) (v := ?_) ?_ (by kernel_rfl) (by kernel_rfl) (by kernel_rfl) ?_ ?_ (by assumption) ?_
            rotate_left 2
            · simp only [List.getElem?_toArray, List.getElem?_cons_succ, List.getElem?_cons_zero]; rfl
            · kernel_rfl
            · intro Wx hSx
              try dsimp only at hSx
              go_simp
              try with_reducible rfl
            simp only [Act.put, List.setIfInBounds_toArray, List.set_cons_zero, List.set_cons_succ]
            refine takeR (i := 2) (oi := ?_) (v := ?_) ?_ (by kernel_rfl) (by kernel_rfl) (by kernel_rfl) ?_ ?_ (by assumption) ?_
            rotate_left 2
            · simp only [List.getElem?_toArray, List.getElem?_cons_succ, List.getElem?_cons_zero]; rfl
            · kernel_rfl
            · intro Wx hSx
              try dsimp only at hSx
              go_simp
              try with_reducible rfl
            simp only [Act.put, List.setIfInBounds_toArray, List.set_cons_zero, List.set_cons_succ]
            refine takeR (i := 3) (oi := ?_) (v := ?_) ?_ (by kernel_rfl) (by kernel_rfl) (by kernel_rfl) ?_ ?_ (by assumption) ?_
            rotate_left 2
            · simp only [List.getElem?_toArray, List.getElem?_cons_succ, List.getElem?_cons_zero]; rfl
            · kernel_rfl
            · intro Wx hSx
              try dsimp only at hSx
              go_simp
              try with_reducible rfl
            simp only [Act.put, List.setIfInBounds_toArray, List.set_cons_zero, List.set_cons_succ]
            refine takeR (i := 4) (oi := ?_) (v := ?_) ?_ (by kernel_rfl) (by kernel_rfl) (by kernel_rfl) ?_ ?_ (by assumption) ?_
            rotate_left 2
            · simp only [List.getElem?_toArray, List.getElem?_cons_succ, List.getElem?_cons_zero]; rfl
            · kernel_rfl
            · intro Wx hSx
              try dsimp only at hSx
              go_simp
              try with_reducible rfl
            simp only [Act.put, List.setIfInBounds_toArray, List.set_cons_zero, List.set_cons_succ]
            refine takeR (i := 5) (oi := ?_) (v := ?_) ?_ (by kernel_rfl) (by kernel_rfl) (by kernel_rfl) ?_ ?_ (by assumption) ?_
            rotate_left 2
            · simp only [List.getElem?_toArray, List.getElem?_cons_succ, List.getElem?_cons_zero]; rfl
            · kernel_rfl
            · intro Wx hSx
              try dsimp only at hSx
              go_simp
              try with_reducible rfl
            simp only [Act.put, List.setIfInBounds_toArray, List.set_cons_zero, List.set_cons_succ]
            refine takeR (i := 6) (oi := ?_) (v := ?_) ?_ (by kernel_rfl) (by kernel_rfl) (by kernel_rfl) ?_ ?_ (by assumption) ?_
            rotate_left 2
            · simp only [List.getElem?_toArray, List.getElem?_cons_succ, List.getElem?_cons_zero]; rfl
            · kernel_rfl
            · intro Wx hSx
              try dsimp only at hSx
              go_simp
              try with_reducible rfl
            simp only [Act.put, List.setIfInBounds_toArray, List.set_cons_zero, List.set_cons_succ]
            clear f1 f2 f3
            refine wpAnyH_ready (rs := [1, 7]) (by kernel_rfl) (by simp) ?_
            refine AllReadyH.cons (o := ?_) ?_ (fun K hK => ?_) ?_
            rotate_left
            · simp only [List.getElem?_toArray, List.getElem?_cons_succ, List.getElem?_cons_zero]; rfl
            · have c4 := blk_cell (ext_blk_keep x0 V3.out)
              go_simp
              refine hK.out _ _ y0 (fun hHeld => ?_)
              clear hK K
              simp only [Act.put, List.setIfInBounds_toArray, List.set_cons_zero, List.set_cons_succ]
              clear c4
              refine wpAnyH_ready (rs := [7]) (by kernel_rfl) (by simp) ?_
              refine AllReadyH.cons (o := ?_) ?_ (fun K hK => ?_) AllReadyH.nil
              rotate_left
              · simp only [List.getElem?_toArray, List.getElem?_cons_succ, List.getElem?_cons_zero]; rfl
              go_simp
              refine (to_c lo hi _).mono ?_
              rintro e W1 ⟨rfl, hE1⟩
              have x1 := ext_trans x0 hE1
              refine hK.out _ _ (HKP.out.ext x1) (fun hHeld => ?_)
              clear hK K
              simp only [Act.put, List.setIfInBounds_toArray, List.set_cons_zero, List.set_cons_succ]
              refine wpAnyH_ready (rs := [8]) (by kernel_rfl) (by simp) ?_
              refine AllReadyH.cons (o := ?_) ?_ (fun K hK => ?_) AllReadyH.nil
              rotate_left
              · simp only [List.getElem?_toArray, List.getElem?_cons_succ, List.getElem?_cons_zero]; rfl
              go_simp
              refine hK.out _ _ ((HKP.out.ext x1).alloc _) (fun hHeld => ?_)
              clear hK K
              simp only [Act.put, List.setIfInBounds_toArray, List.set_cons_zero, List.set_cons_succ]
              refine wpAnyH_ready (rs := [9]) (by kernel_rfl) (by simp) ?_
              refine AllReadyH.cons (o := ?_) ?_ (fun K hK => ?_) AllReadyH.nil
              rotate_left
              · simp only [List.getElem?_toArray, List.getElem?_cons_succ, List.getElem?_cons_zero]; rfl
              refine step_app_one (W0 := W1) (by rfl) _ _ 39 57 (by rfl) Tryz.underlying39 (.agg #[.int .i64 0, .int .i64 0]) 16 #[.int .i64 lo, .int .i64 hi] (by kernel_rfl) rfl (by simp) (by simp) (by decide) (by simp [Value.oneCell']) Wd.heap.size _ q _ (by rfl) (by exact own_ext HOW.out x1) (by exact ext_alloc (ext_refl _) _) _ (by rfl) (heap_alloc_at _ _ (by simp)) (by have := x1.size; omega) (by omega) ?_
              intro g cap w5 hown5 hB5 hg5 hor5
              have eA : Ext W1 (W1.alloc (.cells #[.int .i64 lo, .int .i64 hi] 57)) := ext_alloc (ext_refl _) _
              have xA := ext_trans x1 eA
              have hk5 : Kept (fun b => b = T3) Wd w5 := ⟨hB5.os.trans (HKP.out.ext xA).os, hB5.tape.trans (HKP.out.ext xA).tape, hB5.output.trans (HKP.out.ext xA).output, Nat.le_trans (HKP.out.ext xA).size hB5.size, fun b hb ho => (hB5.block b hb).trans ((HKP.out.ext xA).blk b hb ho)⟩
              have b5 : w5.heap[T3]? = some (.cells #[.slice A' n wc', .slice S' pn pc', .int .i64 wrong, .slice P1 hn pc1, (.slice P2 q pc2), .int .i64 start, .int .i64 calls] 41 (0, 0)) := by
                rw [hB5.block _ HT4.out]; exact ext_blk_keep xA V3.out
              have HOW5 := hid hown5
              clear hown5
              rw [← HRNG.out] at HOW5
              refine hK.out _ _ hk5 (fun hHeld => ?_)
              clear hK K
              simp only [Act.put, List.setIfInBounds_toArray, List.set_cons_zero, List.set_cons_succ]
              have c5 := blk_cell b5
              have z5 : ∀ j, w5.frozen? ⟨T3, j, none⟩ = false := fun j => frozen_of_row w5 _ j _ _ b5
              have B5 := hid b5
              clear b5 c3 z3
              refine takeR (i := 10) (oi := ?_) (v := ?_) ?_ (by kernel_rfl) (by kernel_rfl) (by kernel_rfl) ?_ ?_ (by assumption) ?_
              rotate_left 2
              · simp only [List.getElem?_toArray, List.getElem?_cons_succ, List.getElem?_cons_zero]; rfl
              · kernel_rfl
              · intro Wx hSx
                try dsimp only at hSx
                go_simp
                try with_reducible rfl
              simp only [Act.put, List.setIfInBounds_toArray, List.set_cons_zero, List.set_cons_succ]
              refine wpAnyH_ready (rs := [11]) (by kernel_rfl) (by simp) ?_
              refine AllReadyH.cons (o := ?_) ?_ (fun K hK => ?_) AllReadyH.nil
              rotate_left
              · simp only [List.getElem?_toArray, List.getElem?_cons_succ, List.getElem?_cons_zero]; rfl
              go_simp
              refine hK.out _ _ (hk5.set _ rfl) (fun hHeld => ?_)
              clear hK K
              simp only [Act.put, List.setIfInBounds_toArray, List.set_cons_zero, List.set_cons_succ]
              refine done_R HR (by kernel_rfl) ?_
              clear HR c5 z5
              go_wp2
              go_roundw
              case rel => exact ⟨q + 1, _, hlt, by go_num, heap_set_at B5.out rfl, own_kept HOW5.out ((Kept.refl (fun b => b = T3) _).set _ rfl) (fun b hb => by have := HT4.out; omega), hk5.set _ rfl⟩
              case measure => simp [intOf]; omega
            refine AllReadyH.cons (o := ?_) ?_ (fun K hK => ?_) AllReadyH.nil
            rotate_left
            · simp only [List.getElem?_toArray, List.getElem?_cons_succ, List.getElem?_cons_zero]; rfl
            · go_simp
              refine (to_c lo hi _).mono ?_
              rintro e W1 ⟨rfl, hE1⟩
              have x1 := ext_trans x0 hE1
              have c4 := blk_cell (ext_blk_keep x1 V3.out)
              refine hK.out _ _ (HKP.out.ext x1) (fun hHeld => ?_)
              clear hK K
              simp only [Act.put, List.setIfInBounds_toArray, List.set_cons_zero, List.set_cons_succ]
              refine wpAnyH_ready (rs := [1, 8]) (by kernel_rfl) (by simp) ?_
              refine AllReadyH.cons (o := ?_) ?_ (fun K hK => ?_) ?_
              rotate_left
              · simp only [List.getElem?_toArray, List.getElem?_cons_succ, List.getElem?_cons_zero]; rfl
              · go_simp
                refine hK.out _ _ (HKP.out.ext x1) (fun hHeld => ?_)
                clear hK K
                simp only [Act.put, List.setIfInBounds_toArray, List.set_cons_zero, List.set_cons_succ]
                clear c4
                refine wpAnyH_ready (rs := [8]) (by kernel_rfl) (by simp) ?_
                refine AllReadyH.cons (o := ?_) ?_ (fun K hK => ?_) AllReadyH.nil
                rotate_left
                · simp only [List.getElem?_toArray, List.getElem?_cons_succ, List.getElem?_cons_zero]; rfl
                go_simp
                refine hK.out _ _ ((HKP.out.ext x1).alloc _) (fun hHeld => ?_)
                clear hK K
                simp only [Act.put, List.setIfInBounds_toArray, List.set_cons_zero, List.set_cons_succ]
                refine wpAnyH_ready (rs := [9]) (by kernel_rfl) (by simp) ?_
                refine AllReadyH.cons (o := ?_) ?_ (fun K hK => ?_) AllReadyH.nil
                rotate_left
                · simp only [List.getElem?_toArray, List.getElem?_cons_succ, List.getElem?_cons_zero]; rfl
                refine step_app_one (W0 := W1) (by rfl) _ _ 39 57 (by rfl) Tryz.underlying39 (.agg #[.int .i64 0, .int .i64 0]) 16 #[.int .i64 lo, .int .i64 hi] (by kernel_rfl) rfl (by simp) (by simp) (by decide) (by simp [Value.oneCell']) Wd.heap.size _ q _ (by rfl) (by exact own_ext HOW.out x1) (by exact ext_alloc (ext_refl _) _) _ (by rfl) (heap_alloc_at _ _ (by simp)) (by have := x1.size; omega) (by omega) ?_
                intro g cap w5 hown5 hB5 hg5 hor5
                have eA : Ext W1 (W1.alloc (.cells #[.int .i64 lo, .int .i64 hi] 57)) := ext_alloc (ext_refl _) _
                have xA := ext_trans x1 eA
                have hk5 : Kept (fun b => b = T3) Wd w5 := ⟨hB5.os.trans (HKP.out.ext xA).os, hB5.tape.trans (HKP.out.ext xA).tape, hB5.output.trans (HKP.out.ext xA).output, Nat.le_trans (HKP.out.ext xA).size hB5.size, fun b hb ho => (hB5.block b hb).trans ((HKP.out.ext xA).blk b hb ho)⟩
                have b5 : w5.heap[T3]? = some (.cells #[.slice A' n wc', .slice S' pn pc', .int .i64 wrong, .slice P1 hn pc1, (.slice P2 q pc2), .int .i64 start, .int .i64 calls] 41 (0, 0)) := by
                  rw [hB5.block _ HT4.out]; exact ext_blk_keep xA V3.out
                have HOW5 := hid hown5
                clear hown5
                rw [← HRNG.out] at HOW5
                refine hK.out _ _ hk5 (fun hHeld => ?_)
                clear hK K
                simp only [Act.put, List.setIfInBounds_toArray, List.set_cons_zero, List.set_cons_succ]
                have c5 := blk_cell b5
                have z5 : ∀ j, w5.frozen? ⟨T3, j, none⟩ = false := fun j => frozen_of_row w5 _ j _ _ b5
                have B5 := hid b5
                clear b5 c3 z3
                refine takeR (i := 10) (oi := ?_) (v := ?_) ?_ (by kernel_rfl) (by kernel_rfl) (by kernel_rfl) ?_ ?_ (by assumption) ?_
                rotate_left 2
                · simp only [List.getElem?_toArray, List.getElem?_cons_succ, List.getElem?_cons_zero]; rfl
                · kernel_rfl
                · intro Wx hSx
                  try dsimp only at hSx
                  go_simp
                  try with_reducible rfl
                simp only [Act.put, List.setIfInBounds_toArray, List.set_cons_zero, List.set_cons_succ]
                refine wpAnyH_ready (rs := [11]) (by kernel_rfl) (by simp) ?_
                refine AllReadyH.cons (o := ?_) ?_ (fun K hK => ?_) AllReadyH.nil
                rotate_left
                · simp only [List.getElem?_toArray, List.getElem?_cons_succ, List.getElem?_cons_zero]; rfl
                go_simp
                refine hK.out _ _ (hk5.set _ rfl) (fun hHeld => ?_)
                clear hK K
                simp only [Act.put, List.setIfInBounds_toArray, List.set_cons_zero, List.set_cons_succ]
                refine done_R HR (by kernel_rfl) ?_
                clear HR c5 z5
                go_wp2
                go_roundw
                case rel => exact ⟨q + 1, _, hlt, by go_num, heap_set_at B5.out rfl, own_kept HOW5.out ((Kept.refl (fun b => b = T3) _).set _ rfl) (fun b hb => by have := HT4.out; omega), hk5.set _ rfl⟩
                case measure => simp [intOf]; omega
              refine AllReadyH.cons (o := ?_) ?_ (fun K hK => ?_) AllReadyH.nil
              rotate_left
              · simp only [List.getElem?_toArray, List.getElem?_cons_succ, List.getElem?_cons_zero]; rfl
              · go_simp
                clear c4
                have c4 := blk_cell (ext_blk_keep (ext_alloc x1 (.cells #[.int .i64 lo, .int .i64 hi] 57)) V3.out)
                refine hK.out _ _ ((HKP.out.ext x1).alloc _) (fun hHeld => ?_)
                clear hK K
                simp only [Act.put, List.setIfInBounds_toArray, List.set_cons_zero, List.set_cons_succ]
                refine wpAnyH_ready (rs := [1]) (by kernel_rfl) (by simp) ?_
                refine AllReadyH.cons (o := ?_) ?_ (fun K hK => ?_) AllReadyH.nil
                rotate_left
                · simp only [List.getElem?_toArray, List.getElem?_cons_succ, List.getElem?_cons_zero]; rfl
                go_simp
                refine hK.out _ _ ((HKP.out.ext x1).alloc _) (fun hHeld => ?_)
                clear hK K
                simp only [Act.put, List.setIfInBounds_toArray, List.set_cons_zero, List.set_cons_succ]
                clear c4
                refine wpAnyH_ready (rs := [9]) (by kernel_rfl) (by simp) ?_
                refine AllReadyH.cons (o := ?_) ?_ (fun K hK => ?_) AllReadyH.nil
                rotate_left
                · simp only [List.getElem?_toArray, List.getElem?_cons_succ, List.getElem?_cons_zero]; rfl
                refine step_app_one (W0 := W1) (by rfl) _ _ 39 57 (by rfl) Tryz.underlying39 (.agg #[.int .i64 0, .int .i64 0]) 16 #[.int .i64 lo, .int .i64 hi] (by kernel_rfl) rfl (by simp) (by simp) (by decide) (by simp [Value.oneCell']) Wd.heap.size _ q _ (by rfl) (by exact own_ext HOW.out x1) (by exact ext_alloc (ext_refl _) _) _ (by rfl) (heap_alloc_at _ _ (by simp)) (by have := x1.size; omega) (by omega) ?_
                intro g cap w5 hown5 hB5 hg5 hor5
                have eA : Ext W1 (W1.alloc (.cells #[.int .i64 lo, .int .i64 hi] 57)) := ext_alloc (ext_refl _) _
                have xA := ext_trans x1 eA
                have hk5 : Kept (fun b => b = T3) Wd w5 := ⟨hB5.os.trans (HKP.out.ext xA).os, hB5.tape.trans (HKP.out.ext xA).tape, hB5.output.trans (HKP.out.ext xA).output, Nat.le_trans (HKP.out.ext xA).size hB5.size, fun b hb ho => (hB5.block b hb).trans ((HKP.out.ext xA).blk b hb ho)⟩
                have b5 : w5.heap[T3]? = some (.cells #[.slice A' n wc', .slice S' pn pc', .int .i64 wrong, .slice P1 hn pc1, (.slice P2 q pc2), .int .i64 start, .int .i64 calls] 41 (0, 0)) := by
                  rw [hB5.block _ HT4.out]; exact ext_blk_keep xA V3.out
                have HOW5 := hid hown5
                clear hown5
                rw [← HRNG.out] at HOW5
                refine hK.out _ _ hk5 (fun hHeld => ?_)
                clear hK K
                simp only [Act.put, List.setIfInBounds_toArray, List.set_cons_zero, List.set_cons_succ]
                have c5 := blk_cell b5
                have z5 : ∀ j, w5.frozen? ⟨T3, j, none⟩ = false := fun j => frozen_of_row w5 _ j _ _ b5
                have B5 := hid b5
                clear b5 c3 z3
                refine takeR (i := 10) (oi := ?_) (v := ?_) ?_ (by kernel_rfl) (by kernel_rfl) (by kernel_rfl) ?_ ?_ (by assumption) ?_
                rotate_left 2
                · simp only [List.getElem?_toArray, List.getElem?_cons_succ, List.getElem?_cons_zero]; rfl
                · kernel_rfl
                · intro Wx hSx
                  try dsimp only at hSx
                  go_simp
                  try with_reducible rfl
                simp only [Act.put, List.setIfInBounds_toArray, List.set_cons_zero, List.set_cons_succ]
                refine wpAnyH_ready (rs := [11]) (by kernel_rfl) (by simp) ?_
                refine AllReadyH.cons (o := ?_) ?_ (fun K hK => ?_) AllReadyH.nil
                rotate_left
                · simp only [List.getElem?_toArray, List.getElem?_cons_succ, List.getElem?_cons_zero]; rfl
                go_simp
                refine hK.out _ _ (hk5.set _ rfl) (fun hHeld => ?_)
                clear hK K
                simp only [Act.put, List.setIfInBounds_toArray, List.set_cons_zero, List.set_cons_succ]
                refine done_R HR (by kernel_rfl) ?_
                clear HR c5 z5
                go_wp2
                go_roundw
                case rel => exact ⟨q + 1, _, hlt, by go_num, heap_set_at B5.out rfl, own_kept HOW5.out ((Kept.refl (fun b => b = T3) _).set _ rfl) (fun b hb => by have := HT4.out; omega), hk5.set _ rfl⟩
                case measure => simp [intOf]; omega
          · obtain rfl : sn = q := by omega
            rw [List.take_of_length_le (by have := KE.out.tl; omega)] at HOW
            have L6 := hid (HKP.out.keep L5.out (by have := HT3w.out; omega))
            have c2 := blk_cell L6.out
            have z2 : ∀ j, wr.frozen? ⟨w.heap.size + 1, j, none⟩ = false := fun j => frozen_of_row wr _ j _ _ L6.out
            have hlt9 := (Array.getElem?_eq_some_iff.1 L6.out).1
            go_wp2
            have hk2 : Kept (fun b => b = w.heap.size + 1) wr (((((((wr.setCell ⟨w.heap.size + 1, 0, none⟩ (.slice A' n wc')).setCell ⟨w.heap.size + 1, 1, none⟩ (.slice S' pn pc')).setCell ⟨w.heap.size + 1, 2, none⟩ (.int .i64 wrong)).setCell ⟨w.heap.size + 1, 3, none⟩ (.slice P1 hn pc1)).setCell ⟨w.heap.size + 1, 4, none⟩ (.slice P2 sn pc2)).setCell ⟨w.heap.size + 1, 5, none⟩ (.int .i64 start)).setCell ⟨w.heap.size + 1, 6, none⟩ (.int .i64 calls)) := (((((((Kept.refl (fun b => b = w.heap.size + 1) wr).set _ rfl).set _ rfl).set _ rfl).set _ rfl).set _ rfl).set _ rfl).set _ rfl
            have hk3 := (HKP.out.mono (ow' := fun b => b = T3 ∨ b = w.heap.size + 1) (fun b hb => .inl hb)).trans (hk2.mono (fun b hb => .inr hb))
            have htb := HTAB2.out _ hk3
            have g0 := set7 L6.out rfl (.slice A' n wc') (.slice S' pn pc') (.int .i64 wrong) (.slice P1 hn pc1) (.slice P2 sn pc2) (.int .i64 start) (.int .i64 calls)
            refine bodyPost_ret (v := .agg #[.slice A' n wc', .slice S' pn pc', .int .i64 wrong, .slice P1 hn pc1, .slice P2 sn pc2, .int .i64 start, .int .i64 calls]) (results_cell_row (fn := Tryz.f23) (p := 2) (ty := 41) rfl _ _ (w.heap.size + 1) 41 _ (0, 0) _ rfl g0 Tryz.underlying41 rfl (by kernel_rfl)) rfl ⟨_, _, _, _, _, _, _, _, rfl, ⟨htb.W, htb.wl, htb.P, htb.pl, HHOM.out _ hk3, KE.out.hl, own_rngs KE.out.tl (own_kept HOW.out hk2 (fun b hb => by have := HT4.out; have := HT3w.out; omega)) (by omega), KE.out.tl, hn3, hp3, hh3, hs3⟩, hk2.extOld hew (fun b hb h => by omega)⟩
  refine AllReadyH.cons (o := ?_) ?_ (fun K hK => ?_) AllReadyH.nil
  rotate_left
  · simp only [List.getElem?_toArray, List.getElem?_cons_succ, List.getElem?_cons_zero]; rfl
  · go_simp
    refine hK.out _ _ (ext_alloc y0 _) (fun hHeld => ?_)
    clear hK K
    simp only [Act.put, List.setIfInBounds_toArray, List.set_cons_zero, List.set_cons_succ]
    obtain ⟨T3, hT3e⟩ : ∃ x, V0.heap.size = x := ⟨_, rfl⟩
    obtain ⟨V1, hV1⟩ : ∃ x, V0.alloc (.cells #[.slice none 0 0, .slice none 0 0, .int .i64 0, .slice none 0 0, .slice none 0 0, .int .i64 0, .int .i64 0] 41) = x := ⟨_, rfl⟩
    have z1 : Ext V0 V1 := by rw [← hV1]; exact ext_alloc (ext_refl _) _
    have y1 : Ext Wl V1 := ext_trans y0 z1
    have b30 : V1.heap[T3]? = some (.cells #[.slice none 0 0, .slice none 0 0, .int .i64 0, .slice none 0 0, .slice none 0 0, .int .i64 0, .int .i64 0] 41 (0, 0)) := by rw [← hV1]; exact heap_alloc_at _ _ hT3e.symm
    have hT3v : T3 < V1.heap.size := by rw [← hV1, ← hT3e]; simp
    have ht3w : w.heap.size + 1 < T3 := by have := HSL.out; have := y0.size; omega
    rw [hT3e, hV1]
    clear hV1 hT3e
    refine wpAnyH_ready (rs := [2]) (by kernel_rfl) (by simp) ?_
    refine AllReadyH.cons (o := ?_) ?_ (fun K hK => ?_) AllReadyH.nil
    rotate_left
    · simp only [List.getElem?_toArray, List.getElem?_cons_succ, List.getElem?_cons_zero]; rfl
    go_simp
    refine (table_o A n wc women S pn pc pieces wrong _ (KE.out.W.ext (ext_trans HEL.out y1)) KE.out.wl (KE.out.P.ext (ext_trans HEL.out y1)) KE.out.pl hn3 hp3 HM.out).mono ?_
    rintro e W1 ⟨A', wc', S', pc', ms, rfl, how, hrow, hE1⟩
    have y2 := ext_trans y1 hE1
    refine hK.out _ _ y2 (fun hHeld => ?_)
    clear hK K
    simp only [Act.put, List.setIfInBounds_toArray, List.set_cons_zero, List.set_cons_succ]
    refine takeR (i := 7) (oi := ?_) (v := ?_) ?_ (by kernel_rfl) (by kernel_rfl) (by kernel_rfl) ?_ ?_ (by assumption) ?_
    rotate_left 2
    · simp only [List.getElem?_toArray, List.getElem?_cons_succ, List.getElem?_cons_zero]; rfl
    · kernel_rfl
    · intro Wx hSx
      try dsimp only at hSx
      go_simp
      try with_reducible rfl
    simp only [Act.put, List.setIfInBounds_toArray, List.set_cons_zero, List.set_cons_succ]
    have b31 := ext_blk_keep hE1 b30
    have c9 := blk_cell b31
    have z9 : ∀ j, W1.frozen? ⟨T3, j, none⟩ = false := fun j => frozen_of_row W1 _ j _ _ b31
    have B31 := hid b31
    clear b31 b30
    refine wpAnyH_ready (rs := [9]) (by kernel_rfl) (by simp) ?_
    refine AllReadyH.cons (o := ?_) ?_ (fun K hK => ?_) AllReadyH.nil
    rotate_left
    · simp only [List.getElem?_toArray, List.getElem?_cons_succ, List.getElem?_cons_zero]; rfl
    go_simp
    have hT3s : Wl.heap.size ≤ T3 := by have := HSL.out; have := y0.size; omega
    refine hK.out _ _ (((((((y2.setCell hT3s _).setCell hT3s _).setCell hT3s _).setCell hT3s _).setCell hT3s _).setCell hT3s _).setCell hT3s _) (fun hHeld => ?_)
    clear hK K c9 z9
    simp only [Act.put, List.setIfInBounds_toArray, List.set_cons_zero, List.set_cons_succ]
    refine done_R HR (by kernel_rfl) ?_
    clear HR
    have g0 := set7 B31.out rfl (.slice A' n wc') (.slice S' pn pc') (.int .i64 wrong) (.slice none 0 0) (.slice none 0 0) (.int .i64 start) (.int .i64 calls)
    have hk7 : Kept (fun b => b = T3) W1 (((((((W1.setCell ⟨T3, 0, none⟩ (.slice A' n wc')).setCell ⟨T3, 1, none⟩ (.slice S' pn pc')).setCell ⟨T3, 2, none⟩ (.int .i64 wrong)).setCell ⟨T3, 3, none⟩ (.slice none 0 0)).setCell ⟨T3, 4, none⟩ (.slice none 0 0)).setCell ⟨T3, 5, none⟩ (.int .i64 start)).setCell ⟨T3, 6, none⟩ (.int .i64 calls)) := (((((((Kept.refl (fun b => b = T3) W1).set _ rfl).set _ rfl).set _ rfl).set _ rfl).set _ rfl).set _ rfl).set _ rfl
    obtain ⟨Wb, hWb⟩ : ∃ x, (((((((W1.setCell ⟨T3, 0, none⟩ (.slice A' n wc')).setCell ⟨T3, 1, none⟩ (.slice S' pn pc')).setCell ⟨T3, 2, none⟩ (.int .i64 wrong)).setCell ⟨T3, 3, none⟩ (.slice none 0 0)).setCell ⟨T3, 4, none⟩ (.slice none 0 0)).setCell ⟨T3, 5, none⟩ (.int .i64 start)).setCell ⟨T3, 6, none⟩ (.int .i64 calls)) = x := ⟨_, rfl⟩
    rw [hWb] at g0 hk7 ⊢
    have b3 := g0
    have hT3 : T3 < Wb.heap.size := (Array.getElem?_eq_some_iff.1 b3).1
    have htab : ∀ W, Kept (fun b => b = T3 ∨ b = w.heap.size + 1) Wb W → TabAt W A' n wc' S' pn pc' women pieces := fun W hk =>
      tab_kept (ow := fun b => b = T3 ∨ b = w.heap.size + 1) how hrow KE.out.wl KE.out.pl hn3 hp3 ((hk7.mono (fun b hb => .inl hb)).trans hk) (fun b hb => by have := HSL.out; have := y0.size; omega)
    have hEb : Ext w Wb := hk7.extOld (ext_trans HEL.out y2) (fun b hb h => by omega)
    have l3 := hk7.keep (ext_blk_keep y2 L1.out) (by omega)
    have l3b := hk7.keep (ext_blk_keep y2 L2.out) (by omega)
    clear hWb how hrow g0
    have HTAB := hid htab
    have HT3w := hid ht3w
    have HEW := hid hEb
    have B3 := hid b3
    have L3 := hid (l3)
    have L3b := hid (l3b)
    have HT3 := hid hT3
    clear htab ht3w b3 l3 l3b hT3
    go_wp2
    refine wp_gen ?_
    intro Wc hWc
    subst hWc
    go_loopw [4] (fun i wr => ∃ (q : Nat) (v : Value), q ≤ hn ∧ i = .int .i64 q ∧ wr.heap[T3]? = some (.cells #[.slice A' n wc', .slice S' pn pc', .int .i64 wrong, v, .slice none 0 0, .int .i64 start, .int .i64 calls] 41 (0, 0)) ∧ wr.ownsRow Wc.heap.size 57 2 v q (rngCells (home.take q)) ∧ Kept (fun b => b = T3) Wc wr) (fun i _ => hn - (intOf i).toNat)
    case atStart => exact ⟨0, .slice none 0 0, Nat.zero_le _, rfl, B3.out, own_nil _ _ _ _, Kept.refl _ _⟩
    case round =>
      obtain ⟨q, v, hq, rfl, hv3, hown, hkp⟩ := hrel
      obtain ⟨P1, pc1, rfl⟩ := own_slice hown
      have hew : Ext w wr := hkp.extOld HEW.out (fun b hb h => by have := HT3w.out; omega)
      have b1 := hkp.keep L3.out (by have := HT3w.out; omega)
      have c1 := blk_cell b1
      have c3 := blk_cell hv3
      have z3 : ∀ j, wr.frozen? ⟨T3, j, none⟩ = false := fun j => frozen_of_row wr _ j _ _ hv3
      have V3 := hid hv3
      have HOW := hid hown
      have HKP := hid hkp
      have hszq := hkp.size
      clear hv3 hown b1
      by_cases hlt : q < hn
      · obtain ⟨hb, ho, hA, hpc⟩ := KE.out.H.at (by omega)
        subst hA
        obtain ⟨m1, m2⟩ := hpc q hlt
        have hs := rng_at home q (by have := KE.out.hl; omega)
        obtain ⟨lo, hlo⟩ : ∃ x, rLo home q = x := ⟨_, rfl⟩
        obtain ⟨hi, hhi⟩ : ∃ x, rHi home q = x := ⟨_, rfl⟩
        rw [hlo] at m1
        rw [hhi] at m2
        rw [hlo, hhi] at hs
        have HRNG : Hid (rngCells (home.take (q + 1)) = rngCells (home.take q) ++ (#[.int .i64 lo, .int .i64 hi] : Array Value).toList) := hid (by rw [hs, rngCells_append]; rfl)
        have hq0 : (0 : Int) ≤ (q : Int) := by omega
        have hq1 : (q : Int) < (hn : Int) := by omega
        have hpb1 := cell_lt m1
        have ht3w := HT3w.out
        have f1 : ∀ W, Kept (fun b => b = T3) Wc W → ∀ j, W.cell? ⟨w.heap.size, j, none⟩ = (#[.slice A n wc, .slice S pn pc, .int .i64 wrong, .slice (some ⟨hb, ho, none⟩) hn hc, .slice T sn sc, .int .i64 start, .int .i64 calls] : Array Value)[j]? := fun W h => blk_cell (h.keep L3.out (by omega))
        have f2 : ∀ W, Kept (fun b => b = T3) Wc W → W.cell? ⟨hb, ho + q * 2, none⟩ = some (.int .i64 lo) := fun W h => by
          rw [← cell_ext HEW.out m1]; exact World.cell?_of_block (h.blk hb (by have := HEW.out.size; omega) (by omega))
        have f3 : ∀ W, Kept (fun b => b = T3) Wc W → W.cell? ⟨hb, ho + q * 2 + 1, none⟩ = some (.int .i64 hi) := fun W h => by
          rw [← cell_ext HEW.out m2]; exact World.cell?_of_block (h.blk hb (by have := HEW.out.size; omega) (by omega))
        clear hpc m1 m2 hs hlo hhi ht3w
        go_wp2
        clear c1
        refine region_plainR (Kept (fun b => b = T3) Wc) 12 #[false, false, false, false, false, false, false, false, false, false, false, false] (by kernel_rfl) (by kernel_rfl) (by kernel_rfl) (fun R HR => ?_)
        obtain ⟨V0, hV0⟩ : ∃ V0, wr.drew = V0 := ⟨_, rfl⟩
        rw [hV0]
        have x0 : Ext wr V0 := by rw [← hV0]; exact (ext_refl wr).drew
        have y0 : Kept (fun b => b = T3) Wc V0 := HKP.out.ext x0
        have s0 := x0.size
        clear hV0
        refine takeR (i := 0) (oi := ?_) (v := ?_) ?_ (by kernel_rfl) (by kernel_rfl) (by kernel_rfl) ?_ ?_ (by assumption) ?_
        rotate_left 2
        · simp only [List.getElem?_toArray, List.getElem?_cons_succ, List.getElem?_cons_zero]; rfl
        · kernel_rfl
        · intro Wx hSx
          try dsimp only at hSx
          go_simp
          try with_reducible rfl
        simp only [Act.put, List.setIfInBounds_toArray, List.set_cons_zero, List.set_cons_succ]
        refine takeR (i := 2) (oi := ?_) (v := ?_) ?_ (by kernel_rfl) (by kernel_rfl) (by kernel_rfl) ?_ ?_ (by assumption) ?_
        rotate_left 2
        · simp only [List.getElem?_toArray, List.getElem?_cons_succ, List.getElem?_cons_zero]; rfl
        · kernel_rfl
        · intro Wx hSx
          try dsimp only at hSx
          go_simp
          try with_reducible rfl
        simp only [Act.put, List.setIfInBounds_toArray, List.set_cons_zero, List.set_cons_succ]
        refine takeR (i := 3) (oi := ?_) (v := ?_) ?_ (by kernel_rfl) (by kernel_rfl) (by kernel_rfl) ?_ ?_ (by assumption) ?_
        rotate_left 2
        · simp only [List.getElem?_toArray, List.getElem?_cons_succ, List.getElem?_cons_zero]; rfl
        · kernel_rfl
        · intro Wx hSx
          try dsimp only at hSx
          go_simp
          try with_reducible rfl
        simp only [Act.put, List.setIfInBounds_toArray, List.set_cons_zero, List.set_cons_succ]
        refine takeR (i := 4) (oi := ?_) (v := ?_) ?_ (by kernel_rfl) (by kernel_rfl) (by kernel_rfl) ?_ ?_ (by assumption) ?_
        rotate_left 2
        · simp only [List.getElem?_toArray, List.getElem?_cons_succ, List.getElem?_cons_zero]; rfl
        · kernel_rfl
        · intro Wx hSx
          try dsimp only at hSx
          go_simp
          try with_reducible rfl
        simp only [Act.put, List.setIfInBounds_toArray, List.set_cons_zero, List.set_cons_succ]
        refine takeR (i := 5) (oi := ?_) (v := ?_) ?_ (by kernel_rfl) (by kernel_rfl) (by kernel_rfl) ?_ ?_ (by assumption) ?_
        rotate_left 2
        · simp only [List.getElem?_toArray, List.getElem?_cons_succ, List.getElem?_cons_zero]; rfl
        · kernel_rfl
        · intro Wx hSx
          try dsimp only at hSx
          go_simp
          try with_reducible rfl
        simp only [Act.put, List.setIfInBounds_toArray, List.set_cons_zero, List.set_cons_succ]
        refine takeR (i := 6) (oi := ?_) (v := ?_) ?_ (by kernel_rfl) (by kernel_rfl) (by kernel_rfl) ?_ ?_ (by assumption) ?_
        rotate_left 2
        · simp only [List.getElem?_toArray, List.getElem?_cons_succ, List.getElem?_cons_zero]; rfl
        · kernel_rfl
        · intro Wx hSx
          try dsimp only at hSx
          go_simp
          try with_reducible rfl
        simp only [Act.put, List.setIfInBounds_toArray, List.set_cons_zero, List.set_cons_succ]
        clear f1 f2 f3
        refine wpAnyH_ready (rs := [1, 7]) (by kernel_rfl) (by simp) ?_
        refine AllReadyH.cons (o := ?_) ?_ (fun K hK => ?_) ?_
        rotate_left
        · simp only [List.getElem?_toArray, List.getElem?_cons_succ, List.getElem?_cons_zero]; rfl
        · have c4 := blk_cell (ext_blk_keep x0 V3.out)
          go_simp
          refine hK.out _ _ y0 (fun hHeld => ?_)
          clear hK K
          simp only [Act.put, List.setIfInBounds_toArray, List.set_cons_zero, List.set_cons_succ]
          clear c4
          refine wpAnyH_ready (rs := [7]) (by kernel_rfl) (by simp) ?_
          refine AllReadyH.cons (o := ?_) ?_ (fun K hK => ?_) AllReadyH.nil
          rotate_left
          · simp only [List.getElem?_toArray, List.getElem?_cons_succ, List.getElem?_cons_zero]; rfl
          go_simp
          refine (to_c lo hi _).mono ?_
          rintro e W1 ⟨rfl, hE1⟩
          have x1 := ext_trans x0 hE1
          refine hK.out _ _ (HKP.out.ext x1) (fun hHeld => ?_)
          clear hK K
          simp only [Act.put, List.setIfInBounds_toArray, List.set_cons_zero, List.set_cons_succ]
          refine wpAnyH_ready (rs := [8]) (by kernel_rfl) (by simp) ?_
          refine AllReadyH.cons (o := ?_) ?_ (fun K hK => ?_) AllReadyH.nil
          rotate_left
          · simp only [List.getElem?_toArray, List.getElem?_cons_succ, List.getElem?_cons_zero]; rfl
          go_simp
          refine hK.out _ _ ((HKP.out.ext x1).alloc _) (fun hHeld => ?_)
          clear hK K
          simp only [Act.put, List.setIfInBounds_toArray, List.set_cons_zero, List.set_cons_succ]
          refine wpAnyH_ready (rs := [9]) (by kernel_rfl) (by simp) ?_
          refine AllReadyH.cons (o := ?_) ?_ (fun K hK => ?_) AllReadyH.nil
          rotate_left
          · simp only [List.getElem?_toArray, List.getElem?_cons_succ, List.getElem?_cons_zero]; rfl
          refine step_app_one (W0 := W1) (by rfl) _ _ 39 57 (by rfl) Tryz.underlying39 (.agg #[.int .i64 0, .int .i64 0]) 16 #[.int .i64 lo, .int .i64 hi] (by kernel_rfl) rfl (by simp) (by simp) (by decide) (by simp [Value.oneCell']) Wc.heap.size _ q _ (by rfl) (by exact own_ext HOW.out x1) (by exact ext_alloc (ext_refl _) _) _ (by rfl) (heap_alloc_at _ _ (by simp)) (by have := x1.size; omega) (by omega) ?_
          intro g cap w5 hown5 hB5 hg5 hor5
          have eA : Ext W1 (W1.alloc (.cells #[.int .i64 lo, .int .i64 hi] 57)) := ext_alloc (ext_refl _) _
          have xA := ext_trans x1 eA
          have hk5 : Kept (fun b => b = T3) Wc w5 := ⟨hB5.os.trans (HKP.out.ext xA).os, hB5.tape.trans (HKP.out.ext xA).tape, hB5.output.trans (HKP.out.ext xA).output, Nat.le_trans (HKP.out.ext xA).size hB5.size, fun b hb ho => (hB5.block b hb).trans ((HKP.out.ext xA).blk b hb ho)⟩
          have b5 : w5.heap[T3]? = some (.cells #[.slice A' n wc', .slice S' pn pc', .int .i64 wrong, (.slice P1 q pc1), .slice none 0 0, .int .i64 start, .int .i64 calls] 41 (0, 0)) := by
            rw [hB5.block _ HT3.out]; exact ext_blk_keep xA V3.out
          have HOW5 := hid hown5
          clear hown5
          rw [← HRNG.out] at HOW5
          refine hK.out _ _ hk5 (fun hHeld => ?_)
          clear hK K
          simp only [Act.put, List.setIfInBounds_toArray, List.set_cons_zero, List.set_cons_succ]
          have c5 := blk_cell b5
          have z5 : ∀ j, w5.frozen? ⟨T3, j, none⟩ = false := fun j => frozen_of_row w5 _ j _ _ b5
          have B5 := hid b5
          clear b5 c3 z3
          refine takeR (i := 10) (oi := ?_) (v := ?_) ?_ (by kernel_rfl) (by kernel_rfl) (by kernel_rfl) ?_ ?_ (by assumption) ?_
          rotate_left 2
          · simp only [List.getElem?_toArray, List.getElem?_cons_succ, List.getElem?_cons_zero]; rfl
          · kernel_rfl
          · intro Wx hSx
            try dsimp only at hSx
            go_simp
            try with_reducible rfl
          simp only [Act.put, List.setIfInBounds_toArray, List.set_cons_zero, List.set_cons_succ]
          refine wpAnyH_ready (rs := [11]) (by kernel_rfl) (by simp) ?_
          refine AllReadyH.cons (o := ?_) ?_ (fun K hK => ?_) AllReadyH.nil
          rotate_left
          · simp only [List.getElem?_toArray, List.getElem?_cons_succ, List.getElem?_cons_zero]; rfl
          go_simp
          refine hK.out _ _ (hk5.set _ rfl) (fun hHeld => ?_)
          clear hK K
          simp only [Act.put, List.setIfInBounds_toArray, List.set_cons_zero, List.set_cons_succ]
          refine done_R HR (by kernel_rfl) ?_
          clear HR c5 z5
          go_wp2
          go_roundw
          case rel => exact ⟨q + 1, _, hlt, by go_num, heap_set_at B5.out rfl, own_kept HOW5.out ((Kept.refl (fun b => b = T3) _).set _ rfl) (fun b hb => by have := HT3.out; omega), hk5.set _ rfl⟩
          case measure => simp [intOf]; omega
        refine AllReadyH.cons (o := ?_) ?_ (fun K hK => ?_) AllReadyH.nil
        rotate_left
        · simp only [List.getElem?_toArray, List.getElem?_cons_succ, List.getElem?_cons_zero]; rfl
        · go_simp
          refine (to_c lo hi _).mono ?_
          rintro e W1 ⟨rfl, hE1⟩
          have x1 := ext_trans x0 hE1
          have c4 := blk_cell (ext_blk_keep x1 V3.out)
          refine hK.out _ _ (HKP.out.ext x1) (fun hHeld => ?_)
          clear hK K
          simp only [Act.put, List.setIfInBounds_toArray, List.set_cons_zero, List.set_cons_succ]
          refine wpAnyH_ready (rs := [1, 8]) (by kernel_rfl) (by simp) ?_
          refine AllReadyH.cons (o := ?_) ?_ (fun K hK => ?_) ?_
          rotate_left
          · simp only [List.getElem?_toArray, List.getElem?_cons_succ, List.getElem?_cons_zero]; rfl
          · go_simp
            refine hK.out _ _ (HKP.out.ext x1) (fun hHeld => ?_)
            clear hK K
            simp only [Act.put, List.setIfInBounds_toArray, List.set_cons_zero, List.set_cons_succ]
            clear c4
            refine wpAnyH_ready (rs := [8]) (by kernel_rfl) (by simp) ?_
            refine AllReadyH.cons (o := ?_) ?_ (fun K hK => ?_) AllReadyH.nil
            rotate_left
            · simp only [List.getElem?_toArray, List.getElem?_cons_succ, List.getElem?_cons_zero]; rfl
            go_simp
            refine hK.out _ _ ((HKP.out.ext x1).alloc _) (fun hHeld => ?_)
            clear hK K
            simp only [Act.put, List.setIfInBounds_toArray, List.set_cons_zero, List.set_cons_succ]
            refine wpAnyH_ready (rs := [9]) (by kernel_rfl) (by simp) ?_
            refine AllReadyH.cons (o := ?_) ?_ (fun K hK => ?_) AllReadyH.nil
            rotate_left
            · simp only [List.getElem?_toArray, List.getElem?_cons_succ, List.getElem?_cons_zero]; rfl
            refine step_app_one (W0 := W1) (by rfl) _ _ 39 57 (by rfl) Tryz.underlying39 (.agg #[.int .i64 0, .int .i64 0]) 16 #[.int .i64 lo, .int .i64 hi] (by kernel_rfl) rfl (by simp) (by simp) (by decide) (by simp [Value.oneCell']) Wc.heap.size _ q _ (by rfl) (by exact own_ext HOW.out x1) (by exact ext_alloc (ext_refl _) _) _ (by rfl) (heap_alloc_at _ _ (by simp)) (by have := x1.size; omega) (by omega) ?_
            intro g cap w5 hown5 hB5 hg5 hor5
            have eA : Ext W1 (W1.alloc (.cells #[.int .i64 lo, .int .i64 hi] 57)) := ext_alloc (ext_refl _) _
            have xA := ext_trans x1 eA
            have hk5 : Kept (fun b => b = T3) Wc w5 := ⟨hB5.os.trans (HKP.out.ext xA).os, hB5.tape.trans (HKP.out.ext xA).tape, hB5.output.trans (HKP.out.ext xA).output, Nat.le_trans (HKP.out.ext xA).size hB5.size, fun b hb ho => (hB5.block b hb).trans ((HKP.out.ext xA).blk b hb ho)⟩
            have b5 : w5.heap[T3]? = some (.cells #[.slice A' n wc', .slice S' pn pc', .int .i64 wrong, (.slice P1 q pc1), .slice none 0 0, .int .i64 start, .int .i64 calls] 41 (0, 0)) := by
              rw [hB5.block _ HT3.out]; exact ext_blk_keep xA V3.out
            have HOW5 := hid hown5
            clear hown5
            rw [← HRNG.out] at HOW5
            refine hK.out _ _ hk5 (fun hHeld => ?_)
            clear hK K
            simp only [Act.put, List.setIfInBounds_toArray, List.set_cons_zero, List.set_cons_succ]
            have c5 := blk_cell b5
            have z5 : ∀ j, w5.frozen? ⟨T3, j, none⟩ = false := fun j => frozen_of_row w5 _ j _ _ b5
            have B5 := hid b5
            clear b5 c3 z3
            refine takeR (i := 10) (oi := ?_) (v := ?_) ?_ (by kernel_rfl) (by kernel_rfl) (by kernel_rfl) ?_ ?_ (by assumption) ?_
            rotate_left 2
            · simp only [List.getElem?_toArray, List.getElem?_cons_succ, List.getElem?_cons_zero]; rfl
            · kernel_rfl
            · intro Wx hSx
              try dsimp only at hSx
              go_simp
              try with_reducible rfl
            simp only [Act.put, List.setIfInBounds_toArray, List.set_cons_zero, List.set_cons_succ]
            refine wpAnyH_ready (rs := [11]) (by kernel_rfl) (by simp) ?_
            refine AllReadyH.cons (o := ?_) ?_ (fun K hK => ?_) AllReadyH.nil
            rotate_left
            · simp only [List.getElem?_toArray, List.getElem?_cons_succ, List.getElem?_cons_zero]; rfl
            go_simp
            refine hK.out _ _ (hk5.set _ rfl) (fun hHeld => ?_)
            clear hK K
            simp only [Act.put, List.setIfInBounds_toArray, List.set_cons_zero, List.set_cons_succ]
            refine done_R HR (by kernel_rfl) ?_
            clear HR c5 z5
            go_wp2
            go_roundw
            case rel => exact ⟨q + 1, _, hlt, by go_num, heap_set_at B5.out rfl, own_kept HOW5.out ((Kept.refl (fun b => b = T3) _).set _ rfl) (fun b hb => by have := HT3.out; omega), hk5.set _ rfl⟩
            case measure => simp [intOf]; omega
          refine AllReadyH.cons (o := ?_) ?_ (fun K hK => ?_) AllReadyH.nil
          rotate_left
          · simp only [List.getElem?_toArray, List.getElem?_cons_succ, List.getElem?_cons_zero]; rfl
          · go_simp
            clear c4
            have c4 := blk_cell (ext_blk_keep (ext_alloc x1 (.cells #[.int .i64 lo, .int .i64 hi] 57)) V3.out)
            refine hK.out _ _ ((HKP.out.ext x1).alloc _) (fun hHeld => ?_)
            clear hK K
            simp only [Act.put, List.setIfInBounds_toArray, List.set_cons_zero, List.set_cons_succ]
            refine wpAnyH_ready (rs := [1]) (by kernel_rfl) (by simp) ?_
            refine AllReadyH.cons (o := ?_) ?_ (fun K hK => ?_) AllReadyH.nil
            rotate_left
            · simp only [List.getElem?_toArray, List.getElem?_cons_succ, List.getElem?_cons_zero]; rfl
            go_simp
            refine hK.out _ _ ((HKP.out.ext x1).alloc _) (fun hHeld => ?_)
            clear hK K
            simp only [Act.put, List.setIfInBounds_toArray, List.set_cons_zero, List.set_cons_succ]
            clear c4
            refine wpAnyH_ready (rs := [9]) (by kernel_rfl) (by simp) ?_
            refine AllReadyH.cons (o := ?_) ?_ (fun K hK => ?_) AllReadyH.nil
            rotate_left
            · simp only [List.getElem?_toArray, List.getElem?_cons_succ, List.getElem?_cons_zero]; rfl
            refine step_app_one (W0 := W1) (by rfl) _ _ 39 57 (by rfl) Tryz.underlying39 (.agg #[.int .i64 0, .int .i64 0]) 16 #[.int .i64 lo, .int .i64 hi] (by kernel_rfl) rfl (by simp) (by simp) (by decide) (by simp [Value.oneCell']) Wc.heap.size _ q _ (by rfl) (by exact own_ext HOW.out x1) (by exact ext_alloc (ext_refl _) _) _ (by rfl) (heap_alloc_at _ _ (by simp)) (by have := x1.size; omega) (by omega) ?_
            intro g cap w5 hown5 hB5 hg5 hor5
            have eA : Ext W1 (W1.alloc (.cells #[.int .i64 lo, .int .i64 hi] 57)) := ext_alloc (ext_refl _) _
            have xA := ext_trans x1 eA
            have hk5 : Kept (fun b => b = T3) Wc w5 := ⟨hB5.os.trans (HKP.out.ext xA).os, hB5.tape.trans (HKP.out.ext xA).tape, hB5.output.trans (HKP.out.ext xA).output, Nat.le_trans (HKP.out.ext xA).size hB5.size, fun b hb ho => (hB5.block b hb).trans ((HKP.out.ext xA).blk b hb ho)⟩
            have b5 : w5.heap[T3]? = some (.cells #[.slice A' n wc', .slice S' pn pc', .int .i64 wrong, (.slice P1 q pc1), .slice none 0 0, .int .i64 start, .int .i64 calls] 41 (0, 0)) := by
              rw [hB5.block _ HT3.out]; exact ext_blk_keep xA V3.out
            have HOW5 := hid hown5
            clear hown5
            rw [← HRNG.out] at HOW5
            refine hK.out _ _ hk5 (fun hHeld => ?_)
            clear hK K
            simp only [Act.put, List.setIfInBounds_toArray, List.set_cons_zero, List.set_cons_succ]
            have c5 := blk_cell b5
            have z5 : ∀ j, w5.frozen? ⟨T3, j, none⟩ = false := fun j => frozen_of_row w5 _ j _ _ b5
            have B5 := hid b5
            clear b5 c3 z3
            refine takeR (i := 10) (oi := ?_) (v := ?_) ?_ (by kernel_rfl) (by kernel_rfl) (by kernel_rfl) ?_ ?_ (by assumption) ?_
            rotate_left 2
            · simp only [List.getElem?_toArray, List.getElem?_cons_succ, List.getElem?_cons_zero]; rfl
            · kernel_rfl
            · intro Wx hSx
              try dsimp only at hSx
              go_simp
              try with_reducible rfl
            simp only [Act.put, List.setIfInBounds_toArray, List.set_cons_zero, List.set_cons_succ]
            refine wpAnyH_ready (rs := [11]) (by kernel_rfl) (by simp) ?_
            refine AllReadyH.cons (o := ?_) ?_ (fun K hK => ?_) AllReadyH.nil
            rotate_left
            · simp only [List.getElem?_toArray, List.getElem?_cons_succ, List.getElem?_cons_zero]; rfl
            go_simp
            refine hK.out _ _ (hk5.set _ rfl) (fun hHeld => ?_)
            clear hK K
            simp only [Act.put, List.setIfInBounds_toArray, List.set_cons_zero, List.set_cons_succ]
            refine done_R HR (by kernel_rfl) ?_
            clear HR c5 z5
            go_wp2
            go_roundw
            case rel => exact ⟨q + 1, _, hlt, by go_num, heap_set_at B5.out rfl, own_kept HOW5.out ((Kept.refl (fun b => b = T3) _).set _ rfl) (fun b hb => by have := HT3.out; omega), hk5.set _ rfl⟩
            case measure => simp [intOf]; omega
      · obtain rfl : hn = q := by omega
        rw [List.take_of_length_le (by have := KE.out.hl; omega)] at HOW
        go_wp2
        refine wp_gen ?_
        intro Wd hWd
        subst hWd
        have HTAB2 : Hid (∀ W, Kept (fun b => b = T3 ∨ b = w.heap.size + 1) Wd W → TabAt W A' n wc' S' pn pc' women pieces) := hid (fun W hk => HTAB.out W ((HKP.out.mono (fun b hb => .inl hb)).trans hk))
        have HHOM : Hid (∀ W, Kept (fun b => b = T3 ∨ b = w.heap.size + 1) Wd W → IsRngs W (.slice P1 hn pc1) home) := hid (fun W hk => own_rngs KE.out.hl (own_kept HOW.out hk (fun b hb => by have := HT3.out; have := HT3w.out; omega)) (by omega))
        have L4 := hid (HKP.out.keep L3.out (by have := HT3w.out; omega))
        have L5 := hid (HKP.out.keep L3b.out (by have := HT3w.out; omega))
        have HEW2 := hid hew
        have HT4 : Hid (T3 < Wd.heap.size) := hid (by have := HT3.out; omega)
        clear c1 c3 z3 hew
        go_loopw [5] (fun i wr => ∃ (q : Nat) (v : Value), q ≤ sn ∧ i = .int .i64 q ∧ wr.heap[T3]? = some (.cells #[.slice A' n wc', .slice S' pn pc', .int .i64 wrong, .slice P1 hn pc1, v, .int .i64 start, .int .i64 calls] 41 (0, 0)) ∧ wr.ownsRow Wd.heap.size 57 2 v q (rngCells (streets.take q)) ∧ Kept (fun b => b = T3) Wd wr) (fun i _ => sn - (intOf i).toNat)
        case atStart => exact ⟨0, .slice none 0 0, Nat.zero_le _, rfl, V3.out, own_nil _ _ _ _, Kept.refl _ _⟩
        case round =>
          obtain ⟨q, v, hq, rfl, hv3, hown, hkp⟩ := hrel
          obtain ⟨P2, pc2, rfl⟩ := own_slice hown
          have hew : Ext w wr := hkp.extOld HEW2.out (fun b hb h => by have := HT3w.out; omega)
          have b1 := hkp.keep L4.out (by have := HT3w.out; omega)
          have c1 := blk_cell b1
          have c3 := blk_cell hv3
          have z3 : ∀ j, wr.frozen? ⟨T3, j, none⟩ = false := fun j => frozen_of_row wr _ j _ _ hv3
          have V3 := hid hv3
          have HOW := hid hown
          have HKP := hid hkp
          have hszq := hkp.size
          clear hv3 hown b1
          by_cases hlt : q < sn
          · obtain ⟨hb, ho, hA, hpc⟩ := KE.out.T.at (by omega)
            subst hA
            obtain ⟨m1, m2⟩ := hpc q hlt
            have hs := rng_at streets q (by have := KE.out.tl; omega)
            obtain ⟨lo, hlo⟩ : ∃ x, rLo streets q = x := ⟨_, rfl⟩
            obtain ⟨hi, hhi⟩ : ∃ x, rHi streets q = x := ⟨_, rfl⟩
            rw [hlo] at m1
            rw [hhi] at m2
            rw [hlo, hhi] at hs
            have HRNG : Hid (rngCells (streets.take (q + 1)) = rngCells (streets.take q) ++ (#[.int .i64 lo, .int .i64 hi] : Array Value).toList) := hid (by rw [hs, rngCells_append]; rfl)
            have hq0 : (0 : Int) ≤ (q : Int) := by omega
            have hq1 : (q : Int) < (sn : Int) := by omega
            have hpb1 := cell_lt m1
            have ht3w := HT3w.out
            have f1 : ∀ W, Kept (fun b => b = T3) Wd W → ∀ j, W.cell? ⟨w.heap.size, j, none⟩ = (#[.slice A n wc, .slice S pn pc, .int .i64 wrong, .slice H hn hc, .slice (some ⟨hb, ho, none⟩) sn sc, .int .i64 start, .int .i64 calls] : Array Value)[j]? := fun W h => blk_cell (h.keep L4.out (by omega))
            have f2 : ∀ W, Kept (fun b => b = T3) Wd W → W.cell? ⟨hb, ho + q * 2, none⟩ = some (.int .i64 lo) := fun W h => by
              rw [← cell_ext HEW2.out m1]; exact World.cell?_of_block (h.blk hb (by have := HEW2.out.size; omega) (by omega))
            have f3 : ∀ W, Kept (fun b => b = T3) Wd W → W.cell? ⟨hb, ho + q * 2 + 1, none⟩ = some (.int .i64 hi) := fun W h => by
              rw [← cell_ext HEW2.out m2]; exact World.cell?_of_block (h.blk hb (by have := HEW2.out.size; omega) (by omega))
            clear hpc m1 m2 hs hlo hhi ht3w
            go_wp2
            clear c1
            refine region_plainR (Kept (fun b => b = T3) Wd) 12 #[false, false, false, false, false, false, false, false, false, false, false, false] (by kernel_rfl) (by kernel_rfl) (by kernel_rfl) (fun R HR => ?_)
            obtain ⟨V0, hV0⟩ : ∃ V0, wr.drew = V0 := ⟨_, rfl⟩
            rw [hV0]
            have x0 : Ext wr V0 := by rw [← hV0]; exact (ext_refl wr).drew
            have y0 : Kept (fun b => b = T3) Wd V0 := HKP.out.ext x0
            have s0 := x0.size
            clear hV0
            refine takeR (i := 0) (oi := ?_) (v := ?_) ?_ (by kernel_rfl) (by kernel_rfl) (by kernel_rfl) ?_ ?_ (by assumption) ?_
            rotate_left 2
            · simp only [List.getElem?_toArray, List.getElem?_cons_succ, List.getElem?_cons_zero]; rfl
            · kernel_rfl
            · intro Wx hSx
              try dsimp only at hSx
              go_simp
              try with_reducible rfl
            simp only [Act.put, List.setIfInBounds_toArray, List.set_cons_zero, List.set_cons_succ]
            refine takeR (i := 2) (oi := ?_) (v := ?_) ?_ (by kernel_rfl) (by kernel_rfl) (by kernel_rfl) ?_ ?_ (by assumption) ?_
            rotate_left 2
            · simp only [List.getElem?_toArray, List.getElem?_cons_succ, List.getElem?_cons_zero]; rfl
            · kernel_rfl
            · intro Wx hSx
              try dsimp only at hSx
              go_simp
              try with_reducible rfl
            simp only [Act.put, List.setIfInBounds_toArray, List.set_cons_zero, List.set_cons_succ]
            refine takeR (i := 3) (oi := ?_) (v := ?_) ?_ (by kernel_rfl) (by kernel_rfl) (by kernel_rfl) ?_ ?_ (by assumption) ?_
            rotate_left 2
            · simp only [List.getElem?_toArray, List.getElem?_cons_succ, List.getElem?_cons_zero]; rfl
            · kernel_rfl
            · intro Wx hSx
              try dsimp only at hSx
              go_simp
              try with_reducible rfl
            simp only [Act.put, List.setIfInBounds_toArray, List.set_cons_zero, List.set_cons_succ]
            refine takeR (i := 4) (oi := ?_) (v := ?_) ?_ (by kernel_rfl) (by kernel_rfl) (by kernel_rfl) ?_ ?_ (by assumption) ?_
            rotate_left 2
            · simp only [List.getElem?_toArray, List.getElem?_cons_succ, List.getElem?_cons_zero]; rfl
            · kernel_rfl
            · intro Wx hSx
              try dsimp only at hSx
              go_simp
              try with_reducible rfl
            simp only [Act.put, List.setIfInBounds_toArray, List.set_cons_zero, List.set_cons_succ]
            refine takeR (i := 5) (oi := ?_) (v := ?_) ?_ (by kernel_rfl) (by kernel_rfl) (by kernel_rfl) ?_ ?_ (by assumption) ?_
            rotate_left 2
            · simp only [List.getElem?_toArray, List.getElem?_cons_succ, List.getElem?_cons_zero]; rfl
            · kernel_rfl
            · intro Wx hSx
              try dsimp only at hSx
              go_simp
              try with_reducible rfl
            simp only [Act.put, List.setIfInBounds_toArray, List.set_cons_zero, List.set_cons_succ]
            refine takeR (i := 6) (oi := ?_) (v := ?_) ?_ (by kernel_rfl) (by kernel_rfl) (by kernel_rfl) ?_ ?_ (by assumption) ?_
            rotate_left 2
            · simp only [List.getElem?_toArray, List.getElem?_cons_succ, List.getElem?_cons_zero]; rfl
            · kernel_rfl
            · intro Wx hSx
              try dsimp only at hSx
              go_simp
              try with_reducible rfl
            simp only [Act.put, List.setIfInBounds_toArray, List.set_cons_zero, List.set_cons_succ]
            clear f1 f2 f3
            refine wpAnyH_ready (rs := [1, 7]) (by kernel_rfl) (by simp) ?_
            refine AllReadyH.cons (o := ?_) ?_ (fun K hK => ?_) ?_
            rotate_left
            · simp only [List.getElem?_toArray, List.getElem?_cons_succ, List.getElem?_cons_zero]; rfl
            · have c4 := blk_cell (ext_blk_keep x0 V3.out)
              go_simp
              refine hK.out _ _ y0 (fun hHeld => ?_)
              clear hK K
              simp only [Act.put, List.setIfInBounds_toArray, List.set_cons_zero, List.set_cons_succ]
              clear c4
              refine wpAnyH_ready (rs := [7]) (by kernel_rfl) (by simp) ?_
              refine AllReadyH.cons (o := ?_) ?_ (fun K hK => ?_) AllReadyH.nil
              rotate_left
              · simp only [List.getElem?_toArray, List.getElem?_cons_succ, List.getElem?_cons_zero]; rfl
              go_simp
              refine (to_c lo hi _).mono ?_
              rintro e W1 ⟨rfl, hE1⟩
              have x1 := ext_trans x0 hE1
              refine hK.out _ _ (HKP.out.ext x1) (fun hHeld => ?_)
              clear hK K
              simp only [Act.put, List.setIfInBounds_toArray, List.set_cons_zero, List.set_cons_succ]
              refine wpAnyH_ready (rs := [8]) (by kernel_rfl) (by simp) ?_
              refine AllReadyH.cons (o := ?_) ?_ (fun K hK => ?_) AllReadyH.nil
              rotate_left
              · simp only [List.getElem?_toArray, List.getElem?_cons_succ, List.getElem?_cons_zero]; rfl
              go_simp
              refine hK.out _ _ ((HKP.out.ext x1).alloc _) (fun hHeld => ?_)
              clear hK K
              simp only [Act.put, List.setIfInBounds_toArray, List.set_cons_zero, List.set_cons_succ]
              refine wpAnyH_ready (rs := [9]) (by kernel_rfl) (by simp) ?_
              refine AllReadyH.cons (o := ?_) ?_ (fun K hK => ?_) AllReadyH.nil
              rotate_left
              · simp only [List.getElem?_toArray, List.getElem?_cons_succ, List.getElem?_cons_zero]; rfl
              refine step_app_one (W0 := W1) (by rfl) _ _ 39 57 (by rfl) Tryz.underlying39 (.agg #[.int .i64 0, .int .i64 0]) 16 #[.int .i64 lo, .int .i64 hi] (by kernel_rfl) rfl (by simp) (by simp) (by decide) (by simp [Value.oneCell']) Wd.heap.size _ q _ (by rfl) (by exact own_ext HOW.out x1) (by exact ext_alloc (ext_refl _) _) _ (by rfl) (heap_alloc_at _ _ (by simp)) (by have := x1.size; omega) (by omega) ?_
              intro g cap w5 hown5 hB5 hg5 hor5
              have eA : Ext W1 (W1.alloc (.cells #[.int .i64 lo, .int .i64 hi] 57)) := ext_alloc (ext_refl _) _
              have xA := ext_trans x1 eA
              have hk5 : Kept (fun b => b = T3) Wd w5 := ⟨hB5.os.trans (HKP.out.ext xA).os, hB5.tape.trans (HKP.out.ext xA).tape, hB5.output.trans (HKP.out.ext xA).output, Nat.le_trans (HKP.out.ext xA).size hB5.size, fun b hb ho => (hB5.block b hb).trans ((HKP.out.ext xA).blk b hb ho)⟩
              have b5 : w5.heap[T3]? = some (.cells #[.slice A' n wc', .slice S' pn pc', .int .i64 wrong, .slice P1 hn pc1, (.slice P2 q pc2), .int .i64 start, .int .i64 calls] 41 (0, 0)) := by
                rw [hB5.block _ HT4.out]; exact ext_blk_keep xA V3.out
              have HOW5 := hid hown5
              clear hown5
              rw [← HRNG.out] at HOW5
              refine hK.out _ _ hk5 (fun hHeld => ?_)
              clear hK K
              simp only [Act.put, List.setIfInBounds_toArray, List.set_cons_zero, List.set_cons_succ]
              have c5 := blk_cell b5
              have z5 : ∀ j, w5.frozen? ⟨T3, j, none⟩ = false := fun j => frozen_of_row w5 _ j _ _ b5
              have B5 := hid b5
              clear b5 c3 z3
              refine takeR (i := 10) (oi := ?_) (v := ?_) ?_ (by kernel_rfl) (by kernel_rfl) (by kernel_rfl) ?_ ?_ (by assumption) ?_
              rotate_left 2
              · simp only [List.getElem?_toArray, List.getElem?_cons_succ, List.getElem?_cons_zero]; rfl
              · kernel_rfl
              · intro Wx hSx
                try dsimp only at hSx
                go_simp
                try with_reducible rfl
              simp only [Act.put, List.setIfInBounds_toArray, List.set_cons_zero, List.set_cons_succ]
              refine wpAnyH_ready (rs := [11]) (by kernel_rfl) (by simp) ?_
              refine AllReadyH.cons (o := ?_) ?_ (fun K hK => ?_) AllReadyH.nil
              rotate_left
              · simp only [List.getElem?_toArray, List.getElem?_cons_succ, List.getElem?_cons_zero]; rfl
              go_simp
              refine hK.out _ _ (hk5.set _ rfl) (fun hHeld => ?_)
              clear hK K
              simp only [Act.put, List.setIfInBounds_toArray, List.set_cons_zero, List.set_cons_succ]
              refine done_R HR (by kernel_rfl) ?_
              clear HR c5 z5
              go_wp2
              go_roundw
              case rel => exact ⟨q + 1, _, hlt, by go_num, heap_set_at B5.out rfl, own_kept HOW5.out ((Kept.refl (fun b => b = T3) _).set _ rfl) (fun b hb => by have := HT4.out; omega), hk5.set _ rfl⟩
              case measure => simp [intOf]; omega
            refine AllReadyH.cons (o := ?_) ?_ (fun K hK => ?_) AllReadyH.nil
            rotate_left
            · simp only [List.getElem?_toArray, List.getElem?_cons_succ, List.getElem?_cons_zero]; rfl
            · go_simp
              refine (to_c lo hi _).mono ?_
              rintro e W1 ⟨rfl, hE1⟩
              have x1 := ext_trans x0 hE1
              have c4 := blk_cell (ext_blk_keep x1 V3.out)
              refine hK.out _ _ (HKP.out.ext x1) (fun hHeld => ?_)
              clear hK K
              simp only [Act.put, List.setIfInBounds_toArray, List.set_cons_zero, List.set_cons_succ]
              refine wpAnyH_ready (rs := [1, 8]) (by kernel_rfl) (by simp) ?_
              refine AllReadyH.cons (o := ?_) ?_ (fun K hK => ?_) ?_
              rotate_left
              · simp only [List.getElem?_toArray, List.getElem?_cons_succ, List.getElem?_cons_zero]; rfl
              · go_simp
                refine hK.out _ _ (HKP.out.ext x1) (fun hHeld => ?_)
                clear hK K
                simp only [Act.put, List.setIfInBounds_toArray, List.set_cons_zero, List.set_cons_succ]
                clear c4
                refine wpAnyH_ready (rs := [8]) (by kernel_rfl) (by simp) ?_
                refine AllReadyH.cons (o := ?_) ?_ (fun K hK => ?_) AllReadyH.nil
                rotate_left
                · simp only [List.getElem?_toArray, List.getElem?_cons_succ, List.getElem?_cons_zero]; rfl
                go_simp
                refine hK.out _ _ ((HKP.out.ext x1).alloc _) (fun hHeld => ?_)
                clear hK K
                simp only [Act.put, List.setIfInBounds_toArray, List.set_cons_zero, List.set_cons_succ]
                refine wpAnyH_ready (rs := [9]) (by kernel_rfl) (by simp) ?_
                refine AllReadyH.cons (o := ?_) ?_ (fun K hK => ?_) AllReadyH.nil
                rotate_left
                · simp only [List.getElem?_toArray, List.getElem?_cons_succ, List.getElem?_cons_zero]; rfl
                refine step_app_one (W0 := W1) (by rfl) _ _ 39 57 (by rfl) Tryz.underlying39 (.agg #[.int .i64 0, .int .i64 0]) 16 #[.int .i64 lo, .int .i64 hi] (by kernel_rfl) rfl (by simp) (by simp) (by decide) (by simp [Value.oneCell']) Wd.heap.size _ q _ (by rfl) (by exact own_ext HOW.out x1) (by exact ext_alloc (ext_refl _) _) _ (by rfl) (heap_alloc_at _ _ (by simp)) (by have := x1.size; omega) (by omega) ?_
                intro g cap w5 hown5 hB5 hg5 hor5
                have eA : Ext W1 (W1.alloc (.cells #[.int .i64 lo, .int .i64 hi] 57)) := ext_alloc (ext_refl _) _
                have xA := ext_trans x1 eA
                have hk5 : Kept (fun b => b = T3) Wd w5 := ⟨hB5.os.trans (HKP.out.ext xA).os, hB5.tape.trans (HKP.out.ext xA).tape, hB5.output.trans (HKP.out.ext xA).output, Nat.le_trans (HKP.out.ext xA).size hB5.size, fun b hb ho => (hB5.block b hb).trans ((HKP.out.ext xA).blk b hb ho)⟩
                have b5 : w5.heap[T3]? = some (.cells #[.slice A' n wc', .slice S' pn pc', .int .i64 wrong, .slice P1 hn pc1, (.slice P2 q pc2), .int .i64 start, .int .i64 calls] 41 (0, 0)) := by
                  rw [hB5.block _ HT4.out]; exact ext_blk_keep xA V3.out
                have HOW5 := hid hown5
                clear hown5
                rw [← HRNG.out] at HOW5
                refine hK.out _ _ hk5 (fun hHeld => ?_)
                clear hK K
                simp only [Act.put, List.setIfInBounds_toArray, List.set_cons_zero, List.set_cons_succ]
                have c5 := blk_cell b5
                have z5 : ∀ j, w5.frozen? ⟨T3, j, none⟩ = false := fun j => frozen_of_row w5 _ j _ _ b5
                have B5 := hid b5
                clear b5 c3 z3
                refine takeR (i := 10) (oi := ?_) (v := ?_) ?_ (by kernel_rfl) (by kernel_rfl) (by kernel_rfl) ?_ ?_ (by assumption) ?_
                rotate_left 2
                · simp only [List.getElem?_toArray, List.getElem?_cons_succ, List.getElem?_cons_zero]; rfl
                · kernel_rfl
                · intro Wx hSx
                  try dsimp only at hSx
                  go_simp
                  try with_reducible rfl
                simp only [Act.put, List.setIfInBounds_toArray, List.set_cons_zero, List.set_cons_succ]
                refine wpAnyH_ready (rs := [11]) (by kernel_rfl) (by simp) ?_
                refine AllReadyH.cons (o := ?_) ?_ (fun K hK => ?_) AllReadyH.nil
                rotate_left
                · simp only [List.getElem?_toArray, List.getElem?_cons_succ, List.getElem?_cons_zero]; rfl
                go_simp
                refine hK.out _ _ (hk5.set _ rfl) (fun hHeld => ?_)
                clear hK K
                simp only [Act.put, List.setIfInBounds_toArray, List.set_cons_zero, List.set_cons_succ]
                refine done_R HR (by kernel_rfl) ?_
                clear HR c5 z5
                go_wp2
                go_roundw
                case rel => exact ⟨q + 1, _, hlt, by go_num, heap_set_at B5.out rfl, own_kept HOW5.out ((Kept.refl (fun b => b = T3) _).set _ rfl) (fun b hb => by have := HT4.out; omega), hk5.set _ rfl⟩
                case measure => simp [intOf]; omega
              refine AllReadyH.cons (o := ?_) ?_ (fun K hK => ?_) AllReadyH.nil
              rotate_left
              · simp only [List.getElem?_toArray, List.getElem?_cons_succ, List.getElem?_cons_zero]; rfl
              · go_simp
                clear c4
                have c4 := blk_cell (ext_blk_keep (ext_alloc x1 (.cells #[.int .i64 lo, .int .i64 hi] 57)) V3.out)
                refine hK.out _ _ ((HKP.out.ext x1).alloc _) (fun hHeld => ?_)
                clear hK K
                simp only [Act.put, List.setIfInBounds_toArray, List.set_cons_zero, List.set_cons_succ]
                refine wpAnyH_ready (rs := [1]) (by kernel_rfl) (by simp) ?_
                refine AllReadyH.cons (o := ?_) ?_ (fun K hK => ?_) AllReadyH.nil
                rotate_left
                · simp only [List.getElem?_toArray, List.getElem?_cons_succ, List.getElem?_cons_zero]; rfl
                go_simp
                refine hK.out _ _ ((HKP.out.ext x1).alloc _) (fun hHeld => ?_)
                clear hK K
                simp only [Act.put, List.setIfInBounds_toArray, List.set_cons_zero, List.set_cons_succ]
                clear c4
                refine wpAnyH_ready (rs := [9]) (by kernel_rfl) (by simp) ?_
                refine AllReadyH.cons (o := ?_) ?_ (fun K hK => ?_) AllReadyH.nil
                rotate_left
                · simp only [List.getElem?_toArray, List.getElem?_cons_succ, List.getElem?_cons_zero]; rfl
                refine step_app_one (W0 := W1) (by rfl) _ _ 39 57 (by rfl) Tryz.underlying39 (.agg #[.int .i64 0, .int .i64 0]) 16 #[.int .i64 lo, .int .i64 hi] (by kernel_rfl) rfl (by simp) (by simp) (by decide) (by simp [Value.oneCell']) Wd.heap.size _ q _ (by rfl) (by exact own_ext HOW.out x1) (by exact ext_alloc (ext_refl _) _) _ (by rfl) (heap_alloc_at _ _ (by simp)) (by have := x1.size; omega) (by omega) ?_
                intro g cap w5 hown5 hB5 hg5 hor5
                have eA : Ext W1 (W1.alloc (.cells #[.int .i64 lo, .int .i64 hi] 57)) := ext_alloc (ext_refl _) _
                have xA := ext_trans x1 eA
                have hk5 : Kept (fun b => b = T3) Wd w5 := ⟨hB5.os.trans (HKP.out.ext xA).os, hB5.tape.trans (HKP.out.ext xA).tape, hB5.output.trans (HKP.out.ext xA).output, Nat.le_trans (HKP.out.ext xA).size hB5.size, fun b hb ho => (hB5.block b hb).trans ((HKP.out.ext xA).blk b hb ho)⟩
                have b5 : w5.heap[T3]? = some (.cells #[.slice A' n wc', .slice S' pn pc', .int .i64 wrong, .slice P1 hn pc1, (.slice P2 q pc2), .int .i64 start, .int .i64 calls] 41 (0, 0)) := by
                  rw [hB5.block _ HT4.out]; exact ext_blk_keep xA V3.out
                have HOW5 := hid hown5
                clear hown5
                rw [← HRNG.out] at HOW5
                refine hK.out _ _ hk5 (fun hHeld => ?_)
                clear hK K
                simp only [Act.put, List.setIfInBounds_toArray, List.set_cons_zero, List.set_cons_succ]
                have c5 := blk_cell b5
                have z5 : ∀ j, w5.frozen? ⟨T3, j, none⟩ = false := fun j => frozen_of_row w5 _ j _ _ b5
                have B5 := hid b5
                clear b5 c3 z3
                refine takeR (i := 10) (oi := ?_) (v := ?_) ?_ (by kernel_rfl) (by kernel_rfl) (by kernel_rfl) ?_ ?_ (by assumption) ?_
                rotate_left 2
                · simp only [List.getElem?_toArray, List.getElem?_cons_succ, List.getElem?_cons_zero]; rfl
                · kernel_rfl
                · intro Wx hSx
                  try dsimp only at hSx
                  go_simp
                  try with_reducible rfl
                simp only [Act.put, List.setIfInBounds_toArray, List.set_cons_zero, List.set_cons_succ]
                refine wpAnyH_ready (rs := [11]) (by kernel_rfl) (by simp) ?_
                refine AllReadyH.cons (o := ?_) ?_ (fun K hK => ?_) AllReadyH.nil
                rotate_left
                · simp only [List.getElem?_toArray, List.getElem?_cons_succ, List.getElem?_cons_zero]; rfl
                go_simp
                refine hK.out _ _ (hk5.set _ rfl) (fun hHeld => ?_)
                clear hK K
                simp only [Act.put, List.setIfInBounds_toArray, List.set_cons_zero, List.set_cons_succ]
                refine done_R HR (by kernel_rfl) ?_
                clear HR c5 z5
                go_wp2
                go_roundw
                case rel => exact ⟨q + 1, _, hlt, by go_num, heap_set_at B5.out rfl, own_kept HOW5.out ((Kept.refl (fun b => b = T3) _).set _ rfl) (fun b hb => by have := HT4.out; omega), hk5.set _ rfl⟩
                case measure => simp [intOf]; omega
          · obtain rfl : sn = q := by omega
            rw [List.take_of_length_le (by have := KE.out.tl; omega)] at HOW
            have L6 := hid (HKP.out.keep L5.out (by have := HT3w.out; omega))
            have c2 := blk_cell L6.out
            have z2 : ∀ j, wr.frozen? ⟨w.heap.size + 1, j, none⟩ = false := fun j => frozen_of_row wr _ j _ _ L6.out
            have hlt9 := (Array.getElem?_eq_some_iff.1 L6.out).1
            go_wp2
            have hk2 : Kept (fun b => b = w.heap.size + 1) wr (((((((wr.setCell ⟨w.heap.size + 1, 0, none⟩ (.slice A' n wc')).setCell ⟨w.heap.size + 1, 1, none⟩ (.slice S' pn pc')).setCell ⟨w.heap.size + 1, 2, none⟩ (.int .i64 wrong)).setCell ⟨w.heap.size + 1, 3, none⟩ (.slice P1 hn pc1)).setCell ⟨w.heap.size + 1, 4, none⟩ (.slice P2 sn pc2)).setCell ⟨w.heap.size + 1, 5, none⟩ (.int .i64 start)).setCell ⟨w.heap.size + 1, 6, none⟩ (.int .i64 calls)) := (((((((Kept.refl (fun b => b = w.heap.size + 1) wr).set _ rfl).set _ rfl).set _ rfl).set _ rfl).set _ rfl).set _ rfl).set _ rfl
            have hk3 := (HKP.out.mono (ow' := fun b => b = T3 ∨ b = w.heap.size + 1) (fun b hb => .inl hb)).trans (hk2.mono (fun b hb => .inr hb))
            have htb := HTAB2.out _ hk3
            have g0 := set7 L6.out rfl (.slice A' n wc') (.slice S' pn pc') (.int .i64 wrong) (.slice P1 hn pc1) (.slice P2 sn pc2) (.int .i64 start) (.int .i64 calls)
            refine bodyPost_ret (v := .agg #[.slice A' n wc', .slice S' pn pc', .int .i64 wrong, .slice P1 hn pc1, .slice P2 sn pc2, .int .i64 start, .int .i64 calls]) (results_cell_row (fn := Tryz.f23) (p := 2) (ty := 41) rfl _ _ (w.heap.size + 1) 41 _ (0, 0) _ rfl g0 Tryz.underlying41 rfl (by kernel_rfl)) rfl ⟨_, _, _, _, _, _, _, _, rfl, ⟨htb.W, htb.wl, htb.P, htb.pl, HHOM.out _ hk3, KE.out.hl, own_rngs KE.out.tl (own_kept HOW.out hk2 (fun b hb => by have := HT4.out; have := HT3w.out; omega)) (by omega), KE.out.tl, hn3, hp3, hh3, hs3⟩, hk2.extOld hew (fun b hb h => by omega)⟩
end
end Go.Proofs.YtlcakmbejjlmeaaGreat
/- Contracts in the form in which the statements' bodies take them. -/
set_option linter.unusedVariables false
set_option linter.unusedSimpArgs false
namespace Go.Proofs.YtlcakmbejjlmeaaGreat
open Go.RowKit

/-- An errand's four lists lie in memory, whatever their lengths. -/
structure ErrIn (w : World) (A : Option Addr) (n wc : Nat) (S : Option Addr) (pn pc : Nat) (H : Option Addr) (hn hc : Nat) (T : Option Addr) (sn sc : Nat) (women : List Wom) (pieces : List Pce) (home streets : List Rng) : Prop where
  W : IsWoms w (.slice A n wc) women
  wl : women.length = n
  P : IsPces w (.slice S pn pc) pieces
  pl : pieces.length = pn
  H : IsRngs w (.slice H hn hc) home
  hl : home.length = hn
  T : IsRngs w (.slice T sn sc) streets
  tl : streets.length = sn
theorem ErrIn.ext {w w' : World} {A : Option Addr} {n wc : Nat} {S : Option Addr} {pn pc : Nat} {H : Option Addr} {hn hc : Nat} {T : Option Addr} {sn sc : Nat} {women : List Wom} {pieces : List Pce} {home streets : List Rng} (h : ErrIn w A n wc S pn pc H hn hc T sn sc women pieces home streets) (e : Ext w w') : ErrIn w' A n wc S pn pc H hn hc T sn sc women pieces home streets :=
  ⟨h.W.ext e, h.wl, h.P.ext e, h.pl, h.H.ext e, h.hl, h.T.ext e, h.tl⟩
theorem thin3F_iff (women : List Wom) (pieces : List Pce) : thin3F women pieces = true ↔ women.length ≤ 30 ∧ pieces.length ≤ 30 ∧ ∀ i, i < pieces.length → (pMs pieces i).length ≤ 30 := by
  unfold thin3F
  rw [Bool.and_eq_true, Bool.and_eq_true, allT_iff]
  simp only [decide_eq_true_eq, and_assoc]
theorem shortF_iff (women : List Wom) (pieces : List Pce) (home streets : List Rng) : shortF women pieces home streets = true ↔ (women.length ≤ 30 ∧ pieces.length ≤ 30 ∧ ∀ i, i < pieces.length → (pMs pieces i).length ≤ 30) ∧ home.length ≤ 30 ∧ streets.length ≤ 30 := by
  unfold shortF
  rw [Bool.and_eq_true, Bool.and_eq_true, thin3F_iff]
  simp only [decide_eq_true_eq, and_assoc]
theorem ErrIn.at {w : World} {A : Option Addr} {n wc : Nat} {S : Option Addr} {pn pc : Nat} {H : Option Addr} {hn hc : Nat} {T : Option Addr} {sn sc : Nat} {women : List Wom} {pieces : List Pce} {home streets : List Rng} (h : ErrIn w A n wc S pn pc H hn hc T sn sc women pieces home streets) (hs : shortF women pieces home streets = true) :
    ErrAt w A n wc S pn pc H hn hc T sn sc women pieces home streets ∧ n ≤ 30 ∧ (∀ i, i < pn → (pMs pieces i).length ≤ 1000) := by
  obtain ⟨⟨h1, h2, h3⟩, h4, h5⟩ := (shortF_iff _ _ _ _).1 hs
  have a1 := h.wl
  have a2 := h.pl
  have a3 := h.hl
  have a4 := h.tl
  exact ⟨⟨h.W, h.wl, h.P, h.pl, h.H, h.hl, h.T, h.tl, by omega, by omega, by omega, by omega⟩, by omega, fun i hi => Nat.le_trans (h3 i (by omega)) (by omega)⟩
section
variable (A : Option Addr) (n wc : Nat) (S : Option Addr) (pn pc : Nat) (wrong : Int) (H : Option Addr) (hn hc : Nat) (T : Option Addr) (sn sc : Nat) (start calls : Int) (women : List Wom) (pieces : List Pce) (home streets : List Rng)
theorem short_x (w : World) (h : ErrIn w A n wc S pn pc H hn hc T sn sc women pieces home streets) (y : Bool) (hy : Hid (shortF women pieces home streets = y)) :
    Calls Tryz.prog 20 #[.agg #[.slice A n wc, .slice S pn pc, .int .i64 wrong, .slice H hn hc, .slice T sn sc, .int .i64 start, .int .i64 calls]] w fun e w' => e = .returned (.bool y) ∧ Ext w w' :=
  (short_c A n wc women S pn pc pieces wrong H hn hc T sn sc start calls home streets w h.W h.wl h.P h.pl h.hl h.tl (by have := h.H.1; have := h.hl; omega) (by have := h.T.1; have := h.tl; omega)).mono fun e w' ⟨h1, h2⟩ => ⟨by rw [h1, hy.out], h2⟩
/-- The errand, turned to the program's. -/
theorem errand_x (w : World) (h : ErrAt w A n wc S pn pc H hn hc T sn sc women pieces home streets) (hm : ∀ i, i < pn → (pMs pieces i).length ≤ 1000) :
    Calls Tryz.prog 23 #[.agg #[.slice A n wc, .slice S pn pc, .int .i64 wrong, .slice H hn hc, .slice T sn sc, .int .i64 start, .int .i64 calls]] w
      fun e w' => ∃ A' wc' S' pc' H' hc' T' sc', e = .returned (.agg #[.slice A' n wc', .slice S' pn pc', .int .i64 wrong, .slice H' hn hc', .slice T' sn sc', .int .i64 start, .int .i64 calls]) ∧ ErrAt w' A' n wc' S' pn pc' H' hn hc' T' sn sc' women pieces home streets ∧ Ext w w' :=
  errand_c A n wc S pn pc wrong H hn hc T sn sc start calls women pieces home streets w h hm
theorem check_x (w : World) (h : ErrAt w A n wc S pn pc H hn hc T sn sc women pieces home streets) (fe : Int) (hfe : Hid (errE women pieces wrong home streets start calls = fe)) :
    Calls Tryz.prog 26 #[.agg #[.slice A n wc, .slice S pn pc, .int .i64 wrong, .slice H hn hc, .slice T sn sc, .int .i64 start, .int .i64 calls]] w fun e w' => e = .returned (.int .i64 fe) ∧ Ext w w' :=
  (checkErrand_c A n wc S pn pc wrong H hn hc T sn sc start calls women pieces home streets w h).mono fun e w' ⟨h1, h2⟩ => ⟨by rw [h1, hfe.out], h2⟩
theorem play_x (hn1 : n ≤ 100) (w : World) (h : ErrAt w A n wc S pn pc H hn hc T sn sc women pieces home streets) (tv wv : Value) (truth walk : List Int) (hT : IsInts w tv truth) (hW : IsInts w wv walk) (L : List Int) (ln : Nat) (code : Int)
    (hL : Hid (playL women pieces wrong home streets start calls truth walk = L)) (hln : Hid (L.length = ln)) (hcd : Hid (playC women pieces wrong home streets start calls truth walk = code)) :
    Calls Tryz.prog 22 #[.agg #[.slice A n wc, .slice S pn pc, .int .i64 wrong, .slice H hn hc, .slice T sn sc, .int .i64 start, .int .i64 calls], tv, wv] w
      fun e w' => ∃ V vc, e = .returned (.tuple #[.slice V ln vc, .int .i64 code]) ∧ IsInts w' (.slice V ln vc) L ∧ Ext w w' := by
  refine (play_c A n wc S pn pc wrong H hn hc T sn sc start calls women pieces home streets hn1 w h tv wv truth walk hT hW).mono fun e w' ⟨v, h1, h2, h3⟩ => ?_
  rw [hL.out] at h2
  obtain ⟨V, vc, rfl⟩ := h2.val
  rw [hln.out] at h1 h2
  exact ⟨V, vc, by rw [h1, hcd.out], h2, h3⟩
theorem comes_x (hn1 : n ≤ 100) (w : World) (h : ErrAt w A n wc S pn pc H hn hc T sn sc women pieces home streets) (wv : Value) (walk : List Int) (hW : IsInts w wv walk) (L : List Rng) (ln : Nat) (code : Int)
    (hL : Hid (comesL women pieces wrong home streets start calls walk = L)) (hln : Hid (L.length = ln)) (hcd : Hid (walkC women pieces wrong home streets start calls walk = code)) :
    Calls Tryz.prog 31 #[.agg #[.slice A n wc, .slice S pn pc, .int .i64 wrong, .slice H hn hc, .slice T sn sc, .int .i64 start, .int .i64 calls], wv] w
      fun e w' => ∃ V vc, e = .returned (.tuple #[.slice V ln vc, .int .i64 code]) ∧ IsRngs w' (.slice V ln vc) L ∧ Ext w w' := by
  refine (comes_c A n wc S pn pc wrong H hn hc T sn sc start calls women pieces home streets hn1 w h wv walk hW).mono fun e w' ⟨v, h1, h2, h3⟩ => ?_
  rw [hL.out] at h2
  obtain ⟨V, vc, rfl⟩ := h2.val
  rw [hln.out] at h1 h2
  exact ⟨V, vc, by rw [h1, hcd.out], h2, h3⟩
theorem brings_x (hn1 : n ≤ 100) (w : World) (h : ErrAt w A n wc S pn pc H hn hc T sn sc women pieces home streets) (wv : Value) (walk : List Int) (hW : IsInts w wv walk) (L : List Int) (ln : Nat) (code : Int)
    (hL : Hid (bringsL women pieces wrong home streets start calls walk = L)) (hln : Hid (L.length = ln)) (hcd : Hid (walkC women pieces wrong home streets start calls walk = code)) :
    Calls Tryz.prog 37 #[.agg #[.slice A n wc, .slice S pn pc, .int .i64 wrong, .slice H hn hc, .slice T sn sc, .int .i64 start, .int .i64 calls], wv] w
      fun e w' => ∃ V vc, e = .returned (.tuple #[.slice V ln vc, .int .i64 code]) ∧ IsInts w' (.slice V ln vc) L ∧ Ext w w' := by
  refine (bringsX_c A n wc S pn pc wrong H hn hc T sn sc start calls women pieces home streets hn1 w h wv walk hW).mono fun e w' ⟨v, h1, h2, h3⟩ => ?_
  rw [hL.out] at h2
  obtain ⟨V, vc, rfl⟩ := h2.val
  rw [hln.out] at h1 h2
  exact ⟨V, vc, by rw [h1, hcd.out], h2, h3⟩
theorem late_x (hn1 : n ≤ 100) (w : World) (h : ErrAt w A n wc S pn pc H hn hc T sn sc women pieces home streets) (wv : Value) (walk : List Int) (hW : IsInts w wv walk) (m code : Int)
    (hm : Hid (lateN women pieces wrong home streets start calls walk = m)) (hcd : Hid (lateC women pieces wrong home streets start calls walk = code)) :
    Calls Tryz.prog 32 #[.agg #[.slice A n wc, .slice S pn pc, .int .i64 wrong, .slice H hn hc, .slice T sn sc, .int .i64 start, .int .i64 calls], wv] w
      fun e w' => e = .returned (.tuple #[.int .i64 m, .int .i64 code]) ∧ Ext w w' :=
  (lateX_c A n wc S pn pc wrong H hn hc T sn sc start calls women pieces home streets hn1 w h wv walk hW).mono fun e w' ⟨h1, h2⟩ => ⟨by rw [h1, hm.out, hcd.out], h2⟩
theorem prove_x (hn1 : n ≤ 100) (w : World) (h : ErrAt w A n wc S pn pc H hn hc T sn sc women pieces home streets) (wv : Value) (walk : List Int) (hW : IsInts w wv walk) (many : Int) (y : Bool)
    (hy : Hid (proveB women pieces wrong home streets start calls walk many = y)) :
    Calls Tryz.prog 59 #[.agg #[.slice A n wc, .slice S pn pc, .int .i64 wrong, .slice H hn hc, .slice T sn sc, .int .i64 start, .int .i64 calls], wv, .int .i64 many] w
      fun e w' => e = .returned (.bool y) ∧ Ext w w' :=
  (prove_c A n wc S pn pc wrong H hn hc T sn sc start calls women pieces home streets hn1 w h wv walk hW many).mono fun e w' ⟨h1, h2⟩ => ⟨by rw [h1, hy.out], h2⟩
end
theorem ints_b (av bv : Value) (a b : List Int) (w : World) (ha : IsInts w av a) (hb : IsInts w bv b) (y : Bool) (hy : Hid (intsF a b = y)) :
    Calls Tryz.prog 29 #[av, bv] w fun e w' => e = .returned (.bool y) ∧ Ext w w' :=
  (ints_c av bv a b w ha hb).mono fun e w' ⟨h1, h2⟩ => ⟨by rw [h1, hy.out], h2⟩
theorem list_x (v : Value) (xs : List Int) (n : Nat) (w : World) (hv : IsInts w v xs) (hn : Hid (xs.length = n)) (hl : n ≤ 1000) : Calls Tryz.prog 24 #[v] w fun e w' => ∃ V vc, e = .returned (.slice V n vc) ∧ IsInts w' (.slice V n vc) xs ∧ Ext w w' :=
  (list_c v xs w hv (by rw [hn.out]; exact hl)).mono fun e w' ⟨v', h1, h2, h3⟩ => by
    obtain ⟨V, vc, rfl⟩ := h2.val
    rw [hn.out] at h1 h2
    exact ⟨V, vc, h1, h2, h3⟩
theorem rngM_self (xs : List Int) : rngM (at0 xs) xs.length = at0 xs := by
  funext i
  unfold rngM
  split
  · rfl
  · simp [at0, List.getD_eq_getElem?_getD, List.getElem?_eq_none (by omega : xs.length ≤ i)]
end Go.Proofs.YtlcakmbejjlmeaaGreat
/- What the statements' arguments are: an errand of the reference, a list of whole numbers, read out of memory. -/
set_option linter.unusedVariables false
set_option linter.unusedSimpArgs false
namespace Go.Proofs.YtlcakmbejjlmeaaGreat
open Go.RowKit Go.ChangeShapes Go.WideShapes Go.Deep

/-- All weights of a datum are within the form's reach. -/
def WOk {H : Type} (P : Program) (t : TypeId) (d : DataW H) : Prop := ∀ n ∈ d.weights P t, n ≤ reachBytes
theorem WOk.slice {H : Type} {P : Program} {t e : TypeId} {xs ys : List (DataW H)} (hu : P.underlying t = some (.slice e)) (h : WOk P t (.slice xs ys)) : (xs.length + ys.length) * P.bytesOf e ≤ reachBytes ∧ ∀ d ∈ xs, WOk P e d := by
  have h1 : ∀ (l : List (DataW H)) (d : DataW H), d ∈ l → ∀ n ∈ d.weights P e, n ∈ DataW.weightsAll P e l := by
    intro l
    induction l with
    | nil => intro d hd; simp at hd
    | cons a l ih =>
      intro d hd n hn
      simp only [DataW.weightsAll, List.mem_append]
      rcases List.mem_cons.1 hd with rfl | hd
      · exact .inl hn
      · exact .inr (ih d hd n hn)
  refine ⟨h _ (by simp [DataW.weights, hu]), fun d hd n hn => h n ?_⟩
  simp only [DataW.weights, hu, List.mem_cons, List.mem_append]
  exact .inr (.inl (h1 xs d hd n hn))
theorem WOk.agg {H : Type} {P : Program} {t : TypeId} {fs : Array Field} {ps : List (DataW H)} (hu : P.underlying t = some (.struct fs)) (h : WOk P t (.agg ps)) {j : Nat} {f : Field} {d : DataW H} (hf : fs[j]? = some f) (hd : ps[j]? = some d) : WOk P f.type d := fun n hn => h n (by
  simp only [DataW.weights, hu]
  exact DataW.weights_mem_each (j := j) (t := f.type) (by simp [hf]) hd n hn)

section
variable {H : Type} {enc : TypeId × Value → H} {W : World} {sp : Nat → Bool} {held : Bool}
theorem plain_of {a : Addr} {v : Value} {W : World} (h : W.cell? a = some v) : ∃ b o, a = ⟨b, o, none⟩ := by
  obtain ⟨b, off, spot⟩ := a
  have hspot : spot = none := by simpa using World.cell?_spot h
  subst hspot
  exact ⟨b, off, rfl⟩
/-- The cells of an element, at a plain address. -/
theorem cells_at {b o k n : Nat} {cs : List Value} (h : W.cells? 0 ((⟨b, o, none⟩ : Addr).add k) n = some cs) : cs.length = n ∧ ∀ j, j < n → W.cell? ⟨b, o + k + j, none⟩ = cs[j]? := by
  obtain ⟨_, h1, h2⟩ := World.cells?_some h
  refine ⟨h1, fun j hj => ?_⟩
  rw [← h2 j hj, add_plain, add_plain]
theorem open_intsW {fuel : Nat} {v : Value} {x : DataW H × List MemPlace} (h : DataW.trod enc Tryz.prog W 0 sp held fuel 29 [v] = some x) (hw : WOk Tryz.prog 29 x.1) : ∃ A n c xs, v = .slice A n c ∧ IsInts W v xs ∧ xs.length = n := by
  rcases open_slice1 Tryz.underlying29 (by kernel_rfl) h with ⟨hc, rfl⟩ | ⟨a, len, cap, m, n, V, D, Pl, hc, _, hl, hm, hmm, rfl, hx⟩
  · injection hc with hc
    subst hc
    exact ⟨_, _, _, [], rfl, IsInts.nil _ _, rfl⟩
  · injection hc with hc
    subst hc
    have hlm : len ≤ m := by rw [hmm]; split <;> omega
    have hb := (WOk.slice Tryz.underlying29 hw).1
    have hb8 : Tryz.prog.bytesOf 3 = 8 := by kernel_rfl
    rw [hb8, List.length_map, List.length_range, List.length_map, List.length_range] at hb
    have hr : reachBytes < 140737488355328 := by decide
    obtain ⟨f, hf⟩ := choose_lt (n := len) (p := fun i z => W.cell? (a.add i) = some (.int .i64 z)) (fun i hi => by
      obtain ⟨h1, h2⟩ := hx i (by omega)
      obtain ⟨z, hz, _, _⟩ := DataW.trod_int Tryz.underlying3 h2
      injection hz with hz
      exact ⟨z, by rw [h1, hz]⟩)
    refine ⟨some a, len, cap, (List.range len).map f, rfl, ⟨by simp; omega, some a, cap, by simp, fun hp => ?_⟩, by simp⟩
    simp only [List.length_map, List.length_range] at hp ⊢
    obtain ⟨b, o, rfl⟩ : ∃ b o, a = ⟨b, o, none⟩ := by
      have := hf 0 hp
      simp only [Addr.add, if_true] at this
      exact plain_of this
    refine ⟨b, o, rfl, fun i hi => ?_⟩
    rw [← add_plain, hf i hi]
    simp [at0, hi]
theorem open_pair {t : TypeId} {f0 f1 : Field} (ht : Tryz.prog.underlying t = some (.struct #[f0, f1])) (hc : Tryz.prog.cellsOf t = 2) (h0 : f0.type = 3 ∧ f0.offset = 0) (h1 : f1.type = 3 ∧ f1.offset = 1) {fuel : Nat} {cs : List Value} {x : DataW H × List MemPlace} (h : DataW.trod enc Tryz.prog W 0 sp held fuel t cs = some x) : ∃ a b : Int, cs = [.int .i64 a, .int .i64 b] := by
  obtain ⟨y0, y1, n, _, hl, k0, k1⟩ := trod_struct2 ht h
  rw [hc] at hl
  rw [h0.1, h0.2] at k0
  rw [h1.1, h1.2] at k1
  have hc3 : Tryz.prog.cellsOf 3 = 1 := by kernel_rfl
  rw [hc3] at k0 k1
  match cs, hl with
  | [c0, c1], _ =>
    obtain ⟨a, ha, _⟩ := DataW.trod_int Tryz.underlying3 k0
    obtain ⟨b, hb, _⟩ := DataW.trod_int Tryz.underlying3 k1
    simp at ha hb
    exact ⟨a, b, by rw [ha, hb]⟩
theorem open_rngsW {fuel : Nat} {v : Value} {x : DataW H × List MemPlace} (h : DataW.trod enc Tryz.prog W 0 sp held fuel 26 [v] = some x) (hw : WOk Tryz.prog 26 x.1) : ∃ A n c xs, v = .slice A n c ∧ IsRngs W v xs ∧ xs.length = n := by
  rcases open_slice Tryz.underlying26 h with ⟨hc, rfl⟩ | ⟨a, len, cap, m, n, D, Pl, hc, _, hl, hm, hmm, rfl, hx⟩
  · injection hc with hc
    subst hc
    exact ⟨_, _, _, [], rfl, ⟨by simp, none, 0, rfl, fun h => absurd h (by simp)⟩, rfl⟩
  · injection hc with hc
    subst hc
    have hlm : len ≤ m := by rw [hmm]; split <;> omega
    have hb := (WOk.slice Tryz.underlying26 hw).1
    have hb8 : Tryz.prog.bytesOf 73 = 16 := by kernel_rfl
    rw [hb8, List.length_map, List.length_range, List.length_map, List.length_range] at hb
    have hr : reachBytes < 140737488355328 := by decide
    have hc2 : Tryz.prog.cellsOf 73 = 2 := by kernel_rfl
    rw [hc2] at hx
    obtain ⟨f, hf⟩ := choose_lt (n := len) (p := fun i (z : Int × Int) => W.cells? 0 (a.add (i * 2)) 2 = some [.int .i64 z.1, .int .i64 z.2]) (fun i hi => by
      obtain ⟨cs, h1, h2⟩ := hx i (by omega)
      obtain ⟨p, q, rfl⟩ := open_pair Tryz.underlying73 hc2 ⟨rfl, rfl⟩ ⟨rfl, rfl⟩ h2
      exact ⟨(p, q), h1⟩)
    refine ⟨some a, len, cap, (List.range len).map fun i => ⟨(f i).1, (f i).2⟩, rfl, ⟨by simp; omega, some a, cap, by simp, fun hp => ?_⟩, by simp⟩
    simp only [List.length_map, List.length_range] at hp ⊢
    obtain ⟨b, o, rfl⟩ : ∃ b o, a = ⟨b, o, none⟩ := by
      have := (World.cells?_some (hf 0 hp)).2.2 0 (by omega)
      simp only [Addr.add, Nat.zero_mul, if_true] at this
      exact plain_of this
    refine ⟨b, o, rfl, fun i hi => ?_⟩
    have hk := (cells_at (hf i hi)).2
    have k0 := hk 0 (by omega)
    have k1 := hk 1 (by omega)
    rw [Nat.add_zero] at k0
    rw [k0, k1]
    simp [rLo, rHi, hi]
theorem open_womsW {fuel : Nat} {v : Value} {x : DataW H × List MemPlace} (h : DataW.trod enc Tryz.prog W 0 sp held fuel 22 [v] = some x) (hw : WOk Tryz.prog 22 x.1) : ∃ A n c xs, v = .slice A n c ∧ IsWoms W v xs ∧ xs.length = n := by
  rcases open_slice Tryz.underlying22 h with ⟨hc, rfl⟩ | ⟨a, len, cap, m, n, D, Pl, hc, _, hl, hm, hmm, rfl, hx⟩
  · injection hc with hc
    subst hc
    exact ⟨_, _, _, [], rfl, ⟨by simp, none, 0, rfl, fun h => absurd h (by simp)⟩, rfl⟩
  · injection hc with hc
    subst hc
    have hlm : len ≤ m := by rw [hmm]; split <;> omega
    have hb := (WOk.slice Tryz.underlying22 hw).1
    have hb8 : Tryz.prog.bytesOf 145 = 24 := by kernel_rfl
    rw [hb8, List.length_map, List.length_range, List.length_map, List.length_range] at hb
    have hr : reachBytes < 140737488355328 := by decide
    have hc3 : Tryz.prog.cellsOf 145 = 3 := by kernel_rfl
    have hc2 : Tryz.prog.cellsOf 73 = 2 := by kernel_rfl
    have hc1 : Tryz.prog.cellsOf 3 = 1 := by kernel_rfl
    rw [hc3] at hx
    obtain ⟨f, hf⟩ := choose_lt (n := len) (p := fun i (z : Int × Int × Int) => W.cells? 0 (a.add (i * 3)) 3 = some [.int .i64 z.1, .int .i64 z.2.1, .int .i64 z.2.2]) (fun i hi => by
      obtain ⟨cs, h1, h2⟩ := hx i (by omega)
      obtain ⟨y0, y1, n, _, hl, k0, k1⟩ := trod_struct2 Tryz.underlying145 h2
      rw [hc3] at hl
      simp only [hc1, hc2] at k0 k1
      match cs, hl with
      | [c0, c1, c2], _ =>
        obtain ⟨mk, ha, _⟩ := DataW.trod_int Tryz.underlying3 k0
        obtain ⟨p, q, hpq⟩ := open_pair Tryz.underlying73 hc2 ⟨rfl, rfl⟩ ⟨rfl, rfl⟩ k1
        simp at ha hpq
        refine ⟨(mk, p, q), ?_⟩
        rw [h1, ha, hpq.1, hpq.2])
    refine ⟨some a, len, cap, (List.range len).map fun i => ⟨(f i).1, (f i).2.1, (f i).2.2⟩, rfl, ⟨by simp; omega, some a, cap, by simp, fun hp => ?_⟩, by simp⟩
    simp only [List.length_map, List.length_range] at hp ⊢
    obtain ⟨b, o, rfl⟩ : ∃ b o, a = ⟨b, o, none⟩ := by
      have := (World.cells?_some (hf 0 hp)).2.2 0 (by omega)
      simp only [Addr.add, Nat.zero_mul, if_true] at this
      exact plain_of this
    refine ⟨b, o, rfl, fun i hi => ?_⟩
    have hk := (cells_at (hf i hi)).2
    have k0 := hk 0 (by omega)
    have k1 := hk 1 (by omega)
    have k2 := hk 2 (by omega)
    rw [Nat.add_zero] at k0
    rw [k0, k1, k2]
    simp [wMk, wLo, wHi, hi]
theorem open_pcesW {fuel : Nat} {v : Value} {x : DataW H × List MemPlace} (h : DataW.trod enc Tryz.prog W 0 sp held fuel 23 [v] = some x) (hw : WOk Tryz.prog 23 x.1) : ∃ A n c xs, v = .slice A n c ∧ IsPces W v xs ∧ xs.length = n := by
  rcases open_slice Tryz.underlying23 h with ⟨hc, rfl⟩ | ⟨a, len, cap, m, n, D, Pl, hc, _, hl, hm, hmm, rfl, hx⟩
  · injection hc with hc
    subst hc
    exact ⟨_, _, _, [], rfl, ⟨by simp, none, 0, rfl, fun h => absurd h (by simp)⟩, rfl⟩
  · injection hc with hc
    subst hc
    have hlm : len ≤ m := by rw [hmm]; split <;> omega
    obtain ⟨hb, hwe⟩ := WOk.slice Tryz.underlying23 hw
    have hb8 : Tryz.prog.bytesOf 90 = 32 := by kernel_rfl
    rw [hb8, List.length_map, List.length_range, List.length_map, List.length_range] at hb
    have hr : reachBytes < 140737488355328 := by decide
    have hc2 : Tryz.prog.cellsOf 90 = 2 := by kernel_rfl
    have hc1 : Tryz.prog.cellsOf 3 = 1 := by kernel_rfl
    have hc9 : Tryz.prog.cellsOf 29 = 1 := by kernel_rfl
    rw [hc2] at hx
    obtain ⟨f, hf⟩ := choose_lt (n := len) (p := fun i (z : Value × List Int × Int) => W.cells? 0 (a.add (i * 2)) 2 = some [z.1, .int .i64 z.2.2] ∧ IsInts W z.1 z.2.1) (fun i hi => by
      obtain ⟨cs, h1, h2⟩ := hx i (by omega)
      obtain ⟨y0, y1, n, hy, hl, k0, k1⟩ := trod_struct2 Tryz.underlying90 h2
      rw [hc2] at hl
      simp only [hc1, hc9] at k0 k1
      match cs, hl with
      | [c0, c1], _ =>
        obtain ⟨bd, ha, _⟩ := DataW.trod_int Tryz.underlying3 k1
        simp at ha
        have hwd : WOk Tryz.prog 90 (D i) := hwe _ (List.mem_map.2 ⟨i, List.mem_range.2 hi, rfl⟩)
        have hD : D i = .agg [y0.1, y1.1] := congrArg Prod.fst hy
        rw [hD] at hwd
        have hw0 : WOk Tryz.prog 29 y0.1 := WOk.agg Tryz.underlying90 hwd (j := 0) rfl rfl
        obtain ⟨_, _, _, xs, _, hxs, _⟩ := open_intsW (v := c0) (by simpa using k0) hw0
        refine ⟨(c0, xs, bd), ?_, hxs⟩
        rw [h1, ha])
    refine ⟨some a, len, cap, (List.range len).map fun i => ⟨(f i).2.1, (f i).2.2⟩, rfl, ⟨by simp; omega, some a, cap, by simp, fun hp => ?_⟩, by simp⟩
    simp only [List.length_map, List.length_range] at hp ⊢
    obtain ⟨b, o, rfl⟩ : ∃ b o, a = ⟨b, o, none⟩ := by
      have := (World.cells?_some (hf 0 hp).1).2.2 0 (by omega)
      simp only [Addr.add, Nat.zero_mul, if_true] at this
      exact plain_of this
    refine ⟨b, o, rfl, fun i hi => ⟨(f i).1, ?_, ?_, ?_⟩⟩
    · have k0 := (cells_at (hf i hi).1).2 0 (by omega)
      rw [Nat.add_zero] at k0
      rw [k0]; rfl
    · have h1 := (hf i hi).2
      have h2 : pMs ((List.range len).map fun i => (⟨(f i).2.1, (f i).2.2⟩ : Pce)) i = (f i).2.1 := by simp [pMs, hi]
      rw [h2]; exact h1
    · have k1 := (cells_at (hf i hi).1).2 1 (by omega)
      rw [k1]
      simp [pBd, hi]
set_option maxRecDepth 100000 in
/-- An errand of the reference, as the form reads it. -/
theorem open_errW {r : Reach} {b0 : Nat} {v : Value} {d : DataW H} {p : List MemPlace} (hv : Value.okWide Tryz.prog W r b0 28 v) (h : DataW.Trod enc Tryz.prog W 0 sp held 28 v d p) (hw : WOk Tryz.prog 28 d) :
    ∃ A n wc S pn pc wrong T0 hn hc T1 sn sc start calls women pieces home streets, v = .agg #[.slice A n wc, .slice S pn pc, .int .i64 wrong, .slice T0 hn hc, .slice T1 sn sc, .int .i64 start, .int .i64 calls] ∧
      IsWoms W (.slice A n wc) women ∧ women.length = n ∧ IsPces W (.slice S pn pc) pieces ∧ pieces.length = pn ∧ IsRngs W (.slice T0 hn hc) home ∧ home.length = hn ∧ IsRngs W (.slice T1 sn sc) streets ∧ streets.length = sn ∧ (Lit.int .i64 start).wf = true ∧ (Lit.int .i64 calls).wf = true ∧ (Lit.int .i64 wrong).wf = true := by
  obtain ⟨cs, rfl, hsz⟩ := okWide_struct Tryz.underlying28 hv
  have hc7 : Tryz.prog.cellsOf 28 = 7 := by kernel_rfl
  have hc3 : Tryz.prog.cellsOf 25 = 3 := by kernel_rfl
  have hc1 : Tryz.prog.cellsOf 3 = 1 := by kernel_rfl
  have hc26 : Tryz.prog.cellsOf 26 = 1 := by kernel_rfl
  have hc22 : Tryz.prog.cellsOf 22 = 1 := by kernel_rfl
  have hc23 : Tryz.prog.cellsOf 23 = 1 := by kernel_rfl
  rw [hc7] at hsz
  obtain ⟨l⟩ := cs
  match l, hsz with
  | [c0, c1, c2, c3, c4, c5, c6], _ =>
    obtain ⟨fuel, hf⟩ := h
    obtain ⟨xs, m, _, hx, _, hxl, hall⟩ := DataW.trod_struct Tryz.underlying28 hf
    match xs, hxl with
    | [y0, y1, y2, y3, y4], _ =>
      have k0 := hall 0 _ rfl
      have k1 := hall 1 _ rfl
      have k2 := hall 2 _ rfl
      have k3 := hall 3 _ rfl
      have k4 := hall 4 _ rfl
      simp only [hc3, hc1, hc26, Value.cells, List.drop_zero, List.drop_succ_cons, List.take_succ_cons, List.take_zero, List.getElem?_cons_zero, List.getElem?_cons_succ] at k0 k1 k2 k3 k4
      have hd : d = .agg [y0.1, y1.1, y2.1, y3.1, y4.1] := congrArg Prod.fst hx
      rw [hd] at hw
      have w0 : WOk Tryz.prog 25 y0.1 := WOk.agg Tryz.underlying28 hw (j := 0) rfl rfl
      have w1 : WOk Tryz.prog 26 y1.1 := WOk.agg Tryz.underlying28 hw (j := 1) rfl rfl
      have w2 : WOk Tryz.prog 26 y2.1 := WOk.agg Tryz.underlying28 hw (j := 2) rfl rfl
      obtain ⟨z0, z1, z2, m2, hz, _, j0, j1, j2⟩ := trod_struct3 Tryz.underlying25 k0
      simp only [hc22, hc23, hc1, List.drop_zero, List.drop_succ_cons, List.take_succ_cons, List.take_zero] at j0 j1 j2
      rw [congrArg Prod.fst hz] at w0
      have u0 : WOk Tryz.prog 22 z0.1 := WOk.agg Tryz.underlying25 w0 (j := 0) rfl rfl
      have u1 : WOk Tryz.prog 23 z1.1 := WOk.agg Tryz.underlying25 w0 (j := 1) rfl rfl
      obtain ⟨A, n, wc, women, rfl, hW, hwl⟩ := open_womsW j0 u0
      obtain ⟨S, pn, pc, pieces, rfl, hP, hpl⟩ := open_pcesW j1 u1
      obtain ⟨wrong, hwr, _, wf0⟩ := DataW.trod_int Tryz.underlying3 j2
      obtain ⟨T0, hn, hc, home, rfl, hH, hhl⟩ := open_rngsW k1 w1
      obtain ⟨T1, sn, sc, streets, rfl, hS, hsl⟩ := open_rngsW k2 w2
      obtain ⟨start, hst, _, wf1⟩ := DataW.trod_int Tryz.underlying3 k3
      obtain ⟨calls, hca, _, wf2⟩ := DataW.trod_int Tryz.underlying3 k4
      simp [hc3, hc1] at hwr hst hca
      subst hwr; subst hst; subst hca
      exact ⟨A, n, wc, S, pn, pc, wrong, T0, hn, hc, T1, sn, sc, start, calls, women, pieces, home, streets, rfl, hW, hwl, hP, hpl, hH, hhl, hS, hsl, wf1, wf2, wf0⟩
end
end Go.Proofs.YtlcakmbejjlmeaaGreat
