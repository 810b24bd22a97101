/- The contract of the reference's Walks. -/
import Derived.Test.YtlcakmbejjlmeaaGreatK10
import Derived.Test.YtlcakmbejjlmeaaGreatK8
set_option linter.unusedVariables false
set_option linter.unusedSimpArgs false
namespace Go.Proofs.YtlcakmbejjlmeaaGreat
open Go.RowKit

/-- Several lists more. -/
theorem LRow.app {W W' : World} {base : Nat} {E : Nat → Prop} {v : Value} {xss yss : List (List Int)} {ms ms2 : Nat → Value} {n m : Nat} (h : LRow W base E v xss ms) (hn : xss.length = n) (hm : yss.length = m) (hi : ∀ i, i < m → IsInts W (ms2 i) (lAt yss i)) (hE : ∀ i, i < m → ∀ b, (ms2 i).ownBlock = some b → E b ∧ v.ownBlock ≠ some b ∧ b < W.heap.size)
    (g cap : Nat) (hown : W'.ownsRow base 29 1 (.slice (some ⟨g, 0, none⟩) (n + m) cap) (n + m) ((List.range n).map ms ++ (List.range m).map ms2)) (hg : W.grownBy W' v.ownBlock) (hor : v.ownBlock = some g ∨ W.heap.size ≤ g) :
    LRow W' base E (.slice (some ⟨g, 0, none⟩) (n + m) cap) (xss ++ yss) (fun i => if i < n then ms i else ms2 (i - n)) := by
  subst hn
  subst hm
  have hne : ∀ b, (b < W.heap.size ∧ v.ownBlock ≠ some b) → (Value.slice (some ⟨g, 0, none⟩) (xss.length + yss.length) cap).ownBlock ≠ some b := fun b ⟨h1, h2⟩ h3 => by
    have : g = b := by simpa [Value.ownBlock] using h3
    subst this
    rcases hor with h | h
    · exact h2 h
    · omega
  refine ⟨?_, fun i hi' => ?_, fun i hi' b hb => ?_⟩
  · have e : (List.range (xss ++ yss).length).map (fun i => if i < xss.length then ms i else ms2 (i - xss.length)) = (List.range xss.length).map ms ++ (List.range yss.length).map ms2 := by
      rw [List.length_append]
      apply List.ext_getElem?
      intro j
      by_cases hj : j < xss.length
      · rw [List.getElem?_append_left (by simpa using hj)]
        simp [hj, show j < xss.length + yss.length from by omega]
      · rw [List.getElem?_append_right (by simp; omega)]
        by_cases hj2 : j < xss.length + yss.length
        · simp [hj2, hj, show j - xss.length < yss.length from by omega]
        · rw [List.getElem?_eq_none (by simp; omega), List.getElem?_eq_none (by simp; omega)]
    rw [e, List.length_append]
    exact hown
  · rw [List.length_append] at hi'
    by_cases h1 : i < xss.length
    · rw [if_pos h1, lAt_left h1]
      exact ints_grown (h.ints i h1) hg fun b hb => (h.blk i h1 b hb).2.1
    · rw [if_neg h1, lAt_right (by omega)]
      exact ints_grown (hi _ (by omega)) hg fun b hb => (hE _ (by omega) b hb).2.1
  · rw [List.length_append] at hi'
    by_cases h1 : i < xss.length
    · rw [if_pos h1] at hb
      have h2 := h.blk i h1 b hb
      exact ⟨h2.1, hne b ⟨h2.2.2, h2.2.1⟩, Nat.lt_of_lt_of_le h2.2.2 hg.size⟩
    · rw [if_neg h1] at hb
      have h2 := hE _ (by omega) b hb
      exact ⟨h2.1, hne b ⟨h2.2.2, h2.2.1⟩, Nat.lt_of_lt_of_le h2.2.2 hg.size⟩
theorem LRow.one (W : World) (base : Nat) (E : Nat → Prop) (m : Value) (x : List Int) (hb : base ≤ W.heap.size) (hm : IsInts W m x) (hE : ∀ b, m.ownBlock = some b → E b ∧ b < W.heap.size) :
    LRow (W.alloc (.cells #[m] 29)) base E (.slice (some ⟨W.heap.size, 0, none⟩) 1 1) [x] (fun _ => m) := by
  have h := World.ownsRow_lit (base := base) (e := 29) (size := 1) W #[m] 1 hb (by decide) (by simp)
  have e : Ext W (W.alloc (.cells #[m] 29)) := ext_alloc (ext_refl _) _
  refine ⟨by simpa using h, fun i hi => ?_, fun i hi b hb' => ?_⟩
  · obtain rfl : i = 0 := by simp at hi; omega
    exact hm.ext e
  · have h2 := hE b hb'
    refine ⟨h2.1, fun h3 => ?_, Nat.lt_of_lt_of_le h2.2 e.size⟩
    have : W.heap.size = b := by simpa [Value.ownBlock] using h3
    omega
/-- A step of a drawn region: a row of slices is appended to one that the call owns. -/
theorem step_app_rows {P : Program} {ops : Array Oper} {o : Oper} {a : Act} {K : Act → World → Prop} {Q : Exit → Act → World → Prop} {E : Prop} {w : World} (hgd : o.guard = none) (s x : Operand) (t e : TypeId)
    (ho : o.op = .call { callee := .builtin .append, args := #[s, x], argTypes := #[t, t] }) (ht : P.underlying t = some (.slice e)) (z : Value) (hinfo : (P.info? e).map (fun i => (i.zero, i.size, i.bytes)) = some (some z, 1, 24)) (hzs : z.cells.size = 1)
    (base : Nat) (v : Value) (n : Nat) (ms : Nat → Value) (hs : a.eval s = v) (hown : w.ownsRow base e 1 v n ((List.range n).map ms)) (base2 : Nat) (A : Option Addr) (m c : Nat) (ms2 : Nat → Value) (hx : a.eval x = .slice A m c) (hown2 : w.ownsRow base2 e 1 (.slice A m c) m ((List.range m).map ms2)) (h1 : ∀ i, i < m → (ms2 i).oneCell' = true)
    (hm : 0 < m) (hl : n + m ≤ 1000000) (hbase : base ≤ w.heap.size)
    (h : ∀ g cap w', w'.ownsRow base e 1 (.slice (some ⟨g, 0, none⟩) (n + m) cap) (n + m) ((List.range n).map ms ++ (List.range m).map ms2) → Below base w w' → w.grownBy w' v.ownBlock → (v.ownBlock = some g ∨ w.heap.size ≤ g) → K (a.put o.dst (.slice (some ⟨g, 0, none⟩) (n + m) cap)) w') :
    if Region.wanted o (yielded ops a.tmps) = true then Oper.wp P o a w K Q else E := by
  obtain ⟨i0, hi, hzz⟩ := Option.map_eq_some_iff.1 hinfo
  simp only [Prod.mk.injEq] at hzz
  obtain ⟨hz0, hz1, hz2⟩ := hzz
  obtain ⟨g2, cap2, hv2, _, _⟩ := hown2.form hm
  injection hv2 with hA hmm hcc
  subst hA
  refine step_append_lies w hgd s x t ho base e i0 z 1 24 ht hi hz0 hz1 hz2 hzs (by decide) v n _ hs hown ⟨g2, 0, none⟩ m c ((List.range m).map ms2) hx (by simp) (fun j u hu => ?_) (fun u hu => ?_) hm (by simp only [maxLen]; omega) (by omega) hbase w.heap.size rfl (fun g cap w' k1 k2 k3 k4 => ?_)
  · exact hown2.cells (g := g2) rfl j u hu
  · simp only [List.mem_map, List.mem_range] at hu
    obtain ⟨i, hi, rfl⟩ := hu
    exact h1 i hi
  · exact h g cap w' k1 ((Below.refl base w).grown k2 hbase fun k hk => (own_block hown k hk).1) k2 (k3.imp id (fun e => by omega))
theorem isInts_one {W : World} {v : Value} {x : List Int} (h : IsInts W v x) : v.oneCell' = true := by
  obtain ⟨A, c, rfl⟩ := h.val
  rfl
theorem walksFrom_len : ∀ (n f : Nat) (walk : List Int), n ≤ 4 → (walksFrom n f walk).length ≤ 5 ^ f
  | n, 0, walk, _ => by simp [walksFrom]
  | n, f + 1, walk, hn => by
    rw [walksFrom_succ]
    have h : ∀ k, (walksK n f walk k).length ≤ 1 + k * 5 ^ f := by
      intro k
      induction k with
      | zero => simp [walksK]
      | succ k ih =>
        rw [walksK_succ, List.length_append, Nat.succ_mul]
        have : (if endsAt walk k = true then [] else walksFrom n f (walk ++ [(k : Int)])).length ≤ 5 ^ f := by
          split
          · simp
          · exact walksFrom_len n f _ hn
        omega
    have h1 := h n
    have h2 : n * 5 ^ f ≤ 4 * 5 ^ f := Nat.mul_le_mul_right _ hn
    have h3 : 0 < 5 ^ f := Nat.pow_pos (by decide)
    rw [Nat.pow_succ]
    omega
theorem walksK_len (n f : Nat) (walk : List Int) (hn : n ≤ 4) (k : Nat) (hk : k ≤ n) : (walksK n f walk k).length ≤ 5 ^ (f + 1) := by
  have h := walksFrom_len n (f + 1) walk hn
  rw [walksFrom_succ] at h
  exact Nat.le_trans (walksK_prefix n f walk hk).length_le h
theorem walksFrom_pos (n f : Nat) (walk : List Int) : 0 < (walksFrom n f walk).length := by
  cases f with
  | zero => simp [walksFrom]
  | succ f => simp [walksFrom]
theorem LRow.low {w : World} {base base' : Nat} {E : Nat → Prop} {v : Value} {xss : List (List Int)} {ms : Nat → Value} (h : LRow w base E v xss ms) (hb : base' ≤ base) : LRow w base' E v xss ms := ⟨by
  refine ⟨h.own.1, h.own.2.imp id ?_⟩
  rintro ⟨g', cap', cur, he, hg', r⟩
  exact ⟨g', cap', cur, he, Nat.le_trans hb hg', r⟩, h.ints, h.blk⟩
theorem own_empty3 (W : World) (base : Nat) (e : TypeId) (hb : base ≤ W.heap.size) : (W.alloc (.cells #[] e)).ownsRow base e 1 (.slice (some ⟨W.heap.size, 0, none⟩) 0 0) 0 (([] : List Int).map (Value.int .i64)) :=
  ⟨by simp, .inr ⟨W.heap.size, 0, #[], rfl, hb, heap_alloc_new _ _, Nat.le_refl _, by decide, by simp, by simp⟩⟩
section
variable (n : Nat) (pv hv sv : Value) (wrong start calls : Int) (A : Option Addr) (c : Nat) (most : Nat)
def WalksPost (f : Nat) (walk : List Int) (bv : Value) (w : World) (e : Ending) (w' : World) : Prop :=
  ∃ v ms, e = .returned v ∧ LRow w' w.heap.size (fun b => bv.ownBlock = some b ∨ w.heap.size ≤ b) v (walksFrom n f walk) ms ∧ Ext w w'
set_option maxHeartbeats 6400000 in
set_option maxRecDepth 100000 in
theorem walksR_c (hn : n ≤ 4) (hm7 : most ≤ 7) : ∀ (f : Nat) (walk : List Int) (bv : Value) (w : World), IsInts w bv walk → (∀ b, bv.ownBlock = some b → b < w.heap.size) → walk.length + f = most →
    Calls Tryz.prog 55 #[.agg #[.slice A n c, pv, .int .i64 wrong, hv, sv, .int .i64 start, .int .i64 calls], bv, .int .i64 most] w (WalksPost n f walk bv w) := by
  intro f
  induction f with
  | zero =>
    intro walk bv w hI hblk hlen
    obtain ⟨V, vc, rfl⟩ := hI.val
    have KI := hid hI
    have KB := hid hblk
    obtain ⟨len, hl⟩ : ∃ x, walk.length = x := ⟨_, rfl⟩
    rw [hl] at KI KB hlen ⊢
    obtain rfl : most = len := by omega
    have heq : ((most : Int) == (most : Int)) = true := by simp
    clear hI hblk hl hlen
    go_enter Tryz.func55, Tryz.ntmps55
    go_wp2
    go_ret
    have e1 : Ext w (w.alloc (.cells #[.slice A n c, pv, .int .i64 wrong, hv, sv, .int .i64 start, .int .i64 calls] 28)) := ext_alloc (ext_refl _) _
    have h1 := LRow.one (w.alloc (.cells #[.slice A n c, pv, .int .i64 wrong, hv, sv, .int .i64 start, .int .i64 calls] 28)) w.heap.size (fun b => (Value.slice V most vc).ownBlock = some b ∨ w.heap.size ≤ b) (.slice V most vc) walk e1.size (KI.out.ext e1) (fun b hb => ⟨.inl hb, Nat.lt_of_lt_of_le (KB.out b hb) e1.size⟩)
    exact ⟨_, _, rfl, by simpa [walksFrom] using h1, by go_grown⟩
  | succ f ih =>
    intro walk bv w hI hblk hlen
    obtain ⟨V, vc, rfl⟩ := hI.val
    have KI := hid hI
    have KB := hid hblk
    have IH := hid ih
    obtain ⟨len, hl⟩ : ∃ x, walk.length = x := ⟨_, rfl⟩
    have HLEN := hid hl
    rw [hl] at KI KB hlen ⊢
    have hne : ((len : Int) == (most : Int)) = false := by rw [beq_eq_false_iff_ne]; omega
    obtain ⟨WK, hWK⟩ : ∃ g, walksK n f walk = g := ⟨_, rfl⟩
    have HWK0 : Hid (WK 0 = [walk]) := hid (by rw [← hWK]; simp [walksK])
    have HWKS : Hid (∀ k, WK (k + 1) = WK k ++ if endsAt walk k then [] else walksFrom n f (walk ++ [(k : Int)])) := hid (by rw [← hWK]; exact walksK_succ n f walk)
    have HWKL : Hid (∀ k, k ≤ n → (WK k).length ≤ 100000) := hid (fun k hk => by
      rw [← hWK]
      have h1 := walksK_len n f walk hn k hk
      have h2 : 5 ^ (f + 1) ≤ 5 ^ 7 := Nat.pow_le_pow_right (by decide) (by omega)
      omega)
    have HWKE : Hid (walksFrom n (f + 1) walk = WK n) := hid (by rw [walksFrom_succ, hWK])
    clear hI hblk hl ih hWK
    obtain ⟨E, hEd⟩ : ∃ E : Nat → Prop, E = fun b => (Value.slice V len vc).ownBlock = some b ∨ w.heap.size ≤ b := ⟨_, rfl⟩
    have HE := hid hEd
    clear hEd
    go_enter Tryz.func55, Tryz.ntmps55
    go_wp2
    go_loopw [7, 8] (fun all i wr => ∃ (k : Nat) (ms : Nat → Value), k ≤ n ∧ i = .int .i64 k ∧ LRow wr (w.heap.size + 1) E all (WK k) ms ∧ Ext w wr ∧ wr.heap[w.heap.size]? = some (.cells #[.slice A n c, pv, .int .i64 wrong, hv, sv, .int .i64 start, .int .i64 calls] 28 (0, 0))) (fun _ i _ => n - (intOf i).toNat)
    case atStart =>
      have e1 : Ext w (w.alloc (.cells #[.slice A n c, pv, .int .i64 wrong, hv, sv, .int .i64 start, .int .i64 calls] 28)) := ext_alloc (ext_refl _) _
      have h1 := LRow.one (w.alloc (.cells #[.slice A n c, pv, .int .i64 wrong, hv, sv, .int .i64 start, .int .i64 calls] 28)) (w.heap.size + 1) E (.slice V len vc) walk (by simp) (KI.out.ext e1) (fun b hb => ⟨by rw [HE.out]; exact .inl hb, Nat.lt_of_lt_of_le (KB.out b hb) e1.size⟩)
      exact ⟨0, _, Nat.zero_le _, rfl, by rw [HWK0.out]; simpa using h1, by go_grown, (by repeat (first | exact heap_alloc_at _ _ (by simp) | refine heap_alloc_keep ?_))⟩
    case round =>
      obtain ⟨k, ms, hk, rfl, hrow, hE, b1⟩ := hrel
      obtain ⟨O, oc, rfl⟩ := hrow.val
      obtain ⟨al, hal⟩ : ∃ x, (WK k).length = x := ⟨_, rfl⟩
      rw [hal] at hrow ⊢
      have HAL := hid hal
      have hal2 := HWKL.out k hk
      rw [hal] at hal2
      have HROW := hid hrow
      have B1 := hid b1
      have c1 := blk_cell b1
      have hlt0 : w.heap.size < wr.heap.size := (Array.getElem?_eq_some_iff.1 b1).1
      clear hrow b1 hal
      by_cases hlt : k < n
      · have hs := HWKS.out k
        obtain ⟨en, hen⟩ : ∃ x, endsAt walk k = x := ⟨_, rfl⟩
        have HEN := hid hen
        rw [hen] at hs
        have HS := hid hs
        clear hen hs
        by_cases hl0 : len = 0
        · have hene : en = false := by rw [← HEN.out, endsAt, HLEN.out, hl0]; rfl
          subst hene
          have hl1 : ((len : Int) == 0) = true := by rw [hl0]; rfl
          have HL0 := hid hl0
          clear hl0
          go_wp2
          clear c1
          have f1 : ∀ W, Below (w.heap.size + 1) wr W → ∀ j, W.cell? ⟨w.heap.size, j, none⟩ = (#[.slice A n c, pv, .int .i64 wrong, hv, sv, .int .i64 start, .int .i64 calls] : Array Value)[j]? := fun W h j => by
            rw [h.cell (p := ⟨w.heap.size, j, none⟩) (by simp)]; exact blk_cell B1.out j
          refine region_plainR (fun W => Below (w.heap.size + 1) wr W) 12 #[false, false, false, false, false, false, false, false, false, false, false, false] (by kernel_rfl) (by kernel_rfl) (by kernel_rfl) (fun R HR => ?_)
          obtain ⟨V0, hV0⟩ : ∃ V0, wr.drew = V0 := ⟨_, rfl⟩
          rw [hV0]
          have x0 : Ext wr V0 := by rw [← hV0]; exact (ext_refl wr).drew
          have y0 : Below (w.heap.size + 1) wr V0 := x0.mono (by omega)
          have s0 := x0.size
          clear hV0
          refine takeR (i := 0) (oi := ?_) (v := ?_) ?_ (by kernel_rfl) (by kernel_rfl) (by kernel_rfl) ?_ ?_ (by assumption) ?_
          rotate_left 2
          · simp only [List.getElem?_toArray, List.getElem?_cons_succ, List.getElem?_cons_zero]; rfl
          · kernel_rfl
          · intro Wx hSx
            try dsimp only at hSx
            go_simp
            try with_reducible rfl
          simp only [Act.put, List.setIfInBounds_toArray, List.set_cons_zero, List.set_cons_succ]
          refine takeR (i := 1) (oi := ?_) (v := ?_) ?_ (by kernel_rfl) (by kernel_rfl) (by kernel_rfl) ?_ ?_ (by assumption) ?_
          rotate_left 2
          · simp only [List.getElem?_toArray, List.getElem?_cons_succ, List.getElem?_cons_zero]; rfl
          · kernel_rfl
          · intro Wx hSx
            try dsimp only at hSx
            go_simp
            try with_reducible rfl
          simp only [Act.put, List.setIfInBounds_toArray, List.set_cons_zero, List.set_cons_succ]
          refine takeR (i := 3) (oi := ?_) (v := ?_) ?_ (by kernel_rfl) (by kernel_rfl) (by kernel_rfl) ?_ ?_ (by assumption) ?_
          rotate_left 2
          · simp only [List.getElem?_toArray, List.getElem?_cons_succ, List.getElem?_cons_zero]; rfl
          · kernel_rfl
          · intro Wx hSx
            try dsimp only at hSx
            go_simp
            try with_reducible rfl
          simp only [Act.put, List.setIfInBounds_toArray, List.set_cons_zero, List.set_cons_succ]
          refine takeR (i := 5) (oi := ?_) (v := ?_) ?_ (by kernel_rfl) (by kernel_rfl) (by kernel_rfl) ?_ ?_ (by assumption) ?_
          rotate_left 2
          · simp only [List.getElem?_toArray, List.getElem?_cons_succ, List.getElem?_cons_zero]; rfl
          · kernel_rfl
          · intro Wx hSx
            try dsimp only at hSx
            go_simp
            try with_reducible rfl
          simp only [Act.put, List.setIfInBounds_toArray, List.set_cons_zero, List.set_cons_succ]
          refine takeR (i := 8) (oi := ?_) (v := ?_) ?_ (by kernel_rfl) (by kernel_rfl) (by kernel_rfl) ?_ ?_ (by assumption) ?_
          rotate_left 2
          · simp only [List.getElem?_toArray, List.getElem?_cons_succ, List.getElem?_cons_zero]; rfl
          · kernel_rfl
          · intro Wx hSx
            try dsimp only at hSx
            go_simp
            try with_reducible rfl
          simp only [Act.put, List.setIfInBounds_toArray, List.set_cons_zero, List.set_cons_succ]
          clear f1
          refine wpAnyH_ready (rs := [2, 6]) (by kernel_rfl) (by simp) ?_
          refine AllReadyH.cons (o := ?_) ?_ (fun K hK => ?_) ?_
          rotate_left
          · simp only [List.getElem?_toArray, List.getElem?_cons_succ, List.getElem?_cons_zero]; rfl
          · go_simp
            refine hK.out _ _ (y0.alloc (by omega) _) (fun hHeld => ?_)
            clear hK K
            simp only [Act.put, List.setIfInBounds_toArray, List.set_cons_zero, List.set_cons_succ]
            obtain ⟨X1, hX1⟩ : ∃ X, V0.alloc (.cells #[] 3) = X := ⟨_, rfl⟩
            have z1 : Ext V0 X1 := by rw [← hX1]; exact ext_alloc (ext_refl _) _
            have o1 : X1.ownsRow wr.heap.size 3 1 (.slice (some ⟨V0.heap.size, 0, none⟩) 0 0) 0 (([] : List Int).map (Value.int .i64)) := by rw [← hX1]; exact own_empty3 V0 _ _ s0
            have hs1 : V0.heap.size < X1.heap.size := by rw [← hX1]; simp
            rw [hX1]
            clear hX1
            refine wpAnyH_ready (rs := [4, 6]) (by kernel_rfl) (by simp) ?_
            refine AllReadyH.cons (o := ?_) ?_ (fun K hK => ?_) ?_
            rotate_left
            · simp only [List.getElem?_toArray, List.getElem?_cons_succ, List.getElem?_cons_zero]; rfl
            · refine step_app_ints (by rfl) _ _ 29 3 (by rfl) Tryz.underlying29 info_int wr.heap.size _ 0 [] (by rfl) (by exact o1) _ walk len HLEN.out (by rfl) (by exact KI.out.ext (ext_trans hE (ext_trans x0 z1))) (by omega) (by omega) ?_
              intro PA pcap X2 hown2 hB2 hg2
              rw [Nat.zero_add] at hown2 ⊢
              rw [List.nil_append] at hown2
              have z2 : Ext wr X2 := (ext_trans x0 z1).trans hB2
              refine hK.out _ _ (z2.mono (by omega)) (fun hHeld => ?_)
              clear hK K
              simp only [Act.put, List.setIfInBounds_toArray, List.set_cons_zero, List.set_cons_succ]
              have HP2 := hid hown2
              clear hown2
              refine wpAnyH_ready (rs := [6]) (by kernel_rfl) (by simp) ?_
              refine AllReadyH.cons (o := ?_) ?_ (fun K hK => ?_) AllReadyH.nil
              rotate_left
              · simp only [List.getElem?_toArray, List.getElem?_cons_succ, List.getElem?_cons_zero]; rfl
              go_simp
              refine hK.out _ _ ((z2.mono (by omega)).alloc (by have := z2.size; omega) _) (fun hHeld => ?_)
              clear hK K
              simp only [Act.put, List.setIfInBounds_toArray, List.set_cons_zero, List.set_cons_succ]
              obtain ⟨X3, hX3⟩ : ∃ X, X2.alloc (.cells #[.int .i64 (k : Int)] 3) = X := ⟨_, rfl⟩
              have z3 : Ext wr X3 := by rw [← hX3]; exact ext_alloc z2 _
              have bk : X3.heap[X2.heap.size]? = some (.cells #[.int .i64 (k : Int)] 3 (0, 0)) := by rw [← hX3]; exact heap_alloc_new _ _
              have HP3 := hid (own_ext HP2.out (by rw [← hX3]; exact ext_alloc (ext_refl _) _ : Ext X2 X3))
              rw [hX3]
              clear hX3 HP2
              refine wpAnyH_ready (rs := [7]) (by kernel_rfl) (by simp) ?_
              refine AllReadyH.cons (o := ?_) ?_ (fun K hK => ?_) AllReadyH.nil
              rotate_left
              · simp only [List.getElem?_toArray, List.getElem?_cons_succ, List.getElem?_cons_zero]; rfl
              refine step_app_one (W0 := X3) (by rfl) _ _ 29 3 (by rfl) Tryz.underlying29 (.int .i64 0) 8 #[.int .i64 (k : Int)] info_int rfl (by simp) (by simp) (by decide) (by simp [Value.oneCell']) wr.heap.size (.slice PA len pcap) len _ (by rfl) (by exact HP3.out) (by exact ext_refl _) _ (by rfl) bk z3.size (by omega) ?_
              intro g4 cap4 X4 hown4 hB4 hg4 hor4
              have z4 : Ext wr X4 := z3.trans hB4
              have hb4 := own_block hown4 g4 rfl
              have HI4 : Hid (IsInts X4 (.slice (some ⟨g4, 0, none⟩) (len + 1) cap4) (walk ++ [(k : Int)])) := hid (own_ints (by simpa using hown4) (by rw [List.length_append, HLEN.out]; simp; omega))
              clear hown4
              refine hK.out _ _ (z4.mono (by omega)) (fun hHeld => ?_)
              clear hK K
              simp only [Act.put, List.setIfInBounds_toArray, List.set_cons_zero, List.set_cons_succ]
              clear bk
              refine wpAnyH_ready (rs := [9]) (by kernel_rfl) (by simp) ?_
              refine AllReadyH.cons (o := ?_) ?_ (fun K hK => ?_) AllReadyH.nil
              rotate_left
              · simp only [List.getElem?_toArray, List.getElem?_cons_succ, List.getElem?_cons_zero]; rfl
              go_simp
              refine (IH.out (walk ++ [(k : Int)]) (.slice (some ⟨g4, 0, none⟩) (len + 1) cap4) X4 HI4.out (fun b hb => ?_) (by rw [List.length_append, HLEN.out]; simp; omega)).mono ?_
              · obtain rfl : g4 = b := by simpa [Value.ownBlock] using hb
                omega
              unfold WalksPost
              rintro e X5 ⟨v5, ms5, rfl, hrow5, hE5⟩
              obtain ⟨A5, c5, rfl⟩ := hrow5.val
              obtain ⟨ml, hml⟩ : ∃ x, (walksFrom n f (walk ++ [(k : Int)])).length = x := ⟨_, rfl⟩
              have HML := hid hml
              have HROW5 := hid hrow5
              have hmp : 0 < ml := by rw [← HML.out]; exact walksFrom_pos _ _ _
              have hal3 : al + ml ≤ 100000 := by
                have h1 := HWKL.out (k + 1) (by omega)
                rw [HS.out, List.length_append, HAL.out] at h1
                simpa [HML.out] using h1
              rw [hml]
              clear hrow5 hml
              have z5 : Ext wr X5 := ext_trans z4 hE5
              have hs5 := z5.size
              refine hK.out _ _ (z5.mono (by omega)) (fun hHeld => ?_)
              clear hK K
              simp only [Act.put, List.setIfInBounds_toArray, List.set_cons_zero, List.set_cons_succ]
              refine wpAnyH_ready (rs := [10]) (by kernel_rfl) (by simp) ?_
              refine AllReadyH.cons (o := ?_) ?_ (fun K hK => ?_) AllReadyH.nil
              rotate_left
              · simp only [List.getElem?_toArray, List.getElem?_cons_succ, List.getElem?_cons_zero]; rfl
              refine step_app_rows (by rfl) _ _ 86 29 (by rfl) Tryz.underlying86 (.slice none 0 0) (by kernel_rfl) (by rfl) (w.heap.size + 1) (.slice O al oc) al ms (by rfl) (by have h := (HROW.out.ext z5).own; rw [HAL.out] at h; exact h) X4.heap.size A5 ml c5 ms5 (by rfl) (by have h := HROW5.out.own; rw [HML.out] at h; exact h) (fun i hi => isInts_one (HROW5.out.ints i (by rw [HML.out]; exact hi))) hmp (by omega) (by omega) ?_
              intro g6 cap6 X6 hown6 hB6 hg6 hor6
              have z6 : Below (w.heap.size + 1) wr X6 := (z5.mono (by omega)).trans hB6
              have HROW6 := hid ((HROW.out.ext z5).app HAL.out HML.out (fun i hi => HROW5.out.ints i (by rw [HML.out]; exact hi)) (fun i hi b hb => by
                have h := HROW5.out.blk i (by rw [HML.out]; exact hi) b hb
                have hs4 := z4.size
                have hge : w.heap.size + 1 ≤ b := by
                  rcases h.1 with h1 | h1
                  · obtain rfl : g4 = b := by simpa [Value.ownBlock] using h1
                    omega
                  · omega
                refine ⟨by rw [HE.out]; exact .inr (by omega), fun h2 => ?_, h.2.2⟩
                have h3 := (own_block HROW.out.own b h2).2
                have h4 := hb4
                rcases h.1 with h1 | h1
                · obtain rfl : g4 = b := by simpa [Value.ownBlock] using h1
                  omega
                · omega) g6 cap6 hown6 hg6 hor6)
              clear hown6
              refine hK.out _ _ z6 (fun hHeld => ?_)
              clear hK K
              simp only [Act.put, List.setIfInBounds_toArray, List.set_cons_zero, List.set_cons_succ]
              refine takeR (i := 11) (oi := ?_) (v := ?_) ?_ (by kernel_rfl) (by kernel_rfl) (by kernel_rfl) ?_ ?_ (by assumption) ?_
              rotate_left 2
              · simp only [List.getElem?_toArray, List.getElem?_cons_succ, List.getElem?_cons_zero]; rfl
              · kernel_rfl
              · intro Wx hSx
                try dsimp only at hSx
                go_simp
                try with_reducible rfl
              simp only [Act.put, List.setIfInBounds_toArray, List.set_cons_zero, List.set_cons_succ]
              refine done_R HR (by kernel_rfl) ?_
              go_wp2
              go_roundw
              case rel => exact ⟨k + 1, _, by omega, by go_num, by rw [HS.out]; exact HROW6.out, hE.trans (z6.mono (by omega)), (z6.block _ (by omega)).trans B1.out⟩
              case measure => simp [intOf]; omega
            refine AllReadyH.cons (o := ?_) ?_ (fun K hK => ?_) AllReadyH.nil
            rotate_left
            · simp only [List.getElem?_toArray, List.getElem?_cons_succ, List.getElem?_cons_zero]; rfl
            · go_simp
              refine hK.out _ _ ((y0.trans (z1.mono (by omega))).alloc (by omega) _) (fun hHeld => ?_)
              clear hK K
              simp only [Act.put, List.setIfInBounds_toArray, List.set_cons_zero, List.set_cons_succ]
              obtain ⟨X2, hX2⟩ : ∃ X, X1.alloc (.cells #[.int .i64 (k : Int)] 3) = X := ⟨_, rfl⟩
              have z2 : Ext X1 X2 := by rw [← hX2]; exact ext_alloc (ext_refl _) _
              have bk2 : X2.heap[X1.heap.size]? = some (.cells #[.int .i64 (k : Int)] 3 (0, 0)) := by rw [← hX2]; exact heap_alloc_new _ _
              rw [hX2]
              clear hX2
              have o2 := own_ext o1 z2
              have hs2 := z2.size
              refine wpAnyH_ready (rs := [4]) (by kernel_rfl) (by simp) ?_
              refine AllReadyH.cons (o := ?_) ?_ (fun K hK => ?_) AllReadyH.nil
              rotate_left
              · simp only [List.getElem?_toArray, List.getElem?_cons_succ, List.getElem?_cons_zero]; rfl
              refine step_app_ints (by rfl) _ _ 29 3 (by rfl) Tryz.underlying29 info_int wr.heap.size (.slice (some ⟨V0.heap.size, 0, none⟩) 0 0) 0 [] (by rfl) (by first | exact o2 | exact o1) _ walk len HLEN.out (by rfl) (by exact KI.out.ext (ext_trans hE (ext_trans x0 (ext_trans z1 z2)))) (by omega) (by omega) ?_
              intro PA pcap X3 hown3 hB3 hg3
              rw [Nat.zero_add] at hown3 ⊢
              rw [List.nil_append] at hown3
              have z3 : Ext wr X3 := (ext_trans x0 (ext_trans z1 z2)).trans hB3
              have bk : X3.heap[X1.heap.size]? = some (.cells #[.int .i64 (k : Int)] 3 (0, 0)) := by
                rw [hg3.block _ (Array.getElem?_eq_some_iff.1 bk2).1 (fun h => by
                  have h2 : X1.heap.size = V0.heap.size := by simpa [Value.ownBlock] using h
                  omega)]
                exact bk2
              refine hK.out _ _ (z3.mono (by omega)) (fun hHeld => ?_)
              clear hK K
              simp only [Act.put, List.setIfInBounds_toArray, List.set_cons_zero, List.set_cons_succ]
              have HP3 := hid hown3
              clear hown3
              refine wpAnyH_ready (rs := [7]) (by kernel_rfl) (by simp) ?_
              refine AllReadyH.cons (o := ?_) ?_ (fun K hK => ?_) AllReadyH.nil
              rotate_left
              · simp only [List.getElem?_toArray, List.getElem?_cons_succ, List.getElem?_cons_zero]; rfl
              refine step_app_one (W0 := X3) (by rfl) _ _ 29 3 (by rfl) Tryz.underlying29 (.int .i64 0) 8 #[.int .i64 (k : Int)] info_int rfl (by simp) (by simp) (by decide) (by simp [Value.oneCell']) wr.heap.size (.slice PA len pcap) len _ (by rfl) (by exact HP3.out) (by exact ext_refl _) _ (by rfl) bk z3.size (by omega) ?_
              intro g4 cap4 X4 hown4 hB4 hg4 hor4
              have z4 : Ext wr X4 := z3.trans hB4
              have hb4 := own_block hown4 g4 rfl
              have HI4 : Hid (IsInts X4 (.slice (some ⟨g4, 0, none⟩) (len + 1) cap4) (walk ++ [(k : Int)])) := hid (own_ints (by simpa using hown4) (by rw [List.length_append, HLEN.out]; simp; omega))
              clear hown4
              refine hK.out _ _ (z4.mono (by omega)) (fun hHeld => ?_)
              clear hK K
              simp only [Act.put, List.setIfInBounds_toArray, List.set_cons_zero, List.set_cons_succ]
              clear bk
              refine wpAnyH_ready (rs := [9]) (by kernel_rfl) (by simp) ?_
              refine AllReadyH.cons (o := ?_) ?_ (fun K hK => ?_) AllReadyH.nil
              rotate_left
              · simp only [List.getElem?_toArray, List.getElem?_cons_succ, List.getElem?_cons_zero]; rfl
              go_simp
              refine (IH.out (walk ++ [(k : Int)]) (.slice (some ⟨g4, 0, none⟩) (len + 1) cap4) X4 HI4.out (fun b hb => ?_) (by rw [List.length_append, HLEN.out]; simp; omega)).mono ?_
              · obtain rfl : g4 = b := by simpa [Value.ownBlock] using hb
                omega
              unfold WalksPost
              rintro e X5 ⟨v5, ms5, rfl, hrow5, hE5⟩
              obtain ⟨A5, c5, rfl⟩ := hrow5.val
              obtain ⟨ml, hml⟩ : ∃ x, (walksFrom n f (walk ++ [(k : Int)])).length = x := ⟨_, rfl⟩
              have HML := hid hml
              have HROW5 := hid hrow5
              have hmp : 0 < ml := by rw [← HML.out]; exact walksFrom_pos _ _ _
              have hal3 : al + ml ≤ 100000 := by
                have h1 := HWKL.out (k + 1) (by omega)
                rw [HS.out, List.length_append, HAL.out] at h1
                simpa [HML.out] using h1
              rw [hml]
              clear hrow5 hml
              have z5 : Ext wr X5 := ext_trans z4 hE5
              have hs5 := z5.size
              refine hK.out _ _ (z5.mono (by omega)) (fun hHeld => ?_)
              clear hK K
              simp only [Act.put, List.setIfInBounds_toArray, List.set_cons_zero, List.set_cons_succ]
              refine wpAnyH_ready (rs := [10]) (by kernel_rfl) (by simp) ?_
              refine AllReadyH.cons (o := ?_) ?_ (fun K hK => ?_) AllReadyH.nil
              rotate_left
              · simp only [List.getElem?_toArray, List.getElem?_cons_succ, List.getElem?_cons_zero]; rfl
              refine step_app_rows (by rfl) _ _ 86 29 (by rfl) Tryz.underlying86 (.slice none 0 0) (by kernel_rfl) (by rfl) (w.heap.size + 1) (.slice O al oc) al ms (by rfl) (by have h := (HROW.out.ext z5).own; rw [HAL.out] at h; exact h) X4.heap.size A5 ml c5 ms5 (by rfl) (by have h := HROW5.out.own; rw [HML.out] at h; exact h) (fun i hi => isInts_one (HROW5.out.ints i (by rw [HML.out]; exact hi))) hmp (by omega) (by omega) ?_
              intro g6 cap6 X6 hown6 hB6 hg6 hor6
              have z6 : Below (w.heap.size + 1) wr X6 := (z5.mono (by omega)).trans hB6
              have HROW6 := hid ((HROW.out.ext z5).app HAL.out HML.out (fun i hi => HROW5.out.ints i (by rw [HML.out]; exact hi)) (fun i hi b hb => by
                have h := HROW5.out.blk i (by rw [HML.out]; exact hi) b hb
                have hs4 := z4.size
                have hge : w.heap.size + 1 ≤ b := by
                  rcases h.1 with h1 | h1
                  · obtain rfl : g4 = b := by simpa [Value.ownBlock] using h1
                    omega
                  · omega
                refine ⟨by rw [HE.out]; exact .inr (by omega), fun h2 => ?_, h.2.2⟩
                have h3 := (own_block HROW.out.own b h2).2
                have h4 := hb4
                rcases h.1 with h1 | h1
                · obtain rfl : g4 = b := by simpa [Value.ownBlock] using h1
                  omega
                · omega) g6 cap6 hown6 hg6 hor6)
              clear hown6
              refine hK.out _ _ z6 (fun hHeld => ?_)
              clear hK K
              simp only [Act.put, List.setIfInBounds_toArray, List.set_cons_zero, List.set_cons_succ]
              refine takeR (i := 11) (oi := ?_) (v := ?_) ?_ (by kernel_rfl) (by kernel_rfl) (by kernel_rfl) ?_ ?_ (by assumption) ?_
              rotate_left 2
              · simp only [List.getElem?_toArray, List.getElem?_cons_succ, List.getElem?_cons_zero]; rfl
              · kernel_rfl
              · intro Wx hSx
                try dsimp only at hSx
                go_simp
                try with_reducible rfl
              simp only [Act.put, List.setIfInBounds_toArray, List.set_cons_zero, List.set_cons_succ]
              refine done_R HR (by kernel_rfl) ?_
              go_wp2
              go_roundw
              case rel => exact ⟨k + 1, _, by omega, by go_num, by rw [HS.out]; exact HROW6.out, hE.trans (z6.mono (by omega)), (z6.block _ (by omega)).trans B1.out⟩
              case measure => simp [intOf]; omega
          refine AllReadyH.cons (o := ?_) ?_ (fun K hK => ?_) AllReadyH.nil
          rotate_left
          · simp only [List.getElem?_toArray, List.getElem?_cons_succ, List.getElem?_cons_zero]; rfl
          · go_simp
            refine hK.out _ _ (y0.alloc (by omega) _) (fun hHeld => ?_)
            clear hK K
            simp only [Act.put, List.setIfInBounds_toArray, List.set_cons_zero, List.set_cons_succ]
            obtain ⟨X1, hX1⟩ : ∃ X, V0.alloc (.cells #[.int .i64 (k : Int)] 3) = X := ⟨_, rfl⟩
            have z1 : Ext V0 X1 := by rw [← hX1]; exact ext_alloc (ext_refl _) _
            have bk1 : X1.heap[V0.heap.size]? = some (.cells #[.int .i64 (k : Int)] 3 (0, 0)) := by rw [← hX1]; exact heap_alloc_new _ _
            have hs1 : V0.heap.size < X1.heap.size := by rw [← hX1]; simp
            rw [hX1]
            clear hX1
            refine wpAnyH_ready (rs := [2]) (by kernel_rfl) (by simp) ?_
            refine AllReadyH.cons (o := ?_) ?_ (fun K hK => ?_) AllReadyH.nil
            rotate_left
            · simp only [List.getElem?_toArray, List.getElem?_cons_succ, List.getElem?_cons_zero]; rfl
            go_simp
            refine hK.out _ _ ((y0.trans (z1.mono (by omega))).alloc (by omega) _) (fun hHeld => ?_)
            clear hK K
            simp only [Act.put, List.setIfInBounds_toArray, List.set_cons_zero, List.set_cons_succ]
            obtain ⟨X2, hX2⟩ : ∃ X, X1.alloc (.cells #[] 3) = X := ⟨_, rfl⟩
            have z2 : Ext X1 X2 := by rw [← hX2]; exact ext_alloc (ext_refl _) _
            have o1 : X2.ownsRow wr.heap.size 3 1 (.slice (some ⟨X1.heap.size, 0, none⟩) 0 0) 0 (([] : List Int).map (Value.int .i64)) := by rw [← hX2]; exact own_empty3 X1 _ _ (by omega)
            have bk2 := ext_blk_keep z2 bk1
            rw [hX2]
            clear hX2
            have hs2 := z2.size
            refine wpAnyH_ready (rs := [4]) (by kernel_rfl) (by simp) ?_
            refine AllReadyH.cons (o := ?_) ?_ (fun K hK => ?_) AllReadyH.nil
            rotate_left
            · simp only [List.getElem?_toArray, List.getElem?_cons_succ, List.getElem?_cons_zero]; rfl
            refine step_app_ints (by rfl) _ _ 29 3 (by rfl) Tryz.underlying29 info_int wr.heap.size (.slice (some ⟨X1.heap.size, 0, none⟩) 0 0) 0 [] (by rfl) (by first | exact o2 | exact o1) _ walk len HLEN.out (by rfl) (by exact KI.out.ext (ext_trans hE (ext_trans x0 (ext_trans z1 z2)))) (by omega) (by omega) ?_
            intro PA pcap X3 hown3 hB3 hg3
            rw [Nat.zero_add] at hown3 ⊢
            rw [List.nil_append] at hown3
            have z3 : Ext wr X3 := (ext_trans x0 (ext_trans z1 z2)).trans hB3
            have bk : X3.heap[V0.heap.size]? = some (.cells #[.int .i64 (k : Int)] 3 (0, 0)) := by
              rw [hg3.block _ (Array.getElem?_eq_some_iff.1 bk2).1 (fun h => by
                have h2 : V0.heap.size = X1.heap.size := by simpa [Value.ownBlock] using h
                omega)]
              exact bk2
            refine hK.out _ _ (z3.mono (by omega)) (fun hHeld => ?_)
            clear hK K
            simp only [Act.put, List.setIfInBounds_toArray, List.set_cons_zero, List.set_cons_succ]
            have HP3 := hid hown3
            clear hown3
            refine wpAnyH_ready (rs := [7]) (by kernel_rfl) (by simp) ?_
            refine AllReadyH.cons (o := ?_) ?_ (fun K hK => ?_) AllReadyH.nil
            rotate_left
            · simp only [List.getElem?_toArray, List.getElem?_cons_succ, List.getElem?_cons_zero]; rfl
            refine step_app_one (W0 := X3) (by rfl) _ _ 29 3 (by rfl) Tryz.underlying29 (.int .i64 0) 8 #[.int .i64 (k : Int)] info_int rfl (by simp) (by simp) (by decide) (by simp [Value.oneCell']) wr.heap.size (.slice PA len pcap) len _ (by rfl) (by exact HP3.out) (by exact ext_refl _) _ (by rfl) bk z3.size (by omega) ?_
            intro g4 cap4 X4 hown4 hB4 hg4 hor4
            have z4 : Ext wr X4 := z3.trans hB4
            have hb4 := own_block hown4 g4 rfl
            have HI4 : Hid (IsInts X4 (.slice (some ⟨g4, 0, none⟩) (len + 1) cap4) (walk ++ [(k : Int)])) := hid (own_ints (by simpa using hown4) (by rw [List.length_append, HLEN.out]; simp; omega))
            clear hown4
            refine hK.out _ _ (z4.mono (by omega)) (fun hHeld => ?_)
            clear hK K
            simp only [Act.put, List.setIfInBounds_toArray, List.set_cons_zero, List.set_cons_succ]
            clear bk
            refine wpAnyH_ready (rs := [9]) (by kernel_rfl) (by simp) ?_
            refine AllReadyH.cons (o := ?_) ?_ (fun K hK => ?_) AllReadyH.nil
            rotate_left
            · simp only [List.getElem?_toArray, List.getElem?_cons_succ, List.getElem?_cons_zero]; rfl
            go_simp
            refine (IH.out (walk ++ [(k : Int)]) (.slice (some ⟨g4, 0, none⟩) (len + 1) cap4) X4 HI4.out (fun b hb => ?_) (by rw [List.length_append, HLEN.out]; simp; omega)).mono ?_
            · obtain rfl : g4 = b := by simpa [Value.ownBlock] using hb
              omega
            unfold WalksPost
            rintro e X5 ⟨v5, ms5, rfl, hrow5, hE5⟩
            obtain ⟨A5, c5, rfl⟩ := hrow5.val
            obtain ⟨ml, hml⟩ : ∃ x, (walksFrom n f (walk ++ [(k : Int)])).length = x := ⟨_, rfl⟩
            have HML := hid hml
            have HROW5 := hid hrow5
            have hmp : 0 < ml := by rw [← HML.out]; exact walksFrom_pos _ _ _
            have hal3 : al + ml ≤ 100000 := by
              have h1 := HWKL.out (k + 1) (by omega)
              rw [HS.out, List.length_append, HAL.out] at h1
              simpa [HML.out] using h1
            rw [hml]
            clear hrow5 hml
            have z5 : Ext wr X5 := ext_trans z4 hE5
            have hs5 := z5.size
            refine hK.out _ _ (z5.mono (by omega)) (fun hHeld => ?_)
            clear hK K
            simp only [Act.put, List.setIfInBounds_toArray, List.set_cons_zero, List.set_cons_succ]
            refine wpAnyH_ready (rs := [10]) (by kernel_rfl) (by simp) ?_
            refine AllReadyH.cons (o := ?_) ?_ (fun K hK => ?_) AllReadyH.nil
            rotate_left
            · simp only [List.getElem?_toArray, List.getElem?_cons_succ, List.getElem?_cons_zero]; rfl
            refine step_app_rows (by rfl) _ _ 86 29 (by rfl) Tryz.underlying86 (.slice none 0 0) (by kernel_rfl) (by rfl) (w.heap.size + 1) (.slice O al oc) al ms (by rfl) (by have h := (HROW.out.ext z5).own; rw [HAL.out] at h; exact h) X4.heap.size A5 ml c5 ms5 (by rfl) (by have h := HROW5.out.own; rw [HML.out] at h; exact h) (fun i hi => isInts_one (HROW5.out.ints i (by rw [HML.out]; exact hi))) hmp (by omega) (by omega) ?_
            intro g6 cap6 X6 hown6 hB6 hg6 hor6
            have z6 : Below (w.heap.size + 1) wr X6 := (z5.mono (by omega)).trans hB6
            have HROW6 := hid ((HROW.out.ext z5).app HAL.out HML.out (fun i hi => HROW5.out.ints i (by rw [HML.out]; exact hi)) (fun i hi b hb => by
              have h := HROW5.out.blk i (by rw [HML.out]; exact hi) b hb
              have hs4 := z4.size
              have hge : w.heap.size + 1 ≤ b := by
                rcases h.1 with h1 | h1
                · obtain rfl : g4 = b := by simpa [Value.ownBlock] using h1
                  omega
                · omega
              refine ⟨by rw [HE.out]; exact .inr (by omega), fun h2 => ?_, h.2.2⟩
              have h3 := (own_block HROW.out.own b h2).2
              have h4 := hb4
              rcases h.1 with h1 | h1
              · obtain rfl : g4 = b := by simpa [Value.ownBlock] using h1
                omega
              · omega) g6 cap6 hown6 hg6 hor6)
            clear hown6
            refine hK.out _ _ z6 (fun hHeld => ?_)
            clear hK K
            simp only [Act.put, List.setIfInBounds_toArray, List.set_cons_zero, List.set_cons_succ]
            refine takeR (i := 11) (oi := ?_) (v := ?_) ?_ (by kernel_rfl) (by kernel_rfl) (by kernel_rfl) ?_ ?_ (by assumption) ?_
            rotate_left 2
            · simp only [List.getElem?_toArray, List.getElem?_cons_succ, List.getElem?_cons_zero]; rfl
            · kernel_rfl
            · intro Wx hSx
              try dsimp only at hSx
              go_simp
              try with_reducible rfl
            simp only [Act.put, List.setIfInBounds_toArray, List.set_cons_zero, List.set_cons_succ]
            refine done_R HR (by kernel_rfl) ?_
            go_wp2
            go_roundw
            case rel => exact ⟨k + 1, _, by omega, by go_num, by rw [HS.out]; exact HROW6.out, hE.trans (z6.mono (by omega)), (z6.block _ (by omega)).trans B1.out⟩
            case measure => simp [intOf]; omega
        · have hl1 : ((len : Int) == 0) = false := by rw [beq_eq_false_iff_ne]; omega
          obtain ⟨b, o, hV, hcell⟩ := (KI.out.ext hE).at (by omega)
          subst hV
          have g1 := hcell (len - 1) (by omega)
          obtain ⟨u, hu⟩ : ∃ u, at0 walk (len - 1) = u := ⟨_, rfl⟩
          rw [hu] at g1
          have hkk : IntKind.i64.wrap ((len : Int) - 1) = (len : Int) - 1 := IntWalk.i64_in _ (by omega)
          have hk1 : (0 : Int) ≤ (len : Int) - 1 := by omega
          have hk2 : (1 : Int) ≤ (len : Int) := by omega
          have hk3 : (len : Int) - 1 < (len : Int) := by omega
          have hkn : ((len : Int) - 1).toNat = len - 1 := by omega
          have hene : en = decide (u = (k : Int)) := by rw [← HEN.out, endsAt, HLEN.out, hu, decide_eq_true (by omega)]; rfl
          clear hcell hu
          by_cases huk : u = (k : Int)
          · rw [decide_eq_true huk] at hene
            subst hene
            subst huk
            have hx : ((k : Int) != (k : Int)) = false := by simp
            go_wp2
            go_roundw
            case rel => exact ⟨k + 1, ms, hlt, by go_num, by rw [HS.out]; simpa using HROW.out, hE, B1.out⟩
            case measure => simp [intOf]; omega
          · rw [decide_eq_false huk] at hene
            subst hene
            have hx : (u != (k : Int)) = true := by rw [bne_iff_ne]; exact huk
            go_wp2
            clear c1 g1 hkk hkn hk1 hk2 hk3
            have f1 : ∀ W, Below (w.heap.size + 1) wr W → ∀ j, W.cell? ⟨w.heap.size, j, none⟩ = (#[.slice A n c, pv, .int .i64 wrong, hv, sv, .int .i64 start, .int .i64 calls] : Array Value)[j]? := fun W h j => by
              rw [h.cell (p := ⟨w.heap.size, j, none⟩) (by simp)]; exact blk_cell B1.out j
            refine region_plainR (fun W => Below (w.heap.size + 1) wr W) 12 #[false, false, false, false, false, false, false, false, false, false, false, false] (by kernel_rfl) (by kernel_rfl) (by kernel_rfl) (fun R HR => ?_)
            obtain ⟨V0, hV0⟩ : ∃ V0, wr.drew = V0 := ⟨_, rfl⟩
            rw [hV0]
            have x0 : Ext wr V0 := by rw [← hV0]; exact (ext_refl wr).drew
            have y0 : Below (w.heap.size + 1) wr V0 := x0.mono (by omega)
            have s0 := x0.size
            clear hV0
            refine takeR (i := 0) (oi := ?_) (v := ?_) ?_ (by kernel_rfl) (by kernel_rfl) (by kernel_rfl) ?_ ?_ (by assumption) ?_
            rotate_left 2
            · simp only [List.getElem?_toArray, List.getElem?_cons_succ, List.getElem?_cons_zero]; rfl
            · kernel_rfl
            · intro Wx hSx
              try dsimp only at hSx
              go_simp
              try with_reducible rfl
            simp only [Act.put, List.setIfInBounds_toArray, List.set_cons_zero, List.set_cons_succ]
            refine takeR (i := 1) (oi := ?_) (v := ?_) ?_ (by kernel_rfl) (by kernel_rfl) (by kernel_rfl) ?_ ?_ (by assumption) ?_
            rotate_left 2
            · simp only [List.getElem?_toArray, List.getElem?_cons_succ, List.getElem?_cons_zero]; rfl
            · kernel_rfl
            · intro Wx hSx
              try dsimp only at hSx
              go_simp
              try with_reducible rfl
            simp only [Act.put, List.setIfInBounds_toArray, List.set_cons_zero, List.set_cons_succ]
            refine takeR (i := 3) (oi := ?_) (v := ?_) ?_ (by kernel_rfl) (by kernel_rfl) (by kernel_rfl) ?_ ?_ (by assumption) ?_
            rotate_left 2
            · simp only [List.getElem?_toArray, List.getElem?_cons_succ, List.getElem?_cons_zero]; rfl
            · kernel_rfl
            · intro Wx hSx
              try dsimp only at hSx
              go_simp
              try with_reducible rfl
            simp only [Act.put, List.setIfInBounds_toArray, List.set_cons_zero, List.set_cons_succ]
            refine takeR (i := 5) (oi := ?_) (v := ?_) ?_ (by kernel_rfl) (by kernel_rfl) (by kernel_rfl) ?_ ?_ (by assumption) ?_
            rotate_left 2
            · simp only [List.getElem?_toArray, List.getElem?_cons_succ, List.getElem?_cons_zero]; rfl
            · kernel_rfl
            · intro Wx hSx
              try dsimp only at hSx
              go_simp
              try with_reducible rfl
            simp only [Act.put, List.setIfInBounds_toArray, List.set_cons_zero, List.set_cons_succ]
            refine takeR (i := 8) (oi := ?_) (v := ?_) ?_ (by kernel_rfl) (by kernel_rfl) (by kernel_rfl) ?_ ?_ (by assumption) ?_
            rotate_left 2
            · simp only [List.getElem?_toArray, List.getElem?_cons_succ, List.getElem?_cons_zero]; rfl
            · kernel_rfl
            · intro Wx hSx
              try dsimp only at hSx
              go_simp
              try with_reducible rfl
            simp only [Act.put, List.setIfInBounds_toArray, List.set_cons_zero, List.set_cons_succ]
            clear f1
            refine wpAnyH_ready (rs := [2, 6]) (by kernel_rfl) (by simp) ?_
            refine AllReadyH.cons (o := ?_) ?_ (fun K hK => ?_) ?_
            rotate_left
            · simp only [List.getElem?_toArray, List.getElem?_cons_succ, List.getElem?_cons_zero]; rfl
            · go_simp
              refine hK.out _ _ (y0.alloc (by omega) _) (fun hHeld => ?_)
              clear hK K
              simp only [Act.put, List.setIfInBounds_toArray, List.set_cons_zero, List.set_cons_succ]
              obtain ⟨X1, hX1⟩ : ∃ X, V0.alloc (.cells #[] 3) = X := ⟨_, rfl⟩
              have z1 : Ext V0 X1 := by rw [← hX1]; exact ext_alloc (ext_refl _) _
              have o1 : X1.ownsRow wr.heap.size 3 1 (.slice (some ⟨V0.heap.size, 0, none⟩) 0 0) 0 (([] : List Int).map (Value.int .i64)) := by rw [← hX1]; exact own_empty3 V0 _ _ s0
              have hs1 : V0.heap.size < X1.heap.size := by rw [← hX1]; simp
              rw [hX1]
              clear hX1
              refine wpAnyH_ready (rs := [4, 6]) (by kernel_rfl) (by simp) ?_
              refine AllReadyH.cons (o := ?_) ?_ (fun K hK => ?_) ?_
              rotate_left
              · simp only [List.getElem?_toArray, List.getElem?_cons_succ, List.getElem?_cons_zero]; rfl
              · refine step_app_ints (by rfl) _ _ 29 3 (by rfl) Tryz.underlying29 info_int wr.heap.size _ 0 [] (by rfl) (by exact o1) _ walk len HLEN.out (by rfl) (by exact KI.out.ext (ext_trans hE (ext_trans x0 z1))) (by omega) (by omega) ?_
                intro PA pcap X2 hown2 hB2 hg2
                rw [Nat.zero_add] at hown2 ⊢
                rw [List.nil_append] at hown2
                have z2 : Ext wr X2 := (ext_trans x0 z1).trans hB2
                refine hK.out _ _ (z2.mono (by omega)) (fun hHeld => ?_)
                clear hK K
                simp only [Act.put, List.setIfInBounds_toArray, List.set_cons_zero, List.set_cons_succ]
                have HP2 := hid hown2
                clear hown2
                refine wpAnyH_ready (rs := [6]) (by kernel_rfl) (by simp) ?_
                refine AllReadyH.cons (o := ?_) ?_ (fun K hK => ?_) AllReadyH.nil
                rotate_left
                · simp only [List.getElem?_toArray, List.getElem?_cons_succ, List.getElem?_cons_zero]; rfl
                go_simp
                refine hK.out _ _ ((z2.mono (by omega)).alloc (by have := z2.size; omega) _) (fun hHeld => ?_)
                clear hK K
                simp only [Act.put, List.setIfInBounds_toArray, List.set_cons_zero, List.set_cons_succ]
                obtain ⟨X3, hX3⟩ : ∃ X, X2.alloc (.cells #[.int .i64 (k : Int)] 3) = X := ⟨_, rfl⟩
                have z3 : Ext wr X3 := by rw [← hX3]; exact ext_alloc z2 _
                have bk : X3.heap[X2.heap.size]? = some (.cells #[.int .i64 (k : Int)] 3 (0, 0)) := by rw [← hX3]; exact heap_alloc_new _ _
                have HP3 := hid (own_ext HP2.out (by rw [← hX3]; exact ext_alloc (ext_refl _) _ : Ext X2 X3))
                rw [hX3]
                clear hX3 HP2
                refine wpAnyH_ready (rs := [7]) (by kernel_rfl) (by simp) ?_
                refine AllReadyH.cons (o := ?_) ?_ (fun K hK => ?_) AllReadyH.nil
                rotate_left
                · simp only [List.getElem?_toArray, List.getElem?_cons_succ, List.getElem?_cons_zero]; rfl
                refine step_app_one (W0 := X3) (by rfl) _ _ 29 3 (by rfl) Tryz.underlying29 (.int .i64 0) 8 #[.int .i64 (k : Int)] info_int rfl (by simp) (by simp) (by decide) (by simp [Value.oneCell']) wr.heap.size (.slice PA len pcap) len _ (by rfl) (by exact HP3.out) (by exact ext_refl _) _ (by rfl) bk z3.size (by omega) ?_
                intro g4 cap4 X4 hown4 hB4 hg4 hor4
                have z4 : Ext wr X4 := z3.trans hB4
                have hb4 := own_block hown4 g4 rfl
                have HI4 : Hid (IsInts X4 (.slice (some ⟨g4, 0, none⟩) (len + 1) cap4) (walk ++ [(k : Int)])) := hid (own_ints (by simpa using hown4) (by rw [List.length_append, HLEN.out]; simp; omega))
                clear hown4
                refine hK.out _ _ (z4.mono (by omega)) (fun hHeld => ?_)
                clear hK K
                simp only [Act.put, List.setIfInBounds_toArray, List.set_cons_zero, List.set_cons_succ]
                clear bk
                refine wpAnyH_ready (rs := [9]) (by kernel_rfl) (by simp) ?_
                refine AllReadyH.cons (o := ?_) ?_ (fun K hK => ?_) AllReadyH.nil
                rotate_left
                · simp only [List.getElem?_toArray, List.getElem?_cons_succ, List.getElem?_cons_zero]; rfl
                go_simp
                refine (IH.out (walk ++ [(k : Int)]) (.slice (some ⟨g4, 0, none⟩) (len + 1) cap4) X4 HI4.out (fun b hb => ?_) (by rw [List.length_append, HLEN.out]; simp; omega)).mono ?_
                · obtain rfl : g4 = b := by simpa [Value.ownBlock] using hb
                  omega
                unfold WalksPost
                rintro e X5 ⟨v5, ms5, rfl, hrow5, hE5⟩
                obtain ⟨A5, c5, rfl⟩ := hrow5.val
                obtain ⟨ml, hml⟩ : ∃ x, (walksFrom n f (walk ++ [(k : Int)])).length = x := ⟨_, rfl⟩
                have HML := hid hml
                have HROW5 := hid hrow5
                have hmp : 0 < ml := by rw [← HML.out]; exact walksFrom_pos _ _ _
                have hal3 : al + ml ≤ 100000 := by
                  have h1 := HWKL.out (k + 1) (by omega)
                  rw [HS.out, List.length_append, HAL.out] at h1
                  simpa [HML.out] using h1
                rw [hml]
                clear hrow5 hml
                have z5 : Ext wr X5 := ext_trans z4 hE5
                have hs5 := z5.size
                refine hK.out _ _ (z5.mono (by omega)) (fun hHeld => ?_)
                clear hK K
                simp only [Act.put, List.setIfInBounds_toArray, List.set_cons_zero, List.set_cons_succ]
                refine wpAnyH_ready (rs := [10]) (by kernel_rfl) (by simp) ?_
                refine AllReadyH.cons (o := ?_) ?_ (fun K hK => ?_) AllReadyH.nil
                rotate_left
                · simp only [List.getElem?_toArray, List.getElem?_cons_succ, List.getElem?_cons_zero]; rfl
                refine step_app_rows (by rfl) _ _ 86 29 (by rfl) Tryz.underlying86 (.slice none 0 0) (by kernel_rfl) (by rfl) (w.heap.size + 1) (.slice O al oc) al ms (by rfl) (by have h := (HROW.out.ext z5).own; rw [HAL.out] at h; exact h) X4.heap.size A5 ml c5 ms5 (by rfl) (by have h := HROW5.out.own; rw [HML.out] at h; exact h) (fun i hi => isInts_one (HROW5.out.ints i (by rw [HML.out]; exact hi))) hmp (by omega) (by omega) ?_
                intro g6 cap6 X6 hown6 hB6 hg6 hor6
                have z6 : Below (w.heap.size + 1) wr X6 := (z5.mono (by omega)).trans hB6
                have HROW6 := hid ((HROW.out.ext z5).app HAL.out HML.out (fun i hi => HROW5.out.ints i (by rw [HML.out]; exact hi)) (fun i hi b hb => by
                  have h := HROW5.out.blk i (by rw [HML.out]; exact hi) b hb
                  have hs4 := z4.size
                  have hge : w.heap.size + 1 ≤ b := by
                    rcases h.1 with h1 | h1
                    · obtain rfl : g4 = b := by simpa [Value.ownBlock] using h1
                      omega
                    · omega
                  refine ⟨by rw [HE.out]; exact .inr (by omega), fun h2 => ?_, h.2.2⟩
                  have h3 := (own_block HROW.out.own b h2).2
                  have h4 := hb4
                  rcases h.1 with h1 | h1
                  · obtain rfl : g4 = b := by simpa [Value.ownBlock] using h1
                    omega
                  · omega) g6 cap6 hown6 hg6 hor6)
                clear hown6
                refine hK.out _ _ z6 (fun hHeld => ?_)
                clear hK K
                simp only [Act.put, List.setIfInBounds_toArray, List.set_cons_zero, List.set_cons_succ]
                refine takeR (i := 11) (oi := ?_) (v := ?_) ?_ (by kernel_rfl) (by kernel_rfl) (by kernel_rfl) ?_ ?_ (by assumption) ?_
                rotate_left 2
                · simp only [List.getElem?_toArray, List.getElem?_cons_succ, List.getElem?_cons_zero]; rfl
                · kernel_rfl
                · intro Wx hSx
                  try dsimp only at hSx
                  go_simp
                  try with_reducible rfl
                simp only [Act.put, List.setIfInBounds_toArray, List.set_cons_zero, List.set_cons_succ]
                refine done_R HR (by kernel_rfl) ?_
                go_wp2
                go_roundw
                case rel => exact ⟨k + 1, _, by omega, by go_num, by rw [HS.out]; exact HROW6.out, hE.trans (z6.mono (by omega)), (z6.block _ (by omega)).trans B1.out⟩
                case measure => simp [intOf]; omega
              refine AllReadyH.cons (o := ?_) ?_ (fun K hK => ?_) AllReadyH.nil
              rotate_left
              · simp only [List.getElem?_toArray, List.getElem?_cons_succ, List.getElem?_cons_zero]; rfl
              · go_simp
                refine hK.out _ _ ((y0.trans (z1.mono (by omega))).alloc (by omega) _) (fun hHeld => ?_)
                clear hK K
                simp only [Act.put, List.setIfInBounds_toArray, List.set_cons_zero, List.set_cons_succ]
                obtain ⟨X2, hX2⟩ : ∃ X, X1.alloc (.cells #[.int .i64 (k : Int)] 3) = X := ⟨_, rfl⟩
                have z2 : Ext X1 X2 := by rw [← hX2]; exact ext_alloc (ext_refl _) _
                have bk2 : X2.heap[X1.heap.size]? = some (.cells #[.int .i64 (k : Int)] 3 (0, 0)) := by rw [← hX2]; exact heap_alloc_new _ _
                rw [hX2]
                clear hX2
                have o2 := own_ext o1 z2
                have hs2 := z2.size
                refine wpAnyH_ready (rs := [4]) (by kernel_rfl) (by simp) ?_
                refine AllReadyH.cons (o := ?_) ?_ (fun K hK => ?_) AllReadyH.nil
                rotate_left
                · simp only [List.getElem?_toArray, List.getElem?_cons_succ, List.getElem?_cons_zero]; rfl
                refine step_app_ints (by rfl) _ _ 29 3 (by rfl) Tryz.underlying29 info_int wr.heap.size (.slice (some ⟨V0.heap.size, 0, none⟩) 0 0) 0 [] (by rfl) (by first | exact o2 | exact o1) _ walk len HLEN.out (by rfl) (by exact KI.out.ext (ext_trans hE (ext_trans x0 (ext_trans z1 z2)))) (by omega) (by omega) ?_
                intro PA pcap X3 hown3 hB3 hg3
                rw [Nat.zero_add] at hown3 ⊢
                rw [List.nil_append] at hown3
                have z3 : Ext wr X3 := (ext_trans x0 (ext_trans z1 z2)).trans hB3
                have bk : X3.heap[X1.heap.size]? = some (.cells #[.int .i64 (k : Int)] 3 (0, 0)) := by
                  rw [hg3.block _ (Array.getElem?_eq_some_iff.1 bk2).1 (fun h => by
                    have h2 : X1.heap.size = V0.heap.size := by simpa [Value.ownBlock] using h
                    omega)]
                  exact bk2
                refine hK.out _ _ (z3.mono (by omega)) (fun hHeld => ?_)
                clear hK K
                simp only [Act.put, List.setIfInBounds_toArray, List.set_cons_zero, List.set_cons_succ]
                have HP3 := hid hown3
                clear hown3
                refine wpAnyH_ready (rs := [7]) (by kernel_rfl) (by simp) ?_
                refine AllReadyH.cons (o := ?_) ?_ (fun K hK => ?_) AllReadyH.nil
                rotate_left
                · simp only [List.getElem?_toArray, List.getElem?_cons_succ, List.getElem?_cons_zero]; rfl
                refine step_app_one (W0 := X3) (by rfl) _ _ 29 3 (by rfl) Tryz.underlying29 (.int .i64 0) 8 #[.int .i64 (k : Int)] info_int rfl (by simp) (by simp) (by decide) (by simp [Value.oneCell']) wr.heap.size (.slice PA len pcap) len _ (by rfl) (by exact HP3.out) (by exact ext_refl _) _ (by rfl) bk z3.size (by omega) ?_
                intro g4 cap4 X4 hown4 hB4 hg4 hor4
                have z4 : Ext wr X4 := z3.trans hB4
                have hb4 := own_block hown4 g4 rfl
                have HI4 : Hid (IsInts X4 (.slice (some ⟨g4, 0, none⟩) (len + 1) cap4) (walk ++ [(k : Int)])) := hid (own_ints (by simpa using hown4) (by rw [List.length_append, HLEN.out]; simp; omega))
                clear hown4
                refine hK.out _ _ (z4.mono (by omega)) (fun hHeld => ?_)
                clear hK K
                simp only [Act.put, List.setIfInBounds_toArray, List.set_cons_zero, List.set_cons_succ]
                clear bk
                refine wpAnyH_ready (rs := [9]) (by kernel_rfl) (by simp) ?_
                refine AllReadyH.cons (o := ?_) ?_ (fun K hK => ?_) AllReadyH.nil
                rotate_left
                · simp only [List.getElem?_toArray, List.getElem?_cons_succ, List.getElem?_cons_zero]; rfl
                go_simp
                refine (IH.out (walk ++ [(k : Int)]) (.slice (some ⟨g4, 0, none⟩) (len + 1) cap4) X4 HI4.out (fun b hb => ?_) (by rw [List.length_append, HLEN.out]; simp; omega)).mono ?_
                · obtain rfl : g4 = b := by simpa [Value.ownBlock] using hb
                  omega
                unfold WalksPost
                rintro e X5 ⟨v5, ms5, rfl, hrow5, hE5⟩
                obtain ⟨A5, c5, rfl⟩ := hrow5.val
                obtain ⟨ml, hml⟩ : ∃ x, (walksFrom n f (walk ++ [(k : Int)])).length = x := ⟨_, rfl⟩
                have HML := hid hml
                have HROW5 := hid hrow5
                have hmp : 0 < ml := by rw [← HML.out]; exact walksFrom_pos _ _ _
                have hal3 : al + ml ≤ 100000 := by
                  have h1 := HWKL.out (k + 1) (by omega)
                  rw [HS.out, List.length_append, HAL.out] at h1
                  simpa [HML.out] using h1
                rw [hml]
                clear hrow5 hml
                have z5 : Ext wr X5 := ext_trans z4 hE5
                have hs5 := z5.size
                refine hK.out _ _ (z5.mono (by omega)) (fun hHeld => ?_)
                clear hK K
                simp only [Act.put, List.setIfInBounds_toArray, List.set_cons_zero, List.set_cons_succ]
                refine wpAnyH_ready (rs := [10]) (by kernel_rfl) (by simp) ?_
                refine AllReadyH.cons (o := ?_) ?_ (fun K hK => ?_) AllReadyH.nil
                rotate_left
                · simp only [List.getElem?_toArray, List.getElem?_cons_succ, List.getElem?_cons_zero]; rfl
                refine step_app_rows (by rfl) _ _ 86 29 (by rfl) Tryz.underlying86 (.slice none 0 0) (by kernel_rfl) (by rfl) (w.heap.size + 1) (.slice O al oc) al ms (by rfl) (by have h := (HROW.out.ext z5).own; rw [HAL.out] at h; exact h) X4.heap.size A5 ml c5 ms5 (by rfl) (by have h := HROW5.out.own; rw [HML.out] at h; exact h) (fun i hi => isInts_one (HROW5.out.ints i (by rw [HML.out]; exact hi))) hmp (by omega) (by omega) ?_
                intro g6 cap6 X6 hown6 hB6 hg6 hor6
                have z6 : Below (w.heap.size + 1) wr X6 := (z5.mono (by omega)).trans hB6
                have HROW6 := hid ((HROW.out.ext z5).app HAL.out HML.out (fun i hi => HROW5.out.ints i (by rw [HML.out]; exact hi)) (fun i hi b hb => by
                  have h := HROW5.out.blk i (by rw [HML.out]; exact hi) b hb
                  have hs4 := z4.size
                  have hge : w.heap.size + 1 ≤ b := by
                    rcases h.1 with h1 | h1
                    · obtain rfl : g4 = b := by simpa [Value.ownBlock] using h1
                      omega
                    · omega
                  refine ⟨by rw [HE.out]; exact .inr (by omega), fun h2 => ?_, h.2.2⟩
                  have h3 := (own_block HROW.out.own b h2).2
                  have h4 := hb4
                  rcases h.1 with h1 | h1
                  · obtain rfl : g4 = b := by simpa [Value.ownBlock] using h1
                    omega
                  · omega) g6 cap6 hown6 hg6 hor6)
                clear hown6
                refine hK.out _ _ z6 (fun hHeld => ?_)
                clear hK K
                simp only [Act.put, List.setIfInBounds_toArray, List.set_cons_zero, List.set_cons_succ]
                refine takeR (i := 11) (oi := ?_) (v := ?_) ?_ (by kernel_rfl) (by kernel_rfl) (by kernel_rfl) ?_ ?_ (by assumption) ?_
                rotate_left 2
                · simp only [List.getElem?_toArray, List.getElem?_cons_succ, List.getElem?_cons_zero]; rfl
                · kernel_rfl
                · intro Wx hSx
                  try dsimp only at hSx
                  go_simp
                  try with_reducible rfl
                simp only [Act.put, List.setIfInBounds_toArray, List.set_cons_zero, List.set_cons_succ]
                refine done_R HR (by kernel_rfl) ?_
                go_wp2
                go_roundw
                case rel => exact ⟨k + 1, _, by omega, by go_num, by rw [HS.out]; exact HROW6.out, hE.trans (z6.mono (by omega)), (z6.block _ (by omega)).trans B1.out⟩
                case measure => simp [intOf]; omega
            refine AllReadyH.cons (o := ?_) ?_ (fun K hK => ?_) AllReadyH.nil
            rotate_left
            · simp only [List.getElem?_toArray, List.getElem?_cons_succ, List.getElem?_cons_zero]; rfl
            · go_simp
              refine hK.out _ _ (y0.alloc (by omega) _) (fun hHeld => ?_)
              clear hK K
              simp only [Act.put, List.setIfInBounds_toArray, List.set_cons_zero, List.set_cons_succ]
              obtain ⟨X1, hX1⟩ : ∃ X, V0.alloc (.cells #[.int .i64 (k : Int)] 3) = X := ⟨_, rfl⟩
              have z1 : Ext V0 X1 := by rw [← hX1]; exact ext_alloc (ext_refl _) _
              have bk1 : X1.heap[V0.heap.size]? = some (.cells #[.int .i64 (k : Int)] 3 (0, 0)) := by rw [← hX1]; exact heap_alloc_new _ _
              have hs1 : V0.heap.size < X1.heap.size := by rw [← hX1]; simp
              rw [hX1]
              clear hX1
              refine wpAnyH_ready (rs := [2]) (by kernel_rfl) (by simp) ?_
              refine AllReadyH.cons (o := ?_) ?_ (fun K hK => ?_) AllReadyH.nil
              rotate_left
              · simp only [List.getElem?_toArray, List.getElem?_cons_succ, List.getElem?_cons_zero]; rfl
              go_simp
              refine hK.out _ _ ((y0.trans (z1.mono (by omega))).alloc (by omega) _) (fun hHeld => ?_)
              clear hK K
              simp only [Act.put, List.setIfInBounds_toArray, List.set_cons_zero, List.set_cons_succ]
              obtain ⟨X2, hX2⟩ : ∃ X, X1.alloc (.cells #[] 3) = X := ⟨_, rfl⟩
              have z2 : Ext X1 X2 := by rw [← hX2]; exact ext_alloc (ext_refl _) _
              have o1 : X2.ownsRow wr.heap.size 3 1 (.slice (some ⟨X1.heap.size, 0, none⟩) 0 0) 0 (([] : List Int).map (Value.int .i64)) := by rw [← hX2]; exact own_empty3 X1 _ _ (by omega)
              have bk2 := ext_blk_keep z2 bk1
              rw [hX2]
              clear hX2
              have hs2 := z2.size
              refine wpAnyH_ready (rs := [4]) (by kernel_rfl) (by simp) ?_
              refine AllReadyH.cons (o := ?_) ?_ (fun K hK => ?_) AllReadyH.nil
              rotate_left
              · simp only [List.getElem?_toArray, List.getElem?_cons_succ, List.getElem?_cons_zero]; rfl
              refine step_app_ints (by rfl) _ _ 29 3 (by rfl) Tryz.underlying29 info_int wr.heap.size (.slice (some ⟨X1.heap.size, 0, none⟩) 0 0) 0 [] (by rfl) (by first | exact o2 | exact o1) _ walk len HLEN.out (by rfl) (by exact KI.out.ext (ext_trans hE (ext_trans x0 (ext_trans z1 z2)))) (by omega) (by omega) ?_
              intro PA pcap X3 hown3 hB3 hg3
              rw [Nat.zero_add] at hown3 ⊢
              rw [List.nil_append] at hown3
              have z3 : Ext wr X3 := (ext_trans x0 (ext_trans z1 z2)).trans hB3
              have bk : X3.heap[V0.heap.size]? = some (.cells #[.int .i64 (k : Int)] 3 (0, 0)) := by
                rw [hg3.block _ (Array.getElem?_eq_some_iff.1 bk2).1 (fun h => by
                  have h2 : V0.heap.size = X1.heap.size := by simpa [Value.ownBlock] using h
                  omega)]
                exact bk2
              refine hK.out _ _ (z3.mono (by omega)) (fun hHeld => ?_)
              clear hK K
              simp only [Act.put, List.setIfInBounds_toArray, List.set_cons_zero, List.set_cons_succ]
              have HP3 := hid hown3
              clear hown3
              refine wpAnyH_ready (rs := [7]) (by kernel_rfl) (by simp) ?_
              refine AllReadyH.cons (o := ?_) ?_ (fun K hK => ?_) AllReadyH.nil
              rotate_left
              · simp only [List.getElem?_toArray, List.getElem?_cons_succ, List.getElem?_cons_zero]; rfl
              refine step_app_one (W0 := X3) (by rfl) _ _ 29 3 (by rfl) Tryz.underlying29 (.int .i64 0) 8 #[.int .i64 (k : Int)] info_int rfl (by simp) (by simp) (by decide) (by simp [Value.oneCell']) wr.heap.size (.slice PA len pcap) len _ (by rfl) (by exact HP3.out) (by exact ext_refl _) _ (by rfl) bk z3.size (by omega) ?_
              intro g4 cap4 X4 hown4 hB4 hg4 hor4
              have z4 : Ext wr X4 := z3.trans hB4
              have hb4 := own_block hown4 g4 rfl
              have HI4 : Hid (IsInts X4 (.slice (some ⟨g4, 0, none⟩) (len + 1) cap4) (walk ++ [(k : Int)])) := hid (own_ints (by simpa using hown4) (by rw [List.length_append, HLEN.out]; simp; omega))
              clear hown4
              refine hK.out _ _ (z4.mono (by omega)) (fun hHeld => ?_)
              clear hK K
              simp only [Act.put, List.setIfInBounds_toArray, List.set_cons_zero, List.set_cons_succ]
              clear bk
              refine wpAnyH_ready (rs := [9]) (by kernel_rfl) (by simp) ?_
              refine AllReadyH.cons (o := ?_) ?_ (fun K hK => ?_) AllReadyH.nil
              rotate_left
              · simp only [List.getElem?_toArray, List.getElem?_cons_succ, List.getElem?_cons_zero]; rfl
              go_simp
              refine (IH.out (walk ++ [(k : Int)]) (.slice (some ⟨g4, 0, none⟩) (len + 1) cap4) X4 HI4.out (fun b hb => ?_) (by rw [List.length_append, HLEN.out]; simp; omega)).mono ?_
              · obtain rfl : g4 = b := by simpa [Value.ownBlock] using hb
                omega
              unfold WalksPost
              rintro e X5 ⟨v5, ms5, rfl, hrow5, hE5⟩
              obtain ⟨A5, c5, rfl⟩ := hrow5.val
              obtain ⟨ml, hml⟩ : ∃ x, (walksFrom n f (walk ++ [(k : Int)])).length = x := ⟨_, rfl⟩
              have HML := hid hml
              have HROW5 := hid hrow5
              have hmp : 0 < ml := by rw [← HML.out]; exact walksFrom_pos _ _ _
              have hal3 : al + ml ≤ 100000 := by
                have h1 := HWKL.out (k + 1) (by omega)
                rw [HS.out, List.length_append, HAL.out] at h1
                simpa [HML.out] using h1
              rw [hml]
              clear hrow5 hml
              have z5 : Ext wr X5 := ext_trans z4 hE5
              have hs5 := z5.size
              refine hK.out _ _ (z5.mono (by omega)) (fun hHeld => ?_)
              clear hK K
              simp only [Act.put, List.setIfInBounds_toArray, List.set_cons_zero, List.set_cons_succ]
              refine wpAnyH_ready (rs := [10]) (by kernel_rfl) (by simp) ?_
              refine AllReadyH.cons (o := ?_) ?_ (fun K hK => ?_) AllReadyH.nil
              rotate_left
              · simp only [List.getElem?_toArray, List.getElem?_cons_succ, List.getElem?_cons_zero]; rfl
              refine step_app_rows (by rfl) _ _ 86 29 (by rfl) Tryz.underlying86 (.slice none 0 0) (by kernel_rfl) (by rfl) (w.heap.size + 1) (.slice O al oc) al ms (by rfl) (by have h := (HROW.out.ext z5).own; rw [HAL.out] at h; exact h) X4.heap.size A5 ml c5 ms5 (by rfl) (by have h := HROW5.out.own; rw [HML.out] at h; exact h) (fun i hi => isInts_one (HROW5.out.ints i (by rw [HML.out]; exact hi))) hmp (by omega) (by omega) ?_
              intro g6 cap6 X6 hown6 hB6 hg6 hor6
              have z6 : Below (w.heap.size + 1) wr X6 := (z5.mono (by omega)).trans hB6
              have HROW6 := hid ((HROW.out.ext z5).app HAL.out HML.out (fun i hi => HROW5.out.ints i (by rw [HML.out]; exact hi)) (fun i hi b hb => by
                have h := HROW5.out.blk i (by rw [HML.out]; exact hi) b hb
                have hs4 := z4.size
                have hge : w.heap.size + 1 ≤ b := by
                  rcases h.1 with h1 | h1
                  · obtain rfl : g4 = b := by simpa [Value.ownBlock] using h1
                    omega
                  · omega
                refine ⟨by rw [HE.out]; exact .inr (by omega), fun h2 => ?_, h.2.2⟩
                have h3 := (own_block HROW.out.own b h2).2
                have h4 := hb4
                rcases h.1 with h1 | h1
                · obtain rfl : g4 = b := by simpa [Value.ownBlock] using h1
                  omega
                · omega) g6 cap6 hown6 hg6 hor6)
              clear hown6
              refine hK.out _ _ z6 (fun hHeld => ?_)
              clear hK K
              simp only [Act.put, List.setIfInBounds_toArray, List.set_cons_zero, List.set_cons_succ]
              refine takeR (i := 11) (oi := ?_) (v := ?_) ?_ (by kernel_rfl) (by kernel_rfl) (by kernel_rfl) ?_ ?_ (by assumption) ?_
              rotate_left 2
              · simp only [List.getElem?_toArray, List.getElem?_cons_succ, List.getElem?_cons_zero]; rfl
              · kernel_rfl
              · intro Wx hSx
                try dsimp only at hSx
                go_simp
                try with_reducible rfl
              simp only [Act.put, List.setIfInBounds_toArray, List.set_cons_zero, List.set_cons_succ]
              refine done_R HR (by kernel_rfl) ?_
              go_wp2
              go_roundw
              case rel => exact ⟨k + 1, _, by omega, by go_num, by rw [HS.out]; exact HROW6.out, hE.trans (z6.mono (by omega)), (z6.block _ (by omega)).trans B1.out⟩
              case measure => simp [intOf]; omega
      · obtain rfl : n = k := by omega
        go_wp2
        go_ret
        refine ⟨_, ms, rfl, ?_, hE⟩
        rw [HWKE.out, ← HE.out]
        exact HROW.out.low (by omega)
end
end Go.Proofs.YtlcakmbejjlmeaaGreat
/- The contract of the reference's Fewest. -/
set_option linter.unusedVariables false
set_option linter.unusedSimpArgs false
namespace Go.Proofs.YtlcakmbejjlmeaaGreat
open Go.RowKit
/-- Some walk of k visits brings all. -/
def fewR (n : Nat) (moves : List Mov) (k : Nat) : Bool := (walksFrom n k []).any fun l => decide ((brgN moves l : Int) = 2 ^ moves.length - 1)
theorem shl_full {mn : Nat} (h : mn ≤ 7) : wrap64 (wrap64 (2 ^ mn) - 1) = (2 : Int) ^ mn - 1 := by
  have hk' : mn = 0 ∨ mn = 1 ∨ mn = 2 ∨ mn = 3 ∨ mn = 4 ∨ mn = 5 ∨ mn = 6 ∨ mn = 7 := by omega
  rcases hk' with rfl | rfl | rfl | rfl | rfl | rfl | rfl | rfl <;> decide +kernel
theorem lAt_mem {xss : List (List Int)} {i : Nat} (h : i < xss.length) : lAt xss i ∈ xss := by
  have e : lAt xss i = xss[i] := by simp [lAt, List.getD_eq_getElem?_getD, List.getElem?_eq_getElem h]
  rw [e]; exact List.getElem_mem h
theorem mem_lAt {xss : List (List Int)} {l : List Int} (h : l ∈ xss) : ∃ i, i < xss.length ∧ lAt xss i = l := by
  obtain ⟨i, hi, e⟩ := List.mem_iff_getElem.1 h
  exact ⟨i, hi, by simp [lAt, List.getD_eq_getElem?_getD, List.getElem?_eq_getElem hi, e]⟩
section
variable (n : Nat) (pv hv sv : Value) (wrong start calls : Int) (A : Option Addr) (c : Nat)
set_option maxHeartbeats 6400000 in
set_option maxRecDepth 100000 in
theorem fewestR_c (hn : n ≤ 4) (M : Option Addr) (mn mc : Nat) (moves : List Mov) (w : World) (hM : IsMovs w (.slice M mn mc) moves) (hml : moves.length = mn) (hm7 : mn ≤ 7) :
    Calls Tryz.prog 43 #[.agg #[.slice A n c, pv, .int .i64 wrong, hv, sv, .int .i64 start, .int .i64 calls], .slice M mn mc] w fun e w' => e = .returned (.int .i64 (firstT (fewR n moves) 8 : Nat)) ∧ Ext w w' := by
  have KM := hid hM
  have HML := hid hml
  obtain ⟨FR, hFR⟩ : ∃ g, fewR n moves = g := ⟨_, rfl⟩
  have HFR := hid hFR
  rw [hFR]
  obtain ⟨full, hfull⟩ : ∃ x : Int, (2 : Int) ^ mn - 1 = x := ⟨_, rfl⟩
  have HFULL := hid hfull
  have hall : Hid (∀ k, FR k = (walksFrom n k []).any fun l => decide ((brgN moves l : Int) = full)) := hid (fun k => by rw [← HFR.out, fewR, hml, hfull])
  clear hM hml hFR hfull
  go_enter Tryz.func43, Tryz.ntmps43
  go_wp2
  rw [shl_full hm7, HFULL.out]
  go_loopw [6, 7, 8] (fun i u v wr => ∃ (k : Nat), k ≤ 8 ∧ i = .int .i64 k ∧ Hid (∀ j, j < k → FR j = false) ∧ Ext w wr ∧ wr.heap[w.heap.size]? = some (.cells #[.slice A n c, pv, .int .i64 wrong, hv, sv, .int .i64 start, .int .i64 calls] 28 (0, 0))) (fun i _ _ _ => 8 - (intOf i).toNat)
  case atStart => exact ⟨0, by omega, rfl, hid (fun j hj => absurd hj (by omega)), by go_grown, (by repeat (first | exact heap_alloc_at _ _ (by simp) | refine heap_alloc_keep ?_))⟩
  case round =>
    obtain ⟨k, hk, rfl, hF, hE, b1⟩ := hrel
    have c1 := blk_cell b1
    have B1 := hid b1
    clear b1
    by_cases hlt : k < 8
    · have HW := hid (fun (wr : World) => walksR_c n pv hv sv wrong start calls A c k hn (by omega : k ≤ 7) k [] (.slice none 0 0) wr (ints_nil wr) (fun b hb => by simp [Value.ownBlock] at hb) (by simp))
      go_wp2_with (go_at_call 55; refine (HW.out _).mono ?_; unfold WalksPost; rintro e w1 ⟨v5, ms5, rfl, hrow5, hE5⟩; obtain ⟨A5, c5, rfl⟩ := hrow5.val)
      have HROW := hid hrow5
      obtain ⟨ml, hml⟩ : ∃ x, (walksFrom n k []).length = x := ⟨_, rfl⟩
      have HMLL := hid hml
      have hmb : ml ≤ 1000000 := by
        rw [← hml]
        have h1 := walksFrom_len n k [] hn
        have h2 : 5 ^ k ≤ 5 ^ 7 := Nat.pow_le_pow_right (by decide) (by omega)
        omega
      rw [hml]
      have e1 := ext_trans hE hE5
      clear hrow5 hml
      have HLI : Hid (IsLists w1 (.slice A5 ml c5) (walksFrom n k [])) := hid (by have h := HROW.out.lists (by rw [HMLL.out]; omega); rw [HMLL.out] at h; exact h)
      go_loopw [8] (fun i wr2 => ∃ (j : Nat), j ≤ ml ∧ i = .int .i64 j ∧ Hid (∀ i, i < j → ((brgN moves (lAt (walksFrom n k []) i) : Int) == full) = false) ∧ Ext w1 wr2) (fun i _ => ml - (intOf i).toNat)
      case atStart => exact ⟨0, by omega, rfl, hid (fun j hj => absurd hj (by omega)), ext_refl _⟩
      case round =>
        obtain ⟨j, hj, rfl, hG, hE2⟩ := hrel
        by_cases hlt2 : j < ml
        · obtain ⟨b, o, hV, hcell⟩ := (HLI.out.ext hE2).at (by omega)
          subst hV
          obtain ⟨v, g1, hv⟩ := hcell j hlt2
          obtain ⟨x, hx⟩ : ∃ x, lAt (walksFrom n k []) j = x := ⟨_, rfl⟩
          rw [hx] at hv
          have HX := hid hx
          have HV := hid hv
          obtain ⟨r, hr⟩ : ∃ r, brgN moves x = r := ⟨_, rfl⟩
          have HR := hid hr
          have hi0 : (0 : Int) ≤ (j : Int) := by omega
          have hi1 : (j : Int) < (ml : Int) := by omega
          obtain ⟨yy, hyy⟩ : ∃ y, ((r : Int) == full) = y := ⟨_, rfl⟩
          clear hcell hx hv hr
          cases yy
          · go_wp2_with (go_at_call 40; refine (brings7_c M mn mc moves v x _ (KM.out.ext (ext_trans e1 hE2)) HML.out hm7 HV.out r HR).mono ?_; rintro e w2 ⟨rfl, hB2⟩)
            go_roundw
            case rel => exact ⟨j + 1, hlt2, by go_num, hid (fun i hi => by
              by_cases h : i = j
              · subst h; rw [HX.out, HR.out]; exact hyy
              · exact hG.out i (by omega)), ext_trans hE2 hB2⟩
            case measure => simp [intOf]; omega
          · go_wp2_with (go_at_call 40; refine (brings7_c M mn mc moves v x _ (KM.out.ext (ext_trans e1 hE2)) HML.out hm7 HV.out r HR).mono ?_; rintro e w2 ⟨rfl, hB2⟩)
            go_ret
            have ht : FR k = true := by
              rw [hall.out, List.any_eq_true]
              refine ⟨_, lAt_mem (i := j) (by rw [HMLL.out]; exact hlt2), ?_⟩
              rw [HX.out, HR.out]
              simpa using hyy
            exact ⟨ret_int (by rw [firstT_at ht (fun j hj => hF.out j hj) hlt]), ext_trans e1 (ext_trans hE2 hB2)⟩
        · obtain rfl : j = ml := by omega
          go_wp2
          go_roundw
          case rel =>
            refine ⟨k + 1, by omega, by go_num, hid (fun i hi => ?_), ext_trans e1 hE2, ext_blk_keep (ext_trans hE5 hE2) B1.out⟩
            by_cases h : i = k
            · subst h
              rw [hall.out, List.any_eq_false]
              intro l hl
              obtain ⟨q, hq, rfl⟩ := mem_lAt hl
              have := hG.out q (by rw [← HMLL.out]; exact hq)
              simpa using this
            · exact hF.out i (by omega)
          case measure => simp [intOf]; omega
    · obtain rfl : k = 8 := by omega
      go_wp2
      go_ret
      exact ⟨ret_int (by rw [firstT_none (fun j hj => hF.out j hj)]; rfl), hE⟩
end
end Go.Proofs.YtlcakmbejjlmeaaGreat
/- Plain laws: seven visits bring all; the reference's Fewest is the program's. -/
set_option linter.unusedVariables false
set_option linter.unusedSimpArgs false
namespace Go.Proofs.YtlcakmbejjlmeaaGreat
open Go.RowKit
theorem bestK_mem (pieces : List Pce) (os : List (Nat → Int)) (h : 0 < os.length) : ∀ k, k ≤ os.length → bestK pieces os k ∈ os
  | 0, _ => by
    rw [bestK, ow, List.getD_eq_getElem?_getD, List.getElem?_eq_getElem h]
    exact List.getElem_mem h
  | k + 1, hk => by
    rw [bestK]
    split
    · rw [ow, List.getD_eq_getElem?_getD, List.getElem?_eq_getElem (by omega)]
      exact List.getElem_mem (by omega)
    · exact bestK_mem pieces os h k (by omega)
theorem movK_sr (pieces : List Pce) (o : Nat → Int) {l : List Int} {i : Nat} (h : i < l.length) : mSr (movK pieces o l) i = pBd pieces (at0 l i).toNat := by
  simp [mSr, movK, at0, List.getD_eq_getElem?_getD, List.getElem?_eq_getElem h]
theorem movK_ds (pieces : List Pce) (o : Nat → Int) {l : List Int} {i : Nat} (h : i < l.length) : mDs (movK pieces o l) i = o (at0 l i).toNat := by
  simp [mDs, movK, at0, List.getD_eq_getElem?_getD, List.getElem?_eq_getElem h]
theorem movesF_bd {women : List Wom} {pieces : List Pce} {wrong : Int} (ha : askedE women pieces wrong = 0) {i : Nat} (hi : i < (movesF women pieces wrong).length) :
    (0 ≤ mSr (movesF women pieces wrong) i ∧ mSr (movesF women pieces wrong) i < women.length) ∧ (0 ≤ mDs (movesF women pieces wrong) i ∧ mDs (movesF women pieces wrong) i < women.length) ∧ mSr (movesF women pieces wrong) i ≠ mDs (movesF women pieces wrong) i := by
  obtain ⟨ht, h0, _⟩ := askedE_zero ha
  have hp := (tabFault_zero ht).2.2.2.2.1
  rw [movesF, movK_len] at hi
  obtain ⟨k, hk, he⟩ := astrayF_at hi
  have hm := at0_mem hi
  obtain ⟨k2, hk2, hp2, he2⟩ := (mem_selK _ _ _).1 hm
  have hkk : (at0 (astrayF pieces (bestO women pieces wrong)) i).toNat = k := by rw [he]; rfl
  have hk3 : k2 = k := by omega
  subst hk3
  rw [movesF, movK_sr _ _ hi, movK_ds _ _ hi, hkk]
  have hpk := hp k2 hk
  rw [pceOk, Bool.and_eq_true, Bool.and_eq_true, Bool.and_eq_true, decide_eq_true_eq, decide_eq_true_eq, decide_eq_true_eq, decide_eq_true_eq] at hpk
  have hb : bestO women pieces wrong ∈ truthsF women pieces wrong := bestK_mem _ _ h0 _ (Nat.le_refl _)
  rw [truthsF, List.mem_filter] at hb
  have hl := listsF_mem hb.1 k2 hk
  refine ⟨⟨hpk.1.2.1, by omega⟩, hl, ?_⟩
  rw [astP] at hp2
  simpa using hp2
/-- A walk's steps may be taken. -/
def okW (n : Nat) (walk : List Int) : List Nat → Prop
  | [] => True
  | k :: l => k < n ∧ endsAt walk k = false ∧ okW n (walk ++ [(k : Int)]) l
theorem mem_walksFrom (n : Nat) : ∀ (l : List Nat) (f : Nat) (walk : List Int), l.length ≤ f → okW n walk l → walk ++ l.map (fun k : Nat => (k : Int)) ∈ walksFrom n f walk
  | [], f, walk, _, _ => by
    cases f <;> simp [walksFrom]
  | k :: l, 0, walk, h, _ => by simp at h
  | k :: l, f + 1, walk, h, hk => by
    have ih := mem_walksFrom n l f (walk ++ [(k : Int)]) (by simp at h; omega) hk.2.2
    rw [walksFrom, List.mem_cons, List.mem_flatMap]
    refine .inr ⟨k, List.mem_range.2 hk.1, ?_⟩
    rw [if_neg (by rw [hk.2.1]; simp)]
    simpa using ih
instance okW_dec (n : Nat) : ∀ (walk : List Int) (l : List Nat), Decidable (okW n walk l)
  | _, [] => isTrue trivial
  | walk, k :: l => by
    have := okW_dec n (walk ++ [(k : Int)]) l
    unfold okW
    exact inferInstance
theorem bitsN_full (P : Nat → Bool) : ∀ m, (bitsN P m = 2 ^ m - 1 ↔ ∀ i, i < m → P i = true)
  | 0 => by simp [bitsN]
  | m + 1 => by
    have ih := bitsN_full P m
    have hl := bitsN_lt P m
    have hp : 0 < 2 ^ m := Nat.pow_pos (by decide)
    rw [bitsN, Nat.pow_succ]
    constructor
    · intro h i hi
      cases hm : P m
      · rw [hm] at h
        simp at h
        omega
      · rw [hm] at h
        simp at h
        by_cases e : i = m
        · subst e; exact hm
        · exact ih.1 (by omega) i (by omega)
    · intro h
      rw [h m (by omega), ih.2 (fun i hi => h i (by omega))]
      simp
      omega
theorem bringsAll_iff {moves : List Mov} (hinj : PInj moves) (walk : List Int) : bringsAll moves walk [] = true ↔ ∀ i, i < moves.length → brgB moves walk i = true := by
  rw [bringsAll, allT_iff]
  constructor
  · intro h i hi
    have := h i hi
    rw [bringsF_at hinj walk hi] at this
    simpa [hasF] using this
  · intro h i hi
    rw [bringsF_at hinj walk hi, h i hi]
    rfl
theorem brgN_full (moves : List Mov) (walk : List Int) : (brgN moves walk : Int) = 2 ^ moves.length - 1 ↔ ∀ i, i < moves.length → brgB moves walk i = true := by
  rw [← bitsN_full, brgN]
  have hp : 0 < 2 ^ moves.length := Nat.pow_pos (by decide)
  have e : ((2 ^ moves.length : Nat) : Int) = (2 : Int) ^ moves.length := by simp
  omega
theorem fewR_eq {moves : List Mov} (hinj : PInj moves) (n k : Nat) : fewR n moves k = fewP n moves k := by
  unfold fewR fewP
  congr 1
  funext l
  rw [Bool.eq_iff_iff, decide_eq_true_eq, brgN_full, bringsAll_iff hinj]
theorem brought_all {n : Nat} (l : List Nat) (hl : ∀ a, a < n → ∀ b, b < n → a ≠ b → broughtF (l.map fun k : Nat => (k : Int)) a b = true) {moves : List Mov} (hm : ∀ i, i < moves.length → (0 ≤ mSr moves i ∧ mSr moves i < n) ∧ (0 ≤ mDs moves i ∧ mDs moves i < n) ∧ mSr moves i ≠ mDs moves i) (i : Nat) (hi : i < moves.length) : brgB moves (l.map fun k : Nat => (k : Int)) i = true := by
  obtain ⟨⟨h1, h2⟩, ⟨h3, h4⟩, h5⟩ := hm i hi
  have h := hl (mSr moves i).toNat (by omega) (mDs moves i).toNat (by omega) (by omega)
  rw [Int.toNat_of_nonneg h1, Int.toNat_of_nonneg h3] at h
  exact h
theorem seven_all {n : Nat} (hn : n ≤ 4) {moves : List Mov} (hm : ∀ i, i < moves.length → (0 ≤ mSr moves i ∧ mSr moves i < n) ∧ (0 ≤ mDs moves i ∧ mDs moves i < n) ∧ mSr moves i ≠ mDs moves i) : fewR n moves 7 = true := by
  have go : ∀ l : List Nat, l.length ≤ 7 → okW n [] l → (∀ a, a < n → ∀ b, b < n → a ≠ b → broughtF (l.map fun k : Nat => (k : Int)) a b = true) → fewR n moves 7 = true := by
    intro l h1 h2 h3
    rw [fewR, List.any_eq_true]
    refine ⟨_, mem_walksFrom n l 7 [] h1 h2, ?_⟩
    rw [decide_eq_true_eq, brgN_full]
    exact brought_all l h3 hm
  have hk : n = 0 ∨ n = 1 ∨ n = 2 ∨ n = 3 ∨ n = 4 := by omega
  rcases hk with rfl | rfl | rfl | rfl | rfl
  · exact go [] (by decide) (by decide) (by decide)
  · exact go [] (by decide) (by decide) (by decide)
  · exact go [0, 1, 0] (by decide) (by decide +kernel) (by decide +kernel)
  · exact go [0, 1, 2, 0, 1] (by decide) (by decide +kernel) (by decide +kernel)
  · exact go [0, 1, 2, 3, 0, 1, 2] (by decide) (by decide +kernel) (by decide +kernel)
theorem firstT_le (P : Nat → Bool) : ∀ n, firstT P n ≤ n
  | 0 => by simp [firstT]
  | n + 1 => by have := firstT_le P n; rw [firstT]; split <;> (try split) <;> omega
theorem firstT_succ (P : Nat → Bool) (n : Nat) : firstT P (n + 1) = if firstT P n < n then firstT P n else if P n then n else n + 1 := rfl
theorem firstT_eight {P : Nat → Bool} (h : P 7 = true) : firstT P 8 = firstT P 7 := by
  have h1 := firstT_le P 7
  rw [firstT_succ P 7, if_pos h]
  generalize firstT P 7 = x at h1
  split <;> omega
/-- The reference's Fewest. -/
theorem fewest_eq {women : List Wom} {pieces : List Pce} {wrong : Int} {home streets : List Rng} {start calls : Int} (he : errE women pieces wrong home streets start calls = 0) : ((firstT (fewR women.length (movesF women pieces wrong)) 8 : Nat) : Int) = fewestN women pieces wrong home streets start calls := by
  have hz := errE_zero he
  have hf : fewR women.length (movesF women pieces wrong) = fewP women.length (movesF women pieces wrong) := funext fun k => fewR_eq (movesF_inj _ _ _) _ k
  have h7 := seven_all hz.2.1 (fun i hi => movesF_bd hz.1 hi)
  rw [fewestN, if_pos he, ← hf]
  generalize fewR women.length (movesF women pieces wrong) = P at h7
  rw [firstT_eight h7]
end Go.Proofs.YtlcakmbejjlmeaaGreat
