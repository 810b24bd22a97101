/- The contracts of the references' Before and Better. -/
import Derived.Test.YtlcakmbejjlmeaaGreatK8
import Derived.Test.YtlcakmbejjlmeaaGreatK14
import Derived.Test.YtlcakmbejjlmeaaGreatK13
set_option linter.unusedVariables false
set_option linter.unusedSimpArgs false
namespace Go.Proofs.YtlcakmbejjlmeaaGreat
open Go.RowKit
def beforeF (a b : List Int) : Bool :=
  if firstT (fun i => decide (at0 a i ≠ at0 b i)) (min a.length b.length) < min a.length b.length then decide (at0 a (firstT (fun i => decide (at0 a i ≠ at0 b i)) (min a.length b.length)) < at0 b (firstT (fun i => decide (at0 a i ≠ at0 b i)) (min a.length b.length))) else decide (a.length < b.length)
theorem beforeF_at {a b : List Int} {k : Nat} (ha : k < a.length) (hb : k < b.length) (hk : at0 a k ≠ at0 b k) (h : ∀ j, j < k → at0 a j = at0 b j) : beforeF a b = decide (at0 a k < at0 b k) := by
  have e : firstT (fun i => decide (at0 a i ≠ at0 b i)) (min a.length b.length) = k := firstT_at (by simpa using hk) (fun j hj => by simpa using h j hj) (by omega)
  rw [beforeF, e, if_pos (by omega)]
theorem beforeF_end {a b : List Int} (h : ∀ j, j < min a.length b.length → at0 a j = at0 b j) : beforeF a b = decide (a.length < b.length) := by
  have e : firstT (fun i => decide (at0 a i ≠ at0 b i)) (min a.length b.length) = min a.length b.length := firstT_none (fun j hj => by simpa using h j hj)
  rw [beforeF, e, if_neg (by omega)]
set_option maxHeartbeats 3200000 in
set_option maxRecDepth 100000 in
theorem beforeR_c (av bv : Value) (a b : List Int) (w : World) (ha : IsInts w av a) (hb : IsInts w bv b) (y : Bool) (hy : Hid (beforeF a b = y)) :
    Calls Tryz.prog 101 #[av, bv] w fun e w' => e = .returned (.bool y) ∧ Ext w w' := by
  have KA := hid ha
  have KB := hid hb
  obtain ⟨VA, ca, rfl⟩ := ha.val
  obtain ⟨VB, cb, rfl⟩ := hb.val
  obtain ⟨la, hla⟩ : ∃ x, a.length = x := ⟨_, rfl⟩
  obtain ⟨lb, hlb⟩ : ∃ x, b.length = x := ⟨_, rfl⟩
  have ba := ha.1
  have bb := hb.1
  rw [hla] at KA ba ⊢
  rw [hlb] at KB bb ⊢
  have HLA := hid hla
  have HLB := hid hlb
  clear ha hb hla hlb
  go_enter Tryz.func101, Tryz.ntmps101
  go_wp2
  go_loopw [5] (fun i wr => ∃ k : Nat, k ≤ la ∧ k ≤ lb ∧ i = .int .i64 k ∧ Hid (∀ j, j < k → at0 a j = at0 b j) ∧ Ext w wr) (fun i _ => la - (intOf i).toNat)
  case atStart => exact ⟨0, Nat.zero_le _, Nat.zero_le _, rfl, hid (fun j hj => absurd hj (by omega)), ext_refl _⟩
  case round =>
    obtain ⟨k, hk, hk2, rfl, hF, hE⟩ := hrel
    by_cases hlt : k < la
    · by_cases hlt2 : k < lb
      · obtain ⟨ab, ao, hV, hac⟩ := (KA.out.ext hE).at (by omega)
        subst hV
        obtain ⟨b2, bo, hV, hbc⟩ := (KB.out.ext hE).at (by omega)
        subst hV
        have g1 := hac k hlt
        have g2 := hbc k hlt2
        obtain ⟨x, hx⟩ : ∃ x, at0 a k = x := ⟨_, rfl⟩
        obtain ⟨z, hz⟩ : ∃ x, at0 b k = x := ⟨_, rfl⟩
        rw [hx] at g1
        rw [hz] at g2
        have HX := hid hx
        have HZ := hid hz
        have g3 := ext_cell g1 (ext_refl wr) (Nat.le_refl _)
        have g4 := ext_cell g2 (ext_refl wr) (Nat.le_refl _)
        have hi0 : (0 : Int) ≤ (k : Int) := by omega
        have hi1 : (k : Int) < (la : Int) := by omega
        have hi2 : (k : Int) < (lb : Int) := by omega
        have e0 := ext_refl wr
        clear hac hbc g1 g2 hx hz
        by_cases hxz : x = z
        · subst hxz
          go_wp2
          go_region_held3 (fun W => Ext wr W)
            (first | exact Below.drew (by assumption) | assumption | exact ext_trans (by assumption) (by assumption))
            (fail)
          have et : Ext wr wr.drew := (ext_refl wr).drew
          clear g3 g4
          go_wp2
          go_roundw
          case rel => exact ⟨k + 1, hlt, hlt2, by go_num, hid (fun j hj => by
            by_cases e : j = k
            · subst e; rw [HX.out, HZ.out]
            · exact hF.out j (by omega)), ext_trans hE (by first | exact et | assumption)⟩
          case measure => simp [intOf]; omega
        · have hx1 : (x != z) = true := by rw [bne_iff_ne]; exact hxz
          have hy2 : y = decide (x < z) := by rw [← hy.out, beforeF_at (by rw [HLA.out]; exact hlt) (by rw [HLB.out]; exact hlt2) (by rw [HX.out, HZ.out]; exact hxz) hF.out, HX.out, HZ.out]
          have HY := hid hy2
          clear hy2
          go_wp2
          go_region_held3 (fun W => Ext wr W)
            (first | exact Below.drew (by assumption) | assumption | exact ext_trans (by assumption) (by assumption))
            (fail)
          go_wp2
          refine wp_gen ?_
          intro W2 hW2
          have e2 : Ext wr W2 := by rw [hW2]; first | exact (ext_refl wr).drew | assumption
          clear hW2
          go_region_held3 (fun W => Ext wr W)
            (first | exact Below.drew (by assumption) | assumption | exact ext_trans (by assumption) (by assumption))
            (fail)
          go_wp2
          go_ret
          exact ⟨ret_bool HY.out.symm, ext_trans hE (by assumption)⟩
      · obtain rfl : k = lb := by omega
        have hlt' : (k : Int) < (la : Int) := by omega
        have HY : Hid (y = decide (la < k)) := hid (by rw [← hy.out, beforeF_end (by rw [HLA.out, HLB.out]; exact fun j hj => hF.out j (by omega)), HLA.out, HLB.out])
        go_wp2
        go_ret
        exact ⟨ret_bool (by rw [HY.out]), hE⟩
    · obtain rfl : k = la := by omega
      have HY : Hid (y = decide (k < lb)) := hid (by rw [← hy.out, beforeF_end (by rw [HLA.out, HLB.out]; exact fun j hj => hF.out j (by omega)), HLA.out, HLB.out])
      go_wp2
      go_ret
      exact ⟨ret_bool (by rw [HY.out]), hE⟩
/-- Better, of walks and their ends. -/
def betterF (a : List Int) (ea : Int) (b : List Int) (eb : Int) : Bool := if a.length ≠ b.length then decide (a.length < b.length) else decide (ea < eb) || (decide (ea = eb) && beforeF a b)
set_option maxHeartbeats 3200000 in
set_option maxRecDepth 100000 in
theorem betterR_c (av bv : Value) (a b : List Int) (ea eb : Int) (w : World) (ha : IsInts w av a) (hb : IsInts w bv b) (y : Bool) (hy : Hid (betterF a ea b eb = y)) :
    Calls Tryz.prog 62 #[av, .int .i64 ea, bv, .int .i64 eb] w fun e w' => e = .returned (.bool y) ∧ Ext w w' := by
  have KA := hid ha
  have KB := hid hb
  obtain ⟨VA, ca, rfl⟩ := ha.val
  obtain ⟨VB, cb, rfl⟩ := hb.val
  obtain ⟨la, hla⟩ : ∃ x, a.length = x := ⟨_, rfl⟩
  obtain ⟨lb, hlb⟩ : ∃ x, b.length = x := ⟨_, rfl⟩
  obtain ⟨x, hx⟩ : ∃ x, beforeF a b = x := ⟨_, rfl⟩
  have HX := hid hx
  have hyd : y = if la ≠ lb then decide (la < lb) else decide (ea < eb) || (decide (ea = eb) && x) := by rw [← hy.out, betterF, hla, hlb, hx]
  rw [hla] at KA ⊢
  rw [hlb] at KB ⊢
  clear ha hb hla hlb hx
  by_cases hl : la = lb
  · subst hl
    by_cases h1 : ea < eb
    · have HY : Hid (y = true) := hid (by rw [hyd]; simp [h1])
      clear hyd
      go_enter Tryz.func62, Tryz.ntmps62
      go_wp2
      go_ret
      exact ⟨ret_bool (by rw [HY.out]), ext_refl _⟩
    · by_cases h2 : ea = eb
      · have HY : Hid (y = x) := hid (by rw [hyd]; simp [h1, h2])
        subst h2
        clear hyd
        go_enter Tryz.func62, Tryz.ntmps62
        go_wp2_with (go_at_call 101; refine (beforeR_c _ _ a b _ KA.out KB.out x HX).mono ?_; rintro e w1 ⟨rfl, hB1⟩)
        go_ret
        exact ⟨ret_bool (by rw [HY.out]), hB1⟩
      · have HY : Hid (y = false) := hid (by rw [hyd]; simp [h1, h2])
        have h3 : (ea == eb) = false := by rw [beq_eq_false_iff_ne]; exact h2
        clear hyd
        go_enter Tryz.func62, Tryz.ntmps62
        go_wp2
        go_ret
        exact ⟨ret_bool (by rw [HY.out]), ext_refl _⟩
  · have HY : Hid (y = decide (la < lb)) := hid (by rw [hyd, if_pos hl])
    have h3 : ((la : Int) != (lb : Int)) = true := by rw [bne_iff_ne]; omega
    clear hyd
    by_cases h4 : la < lb
    · have h5 : (la : Int) < (lb : Int) := by omega
      go_enter Tryz.func62, Tryz.ntmps62
      go_wp2
      go_ret
      exact ⟨ret_bool (by rw [HY.out]; simp [h4]), ext_refl _⟩
    · have h5 : ¬ (la : Int) < (lb : Int) := by omega
      go_enter Tryz.func62, Tryz.ntmps62
      go_wp2
      go_ret
      exact ⟨ret_bool (by rw [HY.out]; simp [h4]), ext_refl _⟩
end Go.Proofs.YtlcakmbejjlmeaaGreat
/- Plain laws: the walks come in order; the best walk is no worse than any. -/
set_option linter.unusedVariables false
set_option linter.unusedSimpArgs false
namespace Go.Proofs.YtlcakmbejjlmeaaGreat
open Go.RowKit
def LexL (a b : List Int) : Prop := ∃ i, i < a.length ∧ i < b.length ∧ at0 a i < at0 b i ∧ ∀ j, j < i → at0 a j = at0 b j
theorem walksFrom_pre (n : Nat) : ∀ (f : Nat) (walk y : List Int), y ∈ walksFrom n f walk → ∃ t, y = walk ++ t
  | 0, walk, y, h => ⟨[], by simpa [walksFrom] using h⟩
  | f + 1, walk, y, h => by
    rw [walksFrom, List.mem_cons, List.mem_flatMap] at h
    rcases h with rfl | ⟨k, _, h⟩
    · exact ⟨[], by simp⟩
    · split at h
      · simp at h
      · obtain ⟨t, rfl⟩ := walksFrom_pre n f _ y h
        exact ⟨[(k : Int)] ++ t, by simp⟩
theorem walks_sorted (n : Nat) : ∀ (f : Nat) (walk : List Int), (walksFrom n f walk).Pairwise (fun a b => a.length = b.length → LexL a b)
  | 0, walk => by simp [walksFrom]
  | f + 1, walk => by
    have hp : ∀ k y, y ∈ (if endsAt walk k = true then [] else walksFrom n f (walk ++ [(k : Int)])) → ∃ t, y = walk ++ [(k : Int)] ++ t := by
      intro k y hy
      split at hy
      · simp at hy
      · exact walksFrom_pre n f _ y hy
    rw [walksFrom, List.pairwise_cons]
    refine ⟨fun y hy => ?_, ?_⟩
    · rw [List.mem_flatMap] at hy
      obtain ⟨k, _, hy⟩ := hy
      obtain ⟨t, rfl⟩ := hp k y hy
      intro h
      simp at h
    · rw [List.pairwise_flatMap]
      refine ⟨fun k _ => ?_, ?_⟩
      · split
        · simp
        · exact walks_sorted n f _
      · refine List.Pairwise.imp ?_ List.pairwise_lt_range
        intro k k' hkk x hx y hy _
        obtain ⟨t, rfl⟩ := hp k x hx
        obtain ⟨t', rfl⟩ := hp k' y hy
        have e : ∀ (q : Int) (t : List Int), at0 (walk ++ [q] ++ t) walk.length = q := by intro q t; simp [at0, List.getD_eq_getElem?_getD]
        refine ⟨walk.length, by simp, by simp, ?_, fun j hj => ?_⟩
        · rw [e, e]; omega
        · rw [List.append_assoc, List.append_assoc, at0_left hj, at0_left hj]
theorem before_lex {a b : List Int} (h : LexL a b) : beforeF b a = false := by
  obtain ⟨i, h1, h2, h3, h4⟩ := h
  rw [beforeF_at h2 h1 (by omega) (fun j hj => (h4 j hj).symm), decide_eq_false (by omega)]
theorem before_self (a : List Int) : beforeF a a = false := by
  rw [beforeF_end (fun j hj => rfl), decide_eq_false (by omega)]
section
variable (n : Nat) (home streets : List Rng) (start calls : Int) (moves : List Mov)
def okB (l : List Int) : Bool := bringsAll moves l [] && sureF n home streets start calls l
/-- No worse than l. -/
def LeB (b l : List Int) : Prop := b.length < l.length ∨ (b.length = l.length ∧ (endF n home streets start b < endF n home streets start l ∨ (endF n home streets start b = endF n home streets start l ∧ (l = b ∨ LexL b l))))
def BestInv (ls : List (List Int)) (s : List Int × Int × Int) : Prop :=
  (s = ([], 8, 0) ∧ ∀ l ∈ ls, okB n home streets start calls moves l = false) ∨
  (s.1 ∈ ls ∧ okB n home streets start calls moves s.1 = true ∧ s.2.1 = s.1.length ∧ s.2.2 = endF n home streets start s.1 ∧ ∀ l ∈ ls, okB n home streets start calls moves l = true → LeB n home streets start s.1 l)
theorem bstep_inv {ls : List (List Int)} {s : List Int × Int × Int} {l : List Int} (h : BestInv n home streets start calls moves ls s) (hl : l.length ≤ 7) (hlex : ∀ x ∈ ls, x.length = l.length → LexL x l) : BestInv n home streets start calls moves (ls ++ [l]) (bstep n home streets start calls moves s l) := by
  by_cases hok : okB n home streets start calls moves l = true
  · have hok2 := hok
    rw [okB, Bool.and_eq_true] at hok2
    rcases h with ⟨rfl, h⟩ | ⟨h1, h2, h3, h4, h5⟩
    · right
      have e : bstep n home streets start calls moves ([], 8, 0) l = (l, (l.length : Int), endF n home streets start l) := by
        rw [bstep, if_neg (by simp; omega), if_neg (by rw [hok2.1]; simp), if_neg (by rw [hok2.2]; simp), if_pos (by simp; left; omega)]
      rw [e]
      refine ⟨by simp, hok, rfl, rfl, fun x hx hxo => ?_⟩
      rw [List.mem_append, List.mem_singleton] at hx
      rcases hx with hx | rfl
      · rw [h x hx] at hxo; simp at hxo
      · exact .inr ⟨rfl, .inr ⟨rfl, .inl rfl⟩⟩
    · right
      by_cases hlen : s.1.length < l.length
      · have e : bstep n home streets start calls moves s l = s := by rw [bstep, if_pos (by rw [h3]; omega)]
        rw [e]
        refine ⟨by simp [h1], h2, h3, h4, fun x hx hxo => ?_⟩
        rw [List.mem_append, List.mem_singleton] at hx
        rcases hx with hx | rfl
        · exact h5 x hx hxo
        · exact .inl hlen
      · have e0 : bstep n home streets start calls moves s l = if (decide ((l.length : Int) < s.2.1) || decide ((l.length : Int) = s.2.1) && decide (endF n home streets start l < s.2.2)) = true then (l, (l.length : Int), endF n home streets start l) else s := by
          rw [bstep, if_neg (by rw [h3]; omega), if_neg (by rw [hok2.1]; simp), if_neg (by rw [hok2.2]; simp)]
        rw [e0]
        split
        · rename_i hc
          rw [Bool.or_eq_true, Bool.and_eq_true, decide_eq_true_eq, decide_eq_true_eq, decide_eq_true_eq, h3, h4] at hc
          refine ⟨by simp, hok, rfl, rfl, fun x hx hxo => ?_⟩
          rw [List.mem_append, List.mem_singleton] at hx
          rcases hx with hx | rfl
          · have h6 := h5 x hx hxo
            unfold LeB at h6 ⊢
            rcases hc with hc | ⟨hc, hc2⟩
            · left
              rcases h6 with h6 | ⟨h6, _⟩ <;> (simp only; omega)
            · rcases h6 with h6 | ⟨h6, h7⟩
              · left; simp only; omega
              · right
                refine ⟨by simp only; omega, .inl ?_⟩
                rcases h7 with h7 | ⟨h7, _⟩ <;> (simp only; omega)
          · exact .inr ⟨rfl, .inr ⟨rfl, .inl rfl⟩⟩
        · rename_i hc
          rw [Bool.or_eq_true, Bool.and_eq_true, decide_eq_true_eq, decide_eq_true_eq, decide_eq_true_eq, h3, h4] at hc
          refine ⟨by simp [h1], h2, h3, h4, fun x hx hxo => ?_⟩
          rw [List.mem_append, List.mem_singleton] at hx
          rcases hx with hx | rfl
          · exact h5 x hx hxo
          · have hle : s.1.length = x.length := by omega
            refine .inr ⟨hle, ?_⟩
            by_cases he : endF n home streets start s.1 < endF n home streets start x
            · exact .inl he
            · refine .inr ⟨?_, .inr (hlex s.1 h1 hle)⟩
              have : ¬ endF n home streets start x < endF n home streets start s.1 := fun hh => hc (.inr ⟨by omega, hh⟩)
              omega
  · have hok2 : okB n home streets start calls moves l = false := by simpa using hok
    have e : bstep n home streets start calls moves s l = s := by
      rw [bstep]
      split
      · rfl
      · split
        · rfl
        · split
          · rfl
          · rename_i h1 h2
            exact absurd (by rw [okB, (by simpa using h1 : bringsAll moves l [] = true), (by simpa using h2 : sureF n home streets start calls l = true)]; rfl) hok
    rw [e]
    rcases h with ⟨rfl, h⟩ | ⟨h1, h2, h3, h4, h5⟩
    · left
      refine ⟨rfl, fun x hx => ?_⟩
      rw [List.mem_append, List.mem_singleton] at hx
      rcases hx with hx | rfl
      · exact h x hx
      · exact hok2
    · right
      refine ⟨by simp [h1], h2, h3, h4, fun x hx hxo => ?_⟩
      rw [List.mem_append, List.mem_singleton] at hx
      rcases hx with hx | rfl
      · exact h5 x hx hxo
      · rw [hok2] at hxo; simp at hxo
theorem best_inv : ∀ (k : Nat) (L : List (List Int)), k ≤ L.length → (∀ l ∈ L, l.length ≤ 7) → L.Pairwise (fun a b => a.length = b.length → LexL a b) → BestInv n home streets start calls moves (L.take k) (bestRun n home streets start calls moves (L.take k))
  | 0, L, _, _, _ => .inl ⟨by simp [bestRun], fun l hl => by simp at hl⟩
  | k + 1, L, hk, h7, hp => by
    have ih := best_inv k L (by omega) h7 hp
    have e : L.take (k + 1) = L.take k ++ [L[k]] := List.take_succ_eq_append_getElem hk
    rw [e, bestRun_snoc]
    refine bstep_inv n home streets start calls moves ih (h7 _ (List.getElem_mem _)) (fun x hx hxl => ?_)
    obtain ⟨j, hj, rfl⟩ := List.mem_iff_getElem.1 hx
    rw [List.length_take] at hj
    rw [List.getElem_take] at hxl ⊢
    exact List.pairwise_iff_getElem.1 hp j k (by omega) hk (by omega) hxl
end
theorem best_final {women : List Wom} {pieces : List Pce} {wrong : Int} {home streets : List Rng} {start calls : Int} (h7 : calls.toNat ≤ 7) : BestInv women.length home streets start calls (movesF women pieces wrong) (walksFrom women.length calls.toNat []) (bestS women pieces wrong home streets start calls) := by
  have h := best_inv women.length home streets start calls (movesF women pieces wrong) _ (walksFrom women.length calls.toNat []) (Nat.le_refl _) (fun l hl => (walks_ok h7 hl).len) (walks_sorted _ _ _)
  rw [List.take_length] at h
  exact h
/-- A walk is among the walks. -/
theorem walk_mem {n : Nat} {l : List Int} (h : WalkOk n l) {f : Nat} (hf : l.length ≤ f) : l ∈ walksFrom n f [] := by
  have e : (l.map Int.toNat).map (fun k : Nat => (k : Int)) = l := by
    rw [List.map_map]
    conv => rhs; rw [← List.map_id l]
    apply List.map_congr_left
    intro x hx
    obtain ⟨i, hi, rfl⟩ := List.mem_iff_getElem.1 hx
    have := h.lo i hi
    rw [at0_get hi] at this
    simp [Int.toNat_of_nonneg this]
  have go : ∀ (t w : List Int), WalkOk n (w ++ t) → okW n w (t.map Int.toNat) := by
    intro t
    induction t with
    | nil => intro w _; trivial
    | cons x t ih =>
      intro w hw
      have hx0 : at0 (w ++ x :: t) w.length = x := by simp [at0, List.getD_eq_getElem?_getD]
      have h1 := hw.lo w.length (by simp)
      have h2 := hw.hi w.length (by simp)
      rw [hx0] at h1 h2
      refine ⟨by omega, ?_, ?_⟩
      · cases he : endsAt w x.toNat
        · rfl
        · rw [endsAt_iff] at he
          have h3 := hw.ne (w.length - 1) (by simp; omega)
          rw [show w.length - 1 + 1 = w.length from by omega, hx0, at0_left (by omega)] at h3
          exact absurd (by rw [he.2]; omega) h3
      · rw [Int.toNat_of_nonneg h1]
        exact ih (w ++ [x]) (by simpa using hw)
  have h1 := mem_walksFrom n (l.map Int.toNat) f [] (by simpa using hf) (go l [] (by simpa using h))
  rw [e] at h1
  simpa using h1
theorem firstT_min {P : Nat → Bool} {k n : Nat} (h : P k = true) : firstT P n ≤ max k n ∧ (k < n → firstT P n ≤ k) := by
  refine ⟨by have := firstT_le P n; omega, fun hk => ?_⟩
  have h2 := (firstT_spec P n).2.1
  rcases Nat.lt_or_ge k (firstT P n) with h3 | h3
  · rw [h2 k h3] at h; simp at h
  · exact h3
section
variable {women : List Wom} {pieces : List Pce} {wrong : Int} {home streets : List Rng} {start calls : Int}
theorem fewP_of {n : Nat} {moves : List Mov} {l : List Int} (h : WalkOk n l) (hb : bringsAll moves l [] = true) : fewP n moves l.length = true := by
  rw [fewP, List.any_eq_true]
  exact ⟨l, walk_mem h (Nat.le_refl _), hb⟩
theorem fewest_le (he : errE women pieces wrong home streets start calls = 0) {l : List Int} (h : WalkOk women.length l) (hb : bringsAll (movesF women pieces wrong) l [] = true) : fewestN women pieces wrong home streets start calls ≤ (l.length : Int) := by
  rw [fewestN, if_pos he]
  have h1 := fewP_of h hb
  have h2 := firstT_min (n := 7) h1
  have h3 := firstT_le (fewP women.length (movesF women pieces wrong)) 7
  by_cases h7 : l.length < 7
  · have := h2.2 h7; omega
  · omega
theorem proveB_iff (he : errE women pieces wrong home streets start calls = 0) {l : List Int} (h : WalkOk women.length l) : proveB women pieces wrong home streets start calls l l.length = okB women.length home streets start calls (movesF women pieces wrong) l := by
  rw [proveB, walkC_zero he h, okB]
  simp [Bool.and_comm]
theorem okB_mem {l : List Int} (h : WalkOk women.length l) (ho : okB women.length home streets start calls (movesF women pieces wrong) l = true) : l ∈ walksFrom women.length calls.toNat [] := by
  rw [okB, Bool.and_eq_true, sureF, Bool.and_eq_true, decide_eq_true_eq] at ho
  exact walk_mem h (by omega)
theorem best_ten (he : errE women pieces wrong home streets start calls = 0) (hc : bestC women pieces wrong home streets start calls ≠ 0) {l : List Int} (h : WalkOk women.length l) : bestC women pieces wrong home streets start calls = 10 ∧ okB women.length home streets start calls (movesF women pieces wrong) l = false := by
  have hz := errE_zero he
  have h7 : calls.toNat ≤ 7 := by omega
  have hi := best_final (women := women) (pieces := pieces) (wrong := wrong) (home := home) (streets := streets) (start := start) (calls := calls) h7
  rw [bestC, if_pos he] at hc ⊢
  split at hc
  · rename_i h8
    rw [if_pos h8]
    refine ⟨rfl, ?_⟩
    rcases hi with ⟨_, hi⟩ | ⟨h1, _, h3, _⟩
    · cases ho : okB women.length home streets start calls (movesF women pieces wrong) l
      · rfl
      · rw [hi l (okB_mem h ho)] at ho; simp at ho
    · have := (walks_ok h7 h1).len
      omega
  · exact absurd rfl hc
theorem best_zero (he : errE women pieces wrong home streets start calls = 0) (hc : bestC women pieces wrong home streets start calls = 0) :
    WalkOk women.length (bestL women pieces wrong home streets start calls) ∧ okB women.length home streets start calls (movesF women pieces wrong) (bestL women pieces wrong home streets start calls) = true ∧ bestN women pieces wrong home streets start calls = endF women.length home streets start (bestL women pieces wrong home streets start calls) ∧
    ∀ l, WalkOk women.length l → okB women.length home streets start calls (movesF women pieces wrong) l = true → betterF l (endF women.length home streets start l) (bestL women pieces wrong home streets start calls) (bestN women pieces wrong home streets start calls) = false := by
  have hz := errE_zero he
  have h7 : calls.toNat ≤ 7 := by omega
  have hi := best_final (women := women) (pieces := pieces) (wrong := wrong) (home := home) (streets := streets) (start := start) (calls := calls) h7
  have h8 : ¬ 7 < (bestS women pieces wrong home streets start calls).2.1 := by
    intro h8
    rw [bestC, if_pos he, if_pos h8] at hc
    simp at hc
  rw [bestL, if_pos hc, bestN, if_pos hc]
  rcases hi with ⟨hi, _⟩ | ⟨h1, h2, h3, h4, h5⟩
  · rw [hi] at h8; simp at h8
  refine ⟨walks_ok h7 h1, h2, h4, fun l hw ho => ?_⟩
  have h6 := h5 l (okB_mem hw ho) ho
  unfold LeB at h6
  rw [betterF, h4]
  rcases h6 with h6 | ⟨h6, h6'⟩
  · rw [if_pos (by omega), decide_eq_false (by omega)]
  · rw [if_neg (by omega)]
    rcases h6' with h6' | ⟨h6', h6''⟩
    · rw [decide_eq_false (by omega), decide_eq_false (by omega)]; rfl
    · rw [decide_eq_false (by omega)]
      rcases h6'' with rfl | h6''
      · rw [before_self]; simp
      · rw [before_lex h6'']; simp
end
end Go.Proofs.YtlcakmbejjlmeaaGreat
