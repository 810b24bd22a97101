/- Words of sixteen bits, and the walk that a statement makes of them. -/
import Derived.Test.YtlcakmbejjlmeaaGreatK11
import Derived.Test.YtlcakmbejjlmeaaGreatK10
import Derived.Test.YtlcakmbejjlmeaaGreatK9
import Derived.Test.YtlcakmbejjlmeaaGreatK8
set_option linter.unusedVariables false
set_option linter.unusedSimpArgs false
namespace Go.Proofs.YtlcakmbejjlmeaaGreat
open Go.RowKit
/-- A []uint16 in memory. -/
def IsU16s (w : World) (v : Value) (xs : List Int) : Prop :=
  xs.length ≤ 140737488355328 ∧ (∀ i, i < xs.length → 0 ≤ at0 xs i ∧ at0 xs i ≤ 65535) ∧ ∃ A c, v = .slice A xs.length c ∧ (0 < xs.length → ∃ b o, A = some ⟨b, o, none⟩ ∧ ∀ i, i < xs.length → w.cell? ⟨b, o + i, none⟩ = some (.int .u16 (at0 xs i)))
theorem IsU16s.val {w : World} {v : Value} {xs : List Int} (h : IsU16s w v xs) : ∃ A c, v = .slice A xs.length c := by
  obtain ⟨_, _, A, c, hv, _⟩ := h; exact ⟨A, c, hv⟩
theorem IsU16s.ext {w w' : World} {v : Value} {xs : List Int} (h : IsU16s w v xs) (e : Ext w w') : IsU16s w' v xs := by
  obtain ⟨h0, h2, A, c, hv, h1⟩ := h
  refine ⟨h0, h2, A, c, hv, fun hn => ?_⟩
  obtain ⟨b, o, ha, hc⟩ := h1 hn
  exact ⟨b, o, ha, fun i hi => cell_ext e (hc i hi)⟩
theorem IsU16s.at {w : World} {A : Option Addr} {n c : Nat} {xs : List Int} (h : IsU16s w (.slice A n c) xs) (hp : 0 < n) : ∃ b o, A = some ⟨b, o, none⟩ ∧ ∀ i, i < n → w.cell? ⟨b, o + i, none⟩ = some (.int .u16 (at0 xs i)) := by
  obtain ⟨_, _, A', c', hv, h1⟩ := h
  injection hv with h2 h3 h4
  subst h2; subst h3
  exact h1 hp
/-- One word more. -/
def wstepW (n : Nat) (out : List Int) (u : Int) : List Int := if out.length < 6 ∧ 0 < n then (if endsAt out (u.toNat % n) then out else out ++ [((u.toNat % n : Nat) : Int)]) else out
def walkW (n : Nat) (us : List Int) : List Int := us.foldl (wstepW n) []
theorem wstepW_id {n : Nat} {out : List Int} (h : ¬ (out.length < 6 ∧ 0 < n)) : ∀ l : List Int, l.foldl (wstepW n) out = out
  | [] => rfl
  | u :: l => by rw [List.foldl_cons, wstepW, if_neg h]; exact wstepW_id h l
theorem endsAt_iff (out : List Int) (k : Nat) : endsAt out k = true ↔ 0 < out.length ∧ at0 out (out.length - 1) = (k : Int) := by
  rw [endsAt, Bool.and_eq_true, decide_eq_true_eq, decide_eq_true_eq]
structure WalkOk6 (n : Nat) (walk : List Int) : Prop where
  ok : WalkOk n walk
  len : walk.length ≤ 6
theorem at0_left {l l' : List Int} {i : Nat} (h : i < l.length) : at0 (l ++ l') i = at0 l i := by
  simp [at0, List.getD_eq_getElem?_getD, List.getElem?_append_left h]
theorem at0_end (l : List Int) (x : Int) : at0 (l ++ [x]) l.length = x := by simp [at0]
theorem wstepW_ok {n : Nat} {out : List Int} (h : WalkOk6 n out) (u : Int) : WalkOk6 n (wstepW n out u) := by
  rw [wstepW]
  split
  · rename_i h1
    split
    · exact h
    · rename_i h2
      have hm := Nat.mod_lt u.toNat h1.2
      rw [endsAt_iff] at h2
      generalize u.toNat % n = k at h2 hm
      refine ⟨⟨by rw [List.length_append]; simp; omega, fun i hi => ?_, fun i hi => ?_, fun i hi => ?_⟩, by rw [List.length_append]; simp; omega⟩
      · rw [List.length_append] at hi
        simp at hi
        by_cases e : i < out.length
        · rw [at0_left e]; exact h.ok.lo i e
        · obtain rfl : i = out.length := by omega
          rw [at0_end]; omega
      · rw [List.length_append] at hi
        simp at hi
        by_cases e : i < out.length
        · rw [at0_left e]; exact h.ok.hi i e
        · obtain rfl : i = out.length := by omega
          rw [at0_end]; omega
      · rw [List.length_append] at hi
        simp at hi
        by_cases e : i + 1 < out.length
        · rw [at0_left e, at0_left (by omega)]; exact h.ok.ne i e
        · have e2 : i + 1 = out.length := by omega
          rw [e2, at0_end, at0_left (by omega)]
          intro h3
          exact h2 ⟨by omega, by rw [show out.length - 1 = i from by omega]; exact h3.symm⟩
  · exact h
theorem walkW_ok (n : Nat) (us : List Int) : WalkOk6 n (walkW n us) := by
  have : ∀ (l : List Int) (out : List Int), WalkOk6 n out → WalkOk6 n (l.foldl (wstepW n) out) := by
    intro l
    induction l with
    | nil => exact fun _ h => h
    | cons u l ih => exact fun out h => ih _ (wstepW_ok h u)
  exact this us [] ⟨⟨by simp, fun i hi => absurd hi (by simp), fun i hi => absurd hi (by simp), fun i hi => absurd hi (by simp)⟩, by simp⟩
theorem own_cap {w : World} {base : Nat} {e : TypeId} {A : Option Addr} {m c n : Nat} {xs : List Value} (h : w.ownsRow base e 1 (.slice A m c) n xs) : m ≤ c := by
  rcases h.2 with ⟨hv, h0⟩ | ⟨g, cap, cur, hv, _, _, hle, _⟩
  · injection hv with _ h2 h3; omega
  · injection hv with _ h2 h3; omega
theorem drop_at0 {us : List Int} {k : Nat} (h : k < us.length) : us.drop k = at0 us k :: us.drop (k + 1) := by
  rw [List.drop_eq_getElem_cons h]
  simp [at0, List.getD_eq_getElem?_getD, List.getElem?_eq_getElem h]
section
variable (A : Option Addr) (n wc : Nat) (pv : Value) (wrong : Int) (hv tv : Value) (start calls : Int)
set_option maxHeartbeats 6400000 in
set_option maxRecDepth 100000 in
theorem walkedW_c (hnb : n ≤ 140737488355328) (uv : Value) (us : List Int) (w : World) (hU : IsU16s w uv us) :
    Calls Tryz.prog 47 #[.agg #[.slice A n wc, pv, .int .i64 wrong, hv, tv, .int .i64 start, .int .i64 calls], uv] w
      fun e w' => ∃ V vc, e = .returned (.slice V (walkW n us).length vc) ∧ IsInts w' (.slice V (walkW n us).length vc) (walkW n us) ∧ Ext w w' ∧ (walkW n us).length ≤ vc := by
  have KU := hid hU
  obtain ⟨U, uc, rfl⟩ := hU.val
  obtain ⟨un, hun⟩ : ∃ x, us.length = x := ⟨_, rfl⟩
  have HUN := hid hun
  have hub := hU.1
  rw [hun] at KU hub ⊢
  obtain ⟨Lr, hLr⟩ : ∃ x, walkW n us = x := ⟨_, rfl⟩
  have HLR := hid hLr
  rw [hLr]
  clear hU hun hLr
  go_enter Tryz.func47, Tryz.ntmps47
  go_wp2
  go_loopw [5, 7, 8] (fun out i _ wr => ∃ (k : Nat) (l : List Int), k ≤ un ∧ i = .int .i64 k ∧ wr.ownsRow (w.heap.size + 1) 3 1 out l.length (l.map (Value.int .i64)) ∧ l.length ≤ 6 ∧ Hid (Lr = (us.drop k).foldl (wstepW n) l) ∧ Ext w wr ∧ w.heap.size + 1 ≤ wr.heap.size ∧ wr.heap[w.heap.size]? = some (.cells #[.slice A n wc, pv, .int .i64 wrong, hv, tv, .int .i64 start, .int .i64 calls] 28 (0, 0))) (fun _ i _ _ => un - (intOf i).toNat)
  case atStart => exact ⟨0, [], Nat.zero_le _, rfl, own_nil _ _ _ _, by simp, hid (by rw [← HLR.out]; rfl), by go_grown, by simp, (by repeat (first | exact heap_alloc_at _ _ (by simp) | refine heap_alloc_keep ?_))⟩
  case round =>
    obtain ⟨k, l, hk, rfl, hown, hl6, hfold, hE, hsz, b1⟩ := hrel
    have HO := hid hown
    have hi := own_ints hown (by omega)
    obtain ⟨OA, oc, rfl⟩ := hi.val
    obtain ⟨ln, hln⟩ : ∃ x, l.length = x := ⟨_, rfl⟩
    have HLN := hid hln
    rw [hln] at HO hi hl6 ⊢
    have HI := hid hi
    have hcap := hid (own_cap HO.out)
    have c1 := blk_cell b1
    have B1 := hid b1
    clear hown hi b1 hln
    by_cases hlt : k < un
    · by_cases h6 : ln < 6
      · by_cases hn0 : 0 < n
        · obtain ⟨b, o, hV, hcell⟩ := (KU.out.ext hE).at (by omega)
          subst hV
          have g1 := hcell k hlt
          obtain ⟨u, hu⟩ : ∃ x, at0 us k = x := ⟨_, rfl⟩
          have hur := KU.out.2.1 k (by rw [HUN.out]; exact hlt)
          rw [hu] at g1 hur
          have hs : Hid (Lr = (us.drop (k + 1)).foldl (wstepW n) (wstepW n l u)) := hid (by rw [hfold.out, drop_at0 (by rw [HUN.out]; exact hlt), hu]; rfl)
          obtain ⟨u0, rfl⟩ : ∃ z : Nat, u = (z : Int) := ⟨u.toNat, by omega⟩
          obtain ⟨q, hq⟩ : ∃ q, u0 % n = q := ⟨_, rfl⟩
          have hqn : q < n := by rw [← hq]; exact Nat.mod_lt _ hn0
          have HS : Hid (Lr = (us.drop (k + 1)).foldl (wstepW n) (if endsAt l q then l else l ++ [(q : Int)])) := hid (by rw [hs.out, wstepW, if_pos ⟨by rw [HLN.out]; exact h6, hn0⟩]; simp only [Int.toNat_natCast]; rw [hq])
          have hm0 : ¬ (n : Int) = 0 := by omega
          have hm1 : (u0 : Int).tmod (n : Int) = (q : Int) := by rw [← hq]; rfl
          have hk0 : (0 : Int) ≤ (k : Int) := by omega
          have hk1 : (k : Int) < (un : Int) := by omega
          have hn1 : (0 : Int) < (n : Int) := by omega
          clear hcell hu hs hq
          by_cases hl0 : ln = 0
          · have he : endsAt l q = false := by rw [endsAt, HLN.out, hl0]; rfl
            have hl1 : ((ln : Int) == 0) = true := by rw [hl0]; rfl
            have HS2 : Hid (Lr = (us.drop (k + 1)).foldl (wstepW n) (l ++ [(q : Int)])) := hid (by rw [HS.out, he]; rfl)
            clear he HS hl0
            go_wp2_with (at_builtin; refine app_intH rfl _ _ 29 3 rfl Tryz.underlying29 info_int (w.heap.size + 1) _ ln l (q : Int) _ rfl rfl rfl (by exact HO.out) hsz (by omega) ?_; intro g cap w2 hown2 hB2 hg2 hlt2 hbg2)
            go_roundw
            case rel => exact ⟨k + 1, l ++ [(q : Int)], hlt, by go_num, by simpa [HLN.out] using hown2, by simp [HLN.out]; omega, HS2, hE.trans (hB2.mono (by omega)), Nat.le_trans hsz hB2.size, by rw [hB2.block _ (by omega)]; exact B1.out⟩
            case measure => simp [intOf]; omega
          · have hl1 : ((ln : Int) == 0) = false := by rw [beq_eq_false_iff_ne]; omega
            obtain ⟨b2, o2, hV2, hcell2⟩ := HI.out.at (by omega)
            subst hV2
            have g2 := hcell2 (ln - 1) (by omega)
            obtain ⟨x, hx⟩ : ∃ x, at0 l (ln - 1) = x := ⟨_, rfl⟩
            rw [hx] at g2
            have hkk : IntKind.i64.wrap ((ln : Int) - 1) = (ln : Int) - 1 := IntWalk.i64_in _ (by omega)
            have hk3 : (0 : Int) ≤ (ln : Int) - 1 := by omega
            have hk4 : (ln : Int) - 1 < (ln : Int) := by omega
            have hkn : ((ln : Int) - 1).toNat = ln - 1 := by omega
            have he : endsAt l q = decide (x = (q : Int)) := by
              rw [endsAt, HLN.out, hx, decide_eq_true (by omega)]; rfl
            clear hcell2 hx
            by_cases hxq : x = (q : Int)
            · have HS2 : Hid (Lr = (us.drop (k + 1)).foldl (wstepW n) l) := hid (by rw [HS.out, he, decide_eq_true hxq]; rfl)
              have hxx : (x != (q : Int)) = false := by rw [hxq]; simp
              clear he HS
              go_wp2
              go_roundw
              case rel => exact ⟨k + 1, l, hlt, by go_num, by rw [HLN.out]; exact HO.out, by rw [HLN.out]; exact hl6, HS2, hE, hsz, B1.out⟩
              case measure => simp [intOf]; omega
            · have HS2 : Hid (Lr = (us.drop (k + 1)).foldl (wstepW n) (l ++ [(q : Int)])) := hid (by rw [HS.out, he, decide_eq_false hxq]; rfl)
              have hxx : (x != (q : Int)) = true := by rw [bne_iff_ne]; exact hxq
              clear he HS
              go_wp2_with (at_builtin; refine app_intH rfl _ _ 29 3 rfl Tryz.underlying29 info_int (w.heap.size + 1) _ ln l (q : Int) _ rfl rfl rfl (by exact HO.out) hsz (by omega) ?_; intro g cap w2 hown2 hB2 hg2 hlt2 hbg2)
              go_roundw
              case rel => exact ⟨k + 1, l ++ [(q : Int)], hlt, by go_num, by simpa [HLN.out] using hown2, by simp [HLN.out]; omega, HS2, hE.trans (hB2.mono (by omega)), Nat.le_trans hsz hB2.size, by rw [hB2.block _ (by omega)]; exact B1.out⟩
              case measure => simp [intOf]; omega
        · obtain rfl : n = 0 := by omega
          have HEND : Hid (Lr = l) := hid (by rw [hfold.out, wstepW_id (by omega)])
          go_wp2
          go_ret
          rw [HEND.out, HLN.out]
          exact ⟨_, _, rfl, HI.out, hE, hcap.out⟩
      · have HEND : Hid (Lr = l) := hid (by rw [hfold.out, wstepW_id (by rw [HLN.out]; omega)])
        have h7 : ¬ (ln : Int) < 6 := by omega
        go_wp2
        go_ret
        rw [HEND.out, HLN.out]
        exact ⟨_, _, rfl, HI.out, hE, hcap.out⟩
    · obtain rfl : k = un := by omega
      have HEND : Hid (Lr = l) := hid (by rw [hfold.out, List.drop_eq_nil_of_le (by rw [HUN.out]; exact Nat.le_refl _)]; rfl)
      go_wp2
      go_ret
      rw [HEND.out, HLN.out]
      exact ⟨_, _, rfl, HI.out, hE, hcap.out⟩
end
end Go.Proofs.YtlcakmbejjlmeaaGreat
/- Plain laws: a walk's beginning; the ends of the ranges. -/
set_option linter.unusedVariables false
set_option linter.unusedSimpArgs false
namespace Go.Proofs.YtlcakmbejjlmeaaGreat
open Go.RowKit
theorem comesK_at (n : Nat) (home streets : List Rng) (start : Int) (walk : List Int) {m k : Nat} (h : k < m) : rLo (comesK n home streets start walk m) k = minAt n (rLo home) (rngM (rLo streets) streets.length) start walk (k + 1) ∧ rHi (comesK n home streets start walk m) k = minAt n (rLo home) (rngM (rHi streets) streets.length) start walk (k + 1) := by
  simp [rHi, rLo, comesK, h]
theorem at0_take {l : List Int} {m i : Nat} (h : i < m) : at0 (l.take m) i = at0 l i := by
  simp [at0, List.getD_eq_getElem?_getD, List.getElem?_take, h]
theorem plAt_take (n : Nat) (l : List Int) {m : Nat} : ∀ k, k ≤ m → plAt n (l.take m) k = plAt n l k
  | 0, _ => rfl
  | k + 1, h => by rw [plAt, plAt, at0_take (by omega)]
theorem minAt_take (n : Nat) (lo m : Nat → Int) (start : Int) (l : List Int) {j : Nat} : ∀ k, k ≤ j → minAt n lo m start (l.take j) k = minAt n lo m start l k
  | 0, _ => rfl
  | k + 1, h => by rw [minAt, minAt, at0_take (by omega), plAt_take n l k (by omega), minAt_take n lo m start l k (by omega)]
theorem comesK_take (n : Nat) (home streets : List Rng) (start : Int) (l : List Int) {m : Nat} : comesK n home streets start (l.take m) m = (comesK n home streets start l (m + 1)).take m := by
  unfold comesK
  rw [← List.map_take, List.take_range, Nat.min_eq_left (by omega)]
  apply List.map_congr_left
  intro i hi
  have := List.mem_range.1 hi
  rw [minAt_take _ _ _ _ _ _ (by omega), minAt_take _ _ _ _ _ _ (by omega)]
theorem WalkOk.take {n : Nat} {l : List Int} (h : WalkOk n l) (m : Nat) : WalkOk n (l.take m) := by
  have hl : (l.take m).length ≤ l.length := by rw [List.length_take]; omega
  have hm : (l.take m).length ≤ m := by rw [List.length_take]; omega
  refine ⟨Nat.le_trans hl h.len, fun i hi => ?_, fun i hi => ?_, fun i hi => ?_⟩
  · rw [at0_take (by omega)]; exact h.lo i (by omega)
  · rw [at0_take (by omega)]; exact h.hi i (by omega)
  · rw [at0_take (by omega), at0_take (by omega)]; exact h.ne i (by omega)
theorem broughtF_take {l : List Int} {m : Nat} {a b : Int} (h : broughtF (l.take m) a b = true) : broughtF l a b = true := by
  rw [broughtF_iff] at h ⊢
  obtain ⟨i, k, h1, h2, h3, h4⟩ := h
  rw [List.length_take] at h2
  rw [at0_take (by omega)] at h3 h4
  exact ⟨i, k, h1, by omega, h3, h4⟩
/-- What a walk's beginning brings, the walk brings. -/
theorem bringsL_take {women : List Wom} {pieces : List Pce} {wrong : Int} {home streets : List Rng} {start calls : Int} {l : List Int} {m : Nat} (h1 : walkC women pieces wrong home streets start calls (l.take m) = 0) (h2 : walkC women pieces wrong home streets start calls l = 0) {k : Nat} (hk : k < (bringsL women pieces wrong home streets start calls (l.take m)).length) :
    hasF (bringsL women pieces wrong home streets start calls l) (at0 (bringsL women pieces wrong home streets start calls (l.take m)) k) = true := by
  rw [hasF_iff]
  have hm := at0_mem hk
  rw [bringsL, if_pos h1] at hm
  rw [bringsL, if_pos h2]
  rw [bringsL, if_pos h1]
  rw [bringsL, if_pos h1] at hk
  simp only [selM, List.mem_map, List.mem_filter, List.mem_range] at hm ⊢
  obtain ⟨i, ⟨hi, hb⟩, he⟩ := hm
  refine ⟨i, ⟨hi, ?_⟩, he⟩
  rw [bringsF_at (movesF_inj _ _ _) _ hi] at hb ⊢
  exact broughtF_take hb
theorem walkC_zero {women : List Wom} {pieces : List Pce} {wrong : Int} {home streets : List Rng} {start calls : Int} {l : List Int} (he : errE women pieces wrong home streets start calls = 0) (hw : WalkOk women.length l) : walkC women pieces wrong home streets start calls l = 0 := by
  rw [walkC, he, (isWalkF_iff _ _).2 hw]; rfl
theorem ints_take {W : World} {A : Option Addr} {n c : Nat} {l : List Int} (h : IsInts W (.slice A n c) l) (hl : l.length = n) {m : Nat} (hm : m ≤ n) (hp : 0 < n) : IsInts W (.slice A m c) (l.take m) := by
  obtain ⟨b, o, rfl, hc⟩ := h.at hp
  have hlen : (l.take m).length = m := by rw [List.length_take]; omega
  refine ⟨by rw [hlen]; have := h.1; omega, some ⟨b, o, none⟩, c, by rw [hlen], fun _ => ⟨b, o, rfl, fun i hi => ?_⟩⟩
  rw [hlen] at hi
  rw [at0_take hi]
  exact hc i (by omega)
end Go.Proofs.YtlcakmbejjlmeaaGreat
/- What the statements' arguments are: words of sixteen bits, read out of memory. -/
set_option linter.unusedVariables false
set_option linter.unusedSimpArgs false
namespace Go.Proofs.YtlcakmbejjlmeaaGreat
open Go.RowKit Go.ChangeShapes Go.WideShapes Go.Deep
theorem wf_u16 {z : Int} (h : (Lit.int .u16 z).wf = true) : 0 ≤ z ∧ z ≤ 65535 := by
  have h1 : IntKind.u16.min ≤ z ∧ z ≤ IntKind.u16.max := by simpa [Lit.wf] using h
  have h2 : IntKind.u16.min = 0 := by decide
  have h3 : IntKind.u16.max = 65535 := by decide
  omega
theorem wf_u8 {z : Int} (h : (Lit.int .u8 z).wf = true) : 0 ≤ z ∧ z ≤ 255 := by
  have h1 : IntKind.u8.min ≤ z ∧ z ≤ IntKind.u8.max := by simpa [Lit.wf] using h
  have h2 : IntKind.u8.min = 0 := by decide
  have h3 : IntKind.u8.max = 255 := by decide
  omega
section
variable {H : Type} {enc : TypeId × Value → H} {W : World} {sp : Nat → Bool} {held : Bool}
theorem open_u16W {fuel : Nat} {v : Value} {x : DataW H × List MemPlace} (h : DataW.trod enc Tryz.prog W 0 sp held fuel 69 [v] = some x) (hw : WOk Tryz.prog 69 x.1) : ∃ A n c xs, v = .slice A n c ∧ IsU16s W v xs ∧ xs.length = n := by
  rcases open_slice1 Tryz.underlying69 (by kernel_rfl) h with ⟨hc, rfl⟩ | ⟨a, len, cap, m, n, V, D, Pl, hc, _, hl, hm, hmm, rfl, hx⟩
  · injection hc with hc
    subst hc
    exact ⟨_, _, _, [], rfl, ⟨by simp, fun i hi => absurd hi (by simp), none, 0, rfl, fun h => absurd h (by simp)⟩, rfl⟩
  · injection hc with hc
    subst hc
    have hlm : len ≤ m := by rw [hmm]; split <;> omega
    have hb := (WOk.slice Tryz.underlying69 hw).1
    have hb8 : Tryz.prog.bytesOf 70 = 2 := by kernel_rfl
    rw [hb8, List.length_map, List.length_range, List.length_map, List.length_range] at hb
    have hr : reachBytes < 140737488355328 := by decide
    obtain ⟨f, hf⟩ := choose_lt (n := len) (p := fun i z => W.cell? (a.add i) = some (.int .u16 z) ∧ 0 ≤ z ∧ z ≤ 65535) (fun i hi => by
      obtain ⟨h1, h2⟩ := hx i (by omega)
      obtain ⟨z, hz, _, hwf⟩ := DataW.trod_int Tryz.underlying70 h2
      injection hz with hz
      exact ⟨z, by rw [h1, hz], wf_u16 hwf⟩)
    refine ⟨some a, len, cap, (List.range len).map f, rfl, ⟨by simp; omega, fun i hi => ?_, some a, cap, by simp, fun hp => ?_⟩, by simp⟩
    · simp only [List.length_map, List.length_range] at hi
      have := (hf i hi).2
      simpa [at0, hi] using this
    simp only [List.length_map, List.length_range] at hp ⊢
    obtain ⟨b, o, rfl⟩ : ∃ b o, a = ⟨b, o, none⟩ := by
      have := (hf 0 hp).1
      simp only [Addr.add, if_true] at this
      exact plain_of this
    refine ⟨b, o, rfl, fun i hi => ?_⟩
    rw [← add_plain, (hf i hi).1]
    simp [at0, hi]
end
end Go.Proofs.YtlcakmbejjlmeaaGreat
