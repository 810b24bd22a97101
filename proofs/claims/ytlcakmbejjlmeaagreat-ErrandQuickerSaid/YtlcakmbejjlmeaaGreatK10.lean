/- The contract of the reference's Moves. -/
import Derived.Test.YtlcakmbejjlmeaaGreatK9
set_option linter.unusedVariables false
set_option linter.unusedSimpArgs false
namespace Go.Proofs.YtlcakmbejjlmeaaGreat
open Go.RowKit

section
variable (A : Option Addr) (n wc : Nat) (S : Option Addr) (pn pc : Nat) (wrong : Int) (H : Option Addr) (hn hc : Nat) (T : Option Addr) (sn sc : Nat) (start calls : Int) (women : List Wom) (pieces : List Pce) (home streets : List Rng)
set_option maxHeartbeats 3200000 in
set_option maxRecDepth 100000 in
theorem movesR_c (w : World) (h : ErrAt w A n wc S pn pc H hn hc T sn sc women pieces home streets) (ha : askedE women pieces wrong = 0) :
    Calls Tryz.prog 38 #[.agg #[.slice A n wc, .slice S pn pc, .int .i64 wrong, .slice H hn hc, .slice T sn sc, .int .i64 start, .int .i64 calls]] w
      fun e w' => ∃ M mc, e = .returned (.slice M (movesF women pieces wrong).length mc) ∧ IsMovs w' (.slice M (movesF women pieces wrong).length mc) (movesF women pieces wrong) ∧ Ext w w' := by
  have KE := hid h
  have HPL := hid h.pl
  have HA := hid ha
  obtain ⟨htf, ht0, ht1, hp7, _⟩ := askedE_zero ha
  rw [h.pl] at hp7
  have HTF := hid htf
  obtain ⟨tn, htn⟩ : ∃ tn, (truLs women pieces wrong).length = tn := ⟨_, rfl⟩
  have HTN := hid htn
  have HTN2 : Hid ((truthsF women pieces wrong).length = tn) := hid (by rw [← truLs_len, htn])
  have htn0 : 0 < tn := by have := HTN2.out; omega
  obtain ⟨o, ho⟩ : ∃ o, bestF pieces (truthsF women pieces wrong) = o := ⟨_, rfl⟩
  have HO := hid ho
  have HMV : Hid (movesF women pieces wrong = movK pieces o (astrayF pieces o)) := hid (by rw [movesF, bestO, ho])
  clear h ha htf ht0 ht1 htn ho
  obtain ⟨W0, hWd⟩ : ∃ W0, w.alloc (.cells #[.slice A n wc, .slice S pn pc, .int .i64 wrong, .slice H hn hc, .slice T sn sc, .int .i64 start, .int .i64 calls] 28) = W0 := ⟨_, rfl⟩
  have hW0 : Ext w W0 := by rw [← hWd]; go_grown
  have b1 : W0.heap[w.heap.size]? = some (.cells #[.slice A n wc, .slice S pn pc, .int .i64 wrong, .slice H hn hc, .slice T sn sc, .int .i64 start, .int .i64 calls] 28 (0, 0)) := by rw [← hWd]; exact (by repeat (first | exact heap_alloc_at _ _ (by simp) | refine heap_alloc_keep ?_))
  have f1 := ext_blk b1
  have HW0 := hid hWd
  have B1 := hid b1
  have e0 : Ext W0 W0 := ext_refl W0
  clear hWd b1
  go_enter Tryz.func38, Tryz.ntmps38
  go_wp2
  rw [HW0.out]
  go_region_held3 (fun W => Ext W0 W)
    (first | exact Below.drew (by assumption) | assumption | exact ext_trans (by assumption) (by assumption))
    (first
      | (go_at_call 87; (with_reducible refine (truths_x ((KE.out.ext (ext_trans hW0 (by first | assumption | exact Below.drew (by assumption)))).tab) HTF.out).mono ?_); rintro e w2 ⟨TT, tc, rfl, htt, hB2⟩; rw [HTN.out] at htt ⊢; rw [truLs, HPL.out] at htt; have HTT := hid htt; clear htt)
      | (go_at_call 86; (with_reducible refine (fewestT_c A n wc women S pn pc pieces wrong _ ((KE.out.ext (ext_trans hW0 (by assumption))).tab) TT tn tc (truthsF women pieces wrong) (by exact HTT.out.ext (by first | exact ext_refl _ | assumption)) HTN2.out htn0).mono ?_); rintro e w3 ⟨BV, bvc, rfl, hbv, hB3⟩; rw [HO.out] at hbv; have HBV := hid hbv; clear hbv))
  have e3 : Ext W0 w3 := by assumption
  have HE3 := hid (ext_trans hW0 e3)
  have F1 := hid f1
  obtain ⟨al, hal⟩ : ∃ al, lostF pieces o = al := ⟨_, rfl⟩
  have HAL := hid hal
  clear hal
  go_wp2_with (go_at_call 88; (with_reducible refine (astrayR_c A n wc women S pn pc pieces wrong _ ((KE.out.ext HE3.out).tab) _ o HBV.out).mono ?_); rintro e w4 ⟨AV, avc, rfl, hav, hB4⟩; rw [HAL.out] at hav ⊢)
  have HAV := hid hav
  have e4 := ext_trans e3 hB4
  have HE4 := hid (ext_trans HE3.out hB4)
  have HBV4 := hid (HBV.out.ext hB4)
  have f4 : ∀ W, Ext w4 W → ∀ j, W.cell? ⟨w.heap.size, j, none⟩ = (#[.slice A n wc, .slice S pn pc, .int .i64 wrong, .slice H hn hc, .slice T sn sc, .int .i64 start, .int .i64 calls] : Array Value)[j]? := fun W h => F1.out W (ext_trans e4 h)
  have hal7 : al ≤ 7 := by have := lostF_le pieces o; have := HAL.out; have := HPL.out; omega
  clear hav f1
  go_loopw [5, 6] (fun out i wr => ∃ k : Nat, k ≤ al ∧ i = .int .i64 k ∧ wr.ownsRow w4.heap.size 126 3 out k (movCells (movK pieces o ((astrayF pieces o).take k))) ∧ Ext w4 wr) (fun _ i _ => al - (intOf i).toNat)
  case atStart => exact ⟨0, Nat.zero_le _, rfl, own_nil _ _ _ _, ext_refl _⟩
  case round =>
    obtain ⟨k, hk, rfl, hown, hE⟩ := hrel
    by_cases hlt : k < al
    · obtain ⟨a, hap, haa⟩ := astrayF_at (pieces := pieces) (o := o) (i := k) (by have := HAL.out; exact Nat.lt_of_lt_of_eq hlt this.symm)
      rw [HPL.out] at hap
      obtain ⟨vb, vo, hV, hvc⟩ := HAV.out.at (by omega)
      subst hV
      obtain ⟨bb, bo, hV, hbc⟩ := HBV4.out.at (by omega)
      subst hV
      have g0 := hvc k hlt
      rw [haa] at g0
      have g4 := hbc a hap
      rw [ownsL_at _ _ hap] at g4
      obtain ⟨pb, po, hV, hpcs⟩ := (KE.out.P.ext HE4.out).at (by omega)
      subst hV
      obtain ⟨mv', _, _, hbd⟩ := hpcs a hap
      have g1 := ext_cell g0 (ext_refl w4) (Nat.le_refl _)
      have g2 := ext_cell hbd (ext_refl w4) (Nat.le_refl _)
      have g3 := ext_cell g4 (ext_refl w4) (Nat.le_refl _)
      obtain ⟨O, oc, rfl⟩ := own_slice hown
      have hk0 : (0 : Int) ≤ (k : Int) := by omega
      have hk1 : (k : Int) < (al : Int) := by omega
      have hi0 : (0 : Int) ≤ (a : Int) := by omega
      have hi1 : (a : Int) < (pn : Int) := by omega
      have HOWN := hid hown
      have HAA := hid haa
      clear hvc hbc hpcs hbd hown haa g0 g4
      go_wp2
      go_region_held3 (fun W => Ext w4 W)
        (first | exact Below.drew (by assumption) | assumption | exact ext_trans (by assumption) (by assumption) | exact ext_alloc (by assumption) _ | exact Below.trans (by assumption) (by assumption) | go_grown)
        ((refine step_app_one (W0 := wr) (by rfl) _ _ 61 126 (by rfl) Tryz.underlying61 (.agg #[.int .i64 0, .int .i64 0, .int .i64 0]) 24 #[.int .i64 (a : Int), .int .i64 (pBd pieces a), .int .i64 (o a)] (by kernel_rfl) rfl (by simp) (by simp) (by decide) (by simp [Value.oneCell']) w4.heap.size _ k _ (by rfl) HOWN.out (by first | exact ext_alloc (ext_refl wr).drew _ | go_grown) _ (by rfl) (heap_alloc_at _ _ (by simp)) hE.size (by omega) ?_
          intro g cap w5 hown5 hB5 hg5 hor5))
      have hs := movK_succ pieces o (astrayF pieces o) k a (by have := HAL.out; exact Nat.lt_of_lt_of_eq hlt this.symm) HAA.out
      have e5 : Ext w4 w5 := by assumption
      have hrow : movCells (movK pieces o ((astrayF pieces o).take (k + 1))) = movCells (movK pieces o ((astrayF pieces o).take k)) ++ [.int .i64 (a : Int), .int .i64 (pBd pieces a), .int .i64 (o a)] := by
        rw [hs, movCells_append]; rfl
      have HROW := hid hrow
      clear hrow hs g1 g2 g3
      go_wp2
      go_roundw
      case rel => exact ⟨k + 1, hlt, by go_num, by rw [HROW.out]; exact hown5, e5⟩
      case measure => simp [intOf]; omega
    · obtain rfl : al = k := by omega
      obtain ⟨O, oc, rfl⟩ := own_slice hown
      have HOWN := hid hown
      clear hown f4
      go_wp2
      go_ret
      have h1 := HOWN.out
      rw [List.take_of_length_le (by have := HAL.out; rw [lostF] at this; omega)] at h1
      have h3 : (movesF women pieces wrong).length = al := by rw [HMV.out, movK_len]; exact HAL.out
      rw [h3, HMV.out]
      exact ⟨O, oc, rfl, own_movs (by rw [movK_len]; exact HAL.out) h1 (by omega), ext_trans HE4.out hE⟩
end
end Go.Proofs.YtlcakmbejjlmeaaGreat
/- The contracts of the reference's Brought, Brings, Pieces. -/
set_option linter.unusedVariables false
set_option linter.unusedSimpArgs false
namespace Go.Proofs.YtlcakmbejjlmeaaGreat
open Go.RowKit

/-- No call below i at b has an earlier one at a. -/
def NoB (walk : List Int) (a b : Int) (i : Nat) : Prop := ∀ i', i' < i → ∀ k, k < i' → ¬ (at0 walk k = a ∧ at0 walk i' = b)
def broughtF (walk : List Int) (a b : Int) : Bool := (List.range walk.length).any fun i => (List.range i).any fun k => decide (at0 walk k = a) && decide (at0 walk i = b)
theorem broughtF_iff (walk : List Int) (a b : Int) : broughtF walk a b = true ↔ ∃ i k, k < i ∧ i < walk.length ∧ at0 walk k = a ∧ at0 walk i = b := by
  unfold broughtF
  simp only [List.any_eq_true, List.mem_range, Bool.and_eq_true, decide_eq_true_eq]
  constructor
  · rintro ⟨i, hi, k, hk, h1, h2⟩; exact ⟨i, k, hk, hi, h1, h2⟩
  · rintro ⟨i, k, hk, hi, h1, h2⟩; exact ⟨i, hi, k, hk, h1, h2⟩
theorem broughtF_no {walk : List Int} {a b : Int} (h : NoB walk a b walk.length) : broughtF walk a b = false := by
  cases hx : broughtF walk a b
  · rfl
  · obtain ⟨i, k, hk, hi, h1, h2⟩ := (broughtF_iff _ _ _).1 hx
    exact absurd ⟨h1, h2⟩ (h i hi k hk)
set_option maxHeartbeats 1600000 in
set_option maxRecDepth 100000 in
theorem brought_c (wv : Value) (walk : List Int) (w : World) (hW : IsInts w wv walk) (p a b : Int) (y : Bool) (hy : Hid (broughtF walk a b = y)) :
    Calls Tryz.prog 89 #[wv, .agg #[.int .i64 p, .int .i64 a, .int .i64 b]] w fun e w' => e = .returned (.bool y) ∧ Ext w w' := by
  have KW := hid hW
  obtain ⟨V, vc, rfl⟩ := hW.val
  have hwl := hW.1
  obtain ⟨len, hlen⟩ : ∃ x, walk.length = x := ⟨_, rfl⟩
  have HLEN := hid hlen
  rw [hlen] at KW hwl ⊢
  clear hW hlen
  go_enter Tryz.func89, Tryz.ntmps89
  go_wp2
  go_loopw [5] (fun i wr => ∃ k : Nat, k ≤ len ∧ i = .int .i64 k ∧ Hid (NoB walk a b k) ∧ Ext w wr ∧ wr.heap[w.heap.size]? = some (.cells #[.int .i64 p, .int .i64 a, .int .i64 b] 126 (0, 0))) (fun i _ => len - (intOf i).toNat)
  case atStart => exact ⟨0, Nat.zero_le _, rfl, hid (fun i' h => absurd h (Nat.not_lt_zero i')), by go_grown, (by repeat (first | exact heap_alloc_at _ _ (by simp) | refine heap_alloc_keep ?_))⟩
  case round =>
    obtain ⟨i, hi, rfl, HN, hE, b1⟩ := hrel
    have B1 := hid b1
    clear b1
    by_cases hlt : i < len
    · obtain ⟨bb, bo, hV, hcell⟩ := (KW.out.ext hE).at (by omega)
      subst hV
      obtain ⟨x, hx⟩ : ∃ x, at0 walk i = x := ⟨_, rfl⟩
      have gi := hcell i hlt
      rw [hx] at gi
      have HX := hid hx
      have HCELL := hid hcell
      have GI := hid gi
      have hii0 : (0 : Int) ≤ (i : Int) := by omega
      have hii1 : (i : Int) < (len : Int) := by omega
      clear hx hcell gi
      go_wp2
      go_loopw [6] (fun j wz => ∃ k : Nat, k ≤ i ∧ j = .int .i64 k ∧ Hid (∀ k', k' < k → ¬ (at0 walk k' = a ∧ x = b)) ∧ Ext wr wz) (fun j _ => i - (intOf j).toNat)
      case atStart => exact ⟨0, Nat.zero_le _, rfl, hid (fun j h => absurd h (Nat.not_lt_zero j)), ext_refl _⟩
      case round =>
        obtain ⟨k, hk, rfl, HM, hE2⟩ := hrel
        have c1 := blk_cell (ext_blk_keep hE2 B1.out)
        by_cases hkl : k < i
        · obtain ⟨u, hu⟩ : ∃ u, at0 walk k = u := ⟨_, rfl⟩
          have g1 := cell_ext hE2 (HCELL.out k (by omega))
          rw [hu] at g1
          have g2 := cell_ext hE2 GI.out
          have HU := hid hu
          have hk0 : (0 : Int) ≤ (k : Int) := by omega
          have hk1 : (k : Int) < (len : Int) := by omega
          have hk2 : (k : Int) < (i : Int) := by omega
          clear hu
          by_cases h1 : u = a
          · subst h1
            have e1 : (u == u) = true := by simp
            by_cases h2 : x = b
            · subst h2
              have e2 : (x == x) = true := by simp
              go_wp2
              go_quiet (fail)
              clear c1 g1 g2
              go_wp2
              go_ret
              refine ⟨ret_bool ?_, by first | exact ext_drewN (ext_trans hE hE2) _ | exact ext_trans hE hE2⟩
              rw [← hy.out]
              exact ((broughtF_iff _ _ _).2 ⟨i, k, hkl, by rw [HLEN.out]; exact hlt, HU.out, HX.out⟩).symm
            · have e2 : (x == b) = false := beq_eq_false_iff_ne.2 h2
              go_wp2
              go_quiet (fail)
              clear c1 g1 g2
              go_wp2
              go_roundw
              case rel => exact ⟨k + 1, hkl, by go_num, hid (lt_or_eq_all HM.out (fun h => h2 h.2)), by first | exact ext_drewN hE2 _ | exact hE2⟩
              case measure => simp [intOf]; omega
          · have e1 : (u == a) = false := beq_eq_false_iff_ne.2 h1
            go_wp2
            go_quiet (fail)
            clear c1 g1 g2
            go_wp2
            go_roundw
            case rel => exact ⟨k + 1, hkl, by go_num, hid (lt_or_eq_all HM.out (fun h => h1 (by rw [← HU.out]; exact h.1))), by first | exact ext_drewN hE2 _ | exact hE2⟩
            case measure => simp [intOf]; omega
        · obtain rfl : i = k := by omega
          have hk2 : ¬ (i : Int) < (i : Int) := by omega
          go_wp2
          go_roundw
          case rel => exact ⟨i + 1, hlt, by go_num, hid (fun i' hi' => by
            rcases Nat.lt_succ_iff_lt_or_eq.1 hi' with h | rfl
            · exact HN.out i' h
            · intro k hk h; exact HM.out k hk ⟨h.1, by rw [← HX.out]; exact h.2⟩), ext_trans hE hE2, ext_blk_keep hE2 B1.out⟩
          case measure => simp [intOf]; omega
    · obtain rfl : len = i := by omega
      go_wp2
      go_ret
      exact ⟨ret_bool (by rw [← hy.out, broughtF_no (by rw [HLEN.out]; exact HN.out)]), hE⟩
end Go.Proofs.YtlcakmbejjlmeaaGreat
/- The contracts of the reference's Brings, Pieces. -/
set_option linter.unusedVariables false
set_option linter.unusedSimpArgs false
namespace Go.Proofs.YtlcakmbejjlmeaaGreat
open Go.RowKit

/-- Which of some moves a walk brings back, by bits. -/
def brgB (moves : List Mov) (walk : List Int) (i : Nat) : Bool := broughtF walk (mSr moves i) (mDs moves i)
def brgN (moves : List Mov) (walk : List Int) : Nat := bitsN (brgB moves walk) moves.length
set_option maxHeartbeats 1600000 in
set_option maxRecDepth 100000 in
theorem brings7_c (M : Option Addr) (mn mc : Nat) (moves : List Mov) (wv : Value) (walk : List Int) (w : World) (hM : IsMovs w (.slice M mn mc) moves) (hml : moves.length = mn) (hm7 : mn ≤ 7) (hW : IsInts w wv walk) (r : Nat) (hr : Hid (brgN moves walk = r)) :
    Calls Tryz.prog 40 #[.slice M mn mc, wv] w fun e w' => e = .returned (.int .i64 (r : Int)) ∧ Ext w w' := by
  have KM := hid hM
  have KW := hid hW
  have HR : Hid (bitsN (brgB moves walk) mn = r) := hid (by rw [← hr.out, brgN, hml])
  obtain ⟨V, vc, rfl⟩ := hW.val
  clear hM hW hml
  go_enter Tryz.func40, Tryz.ntmps40
  go_wp2
  go_loopw [5, 6] (fun m i wr => ∃ (k a : Nat), k ≤ mn ∧ i = .int .i64 k ∧ m = .int .i64 (a : Int) ∧ Hid (bitsN (brgB moves walk) k = a) ∧ Ext w wr) (fun _ i _ => mn - (intOf i).toNat)
  case atStart => exact ⟨0, 0, Nat.zero_le _, rfl, rfl, hid rfl, ext_refl _⟩
  case round =>
    obtain ⟨k, a, hk, rfl, rfl, ha, hE⟩ := hrel
    by_cases hlt : k < mn
    · obtain ⟨b, o, hV, hcell⟩ := (KM.out.ext hE).at (by omega)
      subst hV
      obtain ⟨g1, g2, g3⟩ := hcell k hlt
      obtain ⟨p, hp⟩ : ∃ x, mPc moves k = x := ⟨_, rfl⟩
      obtain ⟨sr, hsr⟩ : ∃ x, mSr moves k = x := ⟨_, rfl⟩
      obtain ⟨ds, hds⟩ : ∃ x, mDs moves k = x := ⟨_, rfl⟩
      rw [hp] at g1
      rw [hsr] at g2
      rw [hds] at g3
      obtain ⟨x, hx⟩ : ∃ x, broughtF walk sr ds = x := ⟨_, rfl⟩
      have HX := hid hx
      have hs : Hid (bitsN (brgB moves walk) (k + 1) = a + if x then 2 ^ k else 0) := hid (by rw [bitsN, ha.out, brgB, hsr, hds, hx])
      have hal : a < 2 ^ k := by rw [← ha.out]; exact bitsN_lt _ _
      have hi0 : (0 : Int) ≤ (k : Int) := by omega
      have hi1 : (k : Int) < (mn : Int) := by omega
      clear hcell hp hsr hds hx
      cases x
      · go_wp2_with (go_at_call 89; refine (brought_c _ walk _ (KW.out.ext (ext_trans hE (by first | exact ext_refl _ | go_grown))) p sr ds _ HX).mono ?_; rintro e w1 ⟨rfl, hB1⟩)
        go_roundw
        case rel => exact ⟨k + 1, a, hlt, by go_num, rfl, hid (by rw [hs.out]; simp), ext_trans hE hB1⟩
        case measure => simp [intOf]; omega
      · have hk' : k = 0 ∨ k = 1 ∨ k = 2 ∨ k = 3 ∨ k = 4 ∨ k = 5 ∨ k = 6 := by omega
        rcases hk' with rfl | rfl | rfl | rfl | rfl | rfl | rfl
        · simp only [Nat.zero_mul, Nat.add_zero] at g1 g2 g3
          have hor : bits .or .i64 (a : Int) 1 = ((a + 1 : Nat) : Int) := bits_or (k := 0) hal (by omega)
          go_wp2_with (go_at_call 89; refine (brought_c _ walk _ (KW.out.ext (ext_trans hE (by first | exact ext_refl _ | go_grown))) p sr ds _ HX).mono ?_; rintro e w1 ⟨rfl, hB1⟩)
          go_roundw
          case rel => exact ⟨0 + 1, a + 1, hlt, rfl, rfl, hid (by rw [hs.out]; rfl), ext_trans hE hB1⟩
          case measure => simp [intOf] <;> omega
        · skip
          have hor : bits .or .i64 (a : Int) 2 = ((a + 2 : Nat) : Int) := bits_or (k := 1) hal (by omega)
          go_wp2_with (go_at_call 89; refine (brought_c _ walk _ (KW.out.ext (ext_trans hE (by first | exact ext_refl _ | go_grown))) p sr ds _ HX).mono ?_; rintro e w1 ⟨rfl, hB1⟩)
          go_roundw
          case rel => exact ⟨1 + 1, a + 2, hlt, rfl, rfl, hid (by rw [hs.out]; rfl), ext_trans hE hB1⟩
          case measure => simp [intOf] <;> omega
        · skip
          have hor : bits .or .i64 (a : Int) 4 = ((a + 4 : Nat) : Int) := bits_or (k := 2) hal (by omega)
          go_wp2_with (go_at_call 89; refine (brought_c _ walk _ (KW.out.ext (ext_trans hE (by first | exact ext_refl _ | go_grown))) p sr ds _ HX).mono ?_; rintro e w1 ⟨rfl, hB1⟩)
          go_roundw
          case rel => exact ⟨2 + 1, a + 4, hlt, rfl, rfl, hid (by rw [hs.out]; rfl), ext_trans hE hB1⟩
          case measure => simp [intOf] <;> omega
        · skip
          have hor : bits .or .i64 (a : Int) 8 = ((a + 8 : Nat) : Int) := bits_or (k := 3) hal (by omega)
          go_wp2_with (go_at_call 89; refine (brought_c _ walk _ (KW.out.ext (ext_trans hE (by first | exact ext_refl _ | go_grown))) p sr ds _ HX).mono ?_; rintro e w1 ⟨rfl, hB1⟩)
          go_roundw
          case rel => exact ⟨3 + 1, a + 8, hlt, rfl, rfl, hid (by rw [hs.out]; rfl), ext_trans hE hB1⟩
          case measure => simp [intOf] <;> omega
        · skip
          have hor : bits .or .i64 (a : Int) 16 = ((a + 16 : Nat) : Int) := bits_or (k := 4) hal (by omega)
          go_wp2_with (go_at_call 89; refine (brought_c _ walk _ (KW.out.ext (ext_trans hE (by first | exact ext_refl _ | go_grown))) p sr ds _ HX).mono ?_; rintro e w1 ⟨rfl, hB1⟩)
          go_roundw
          case rel => exact ⟨4 + 1, a + 16, hlt, rfl, rfl, hid (by rw [hs.out]; rfl), ext_trans hE hB1⟩
          case measure => simp [intOf] <;> omega
        · skip
          have hor : bits .or .i64 (a : Int) 32 = ((a + 32 : Nat) : Int) := bits_or (k := 5) hal (by omega)
          go_wp2_with (go_at_call 89; refine (brought_c _ walk _ (KW.out.ext (ext_trans hE (by first | exact ext_refl _ | go_grown))) p sr ds _ HX).mono ?_; rintro e w1 ⟨rfl, hB1⟩)
          go_roundw
          case rel => exact ⟨5 + 1, a + 32, hlt, rfl, rfl, hid (by rw [hs.out]; rfl), ext_trans hE hB1⟩
          case measure => simp [intOf] <;> omega
        · skip
          have hor : bits .or .i64 (a : Int) 64 = ((a + 64 : Nat) : Int) := bits_or (k := 6) hal (by omega)
          go_wp2_with (go_at_call 89; refine (brought_c _ walk _ (KW.out.ext (ext_trans hE (by first | exact ext_refl _ | go_grown))) p sr ds _ HX).mono ?_; rintro e w1 ⟨rfl, hB1⟩)
          go_roundw
          case rel => exact ⟨6 + 1, a + 64, hlt, rfl, rfl, hid (by rw [hs.out]; rfl), ext_trans hE hB1⟩
          case measure => simp [intOf] <;> omega
    · obtain rfl : k = mn := by omega
      go_wp2
      go_ret
      exact ⟨ret_int (by rw [← HR.out, ha.out]), hE⟩
/-- The pieces of the moves with these bits. -/
def picksF (moves : List Mov) (x k : Nat) : List Int := ((List.range k).filter fun i => decide (x / 2 ^ i % 2 = 1)).map (mPc moves)
theorem picksF_succ (moves : List Mov) (x k : Nat) : picksF moves x (k + 1) = picksF moves x k ++ if decide (x / 2 ^ k % 2 = 1) = true then [mPc moves k] else [] := by
  unfold picksF
  rw [List.range_succ, List.filter_append, List.map_append]
  by_cases h : x / 2 ^ k % 2 = 1 <;> simp [List.filter_cons, h]
theorem picksF_len (moves : List Mov) (x k : Nat) : (picksF moves x k).length ≤ k := by
  unfold picksF; rw [List.length_map]; exact Nat.le_trans (List.length_filter_le _ _) (by simp)
set_option maxHeartbeats 1600000 in
set_option maxRecDepth 100000 in
theorem pieces7_c (M : Option Addr) (mn mc : Nat) (moves : List Mov) (x : Nat) (w : World) (hM : IsMovs w (.slice M mn mc) moves) (hml : moves.length = mn) (hm7 : mn ≤ 7) (hx : x < 128) (L : List Int) (ln : Nat) (hL : Hid (picksF moves x mn = L)) (hln : Hid (L.length = ln)) :
    Calls Tryz.prog 39 #[.slice M mn mc, .int .i64 (x : Int)] w fun e w' => ∃ V vc, e = .returned (.slice V ln vc) ∧ IsInts w' (.slice V ln vc) L ∧ Ext w w' := by
  have KM := hid hM
  obtain ⟨F, hF⟩ : ∃ F, picksF moves x = F := ⟨_, rfl⟩
  have HFS : Hid (∀ k, F (k + 1) = F k ++ if decide (x / 2 ^ k % 2 = 1) = true then [mPc moves k] else []) := hid (by rw [← hF]; exact picksF_succ _ _)
  have HFL : Hid (∀ k, (F k).length ≤ k) := hid (by rw [← hF]; exact picksF_len _ _)
  have HF0 : Hid (F 0 = []) := hid (by rw [← hF]; rfl)
  have HFE : Hid (F mn = L) := hid (by rw [← hF]; exact hL.out)
  clear hM hml hF
  go_enter Tryz.func39, Tryz.ntmps39
  go_wp2
  go_loopw [5, 6] (fun out i wr => ∃ k : Nat, k ≤ mn ∧ i = .int .i64 k ∧ wr.ownsRow w.heap.size 3 1 out (F k).length ((F k).map (Value.int .i64)) ∧ Ext w wr) (fun _ i _ => mn - (intOf i).toNat)
  case atStart => exact ⟨0, Nat.zero_le _, rfl, by rw [HF0.out]; exact own_nil _ _ _ _, ext_refl _⟩
  case round =>
    obtain ⟨k, hk, rfl, hown, hE⟩ := hrel
    have HO := hid hown
    clear hown
    by_cases hlt : k < mn
    · obtain ⟨b, o, hV, hcell⟩ := (KM.out.ext hE).at (by omega)
      subst hV
      obtain ⟨g1, g2, g3⟩ := hcell k hlt
      obtain ⟨p, hp⟩ : ∃ x, mPc moves k = x := ⟨_, rfl⟩
      rw [hp] at g1
      have hs := HFS.out k
      rw [hp] at hs
      have HS := hid hs
      have hol := HFL.out k
      have hi0 : (0 : Int) ≤ (k : Int) := by omega
      have hi1 : (k : Int) < (mn : Int) := by omega
      clear hcell hp hs g2 g3
      have hk' : k = 0 ∨ k = 1 ∨ k = 2 ∨ k = 3 ∨ k = 4 ∨ k = 5 ∨ k = 6 := by omega
      rcases hk' with rfl | rfl | rfl | rfl | rfl | rfl | rfl
      · simp only [Nat.zero_mul, Nat.add_zero] at g1
        by_cases h2 : (x : Int) % 2 = 1
        · go_wp2_with (at_builtin; refine app_intH rfl _ _ 29 3 rfl Tryz.underlying29 info_int w.heap.size _ (F 0).length (F 0) p _ rfl rfl (by simp) (by exact HO.out) (by exact hE.size) (by omega) ?_; intro g cap w2 hown2 hB2 hg2 hlt2 hbg2)
          go_roundw
          case rel => exact ⟨0 + 1, hlt, rfl, by rw [HS.out, if_pos (decide_eq_true (by omega))]; simpa using hown2, hE.trans hB2⟩
          case measure => simp [intOf] <;> omega
        · go_wp2
          go_roundw
          case rel => exact ⟨0 + 1, hlt, rfl, by rw [HS.out, if_neg (by simp <;> omega), List.append_nil]; exact HO.out, hE⟩
          case measure => simp [intOf] <;> omega
      · skip
        by_cases h2 : ((x : Int) / 2) % 2 = 1
        · go_wp2_with (at_builtin; refine app_intH rfl _ _ 29 3 rfl Tryz.underlying29 info_int w.heap.size _ (F 1).length (F 1) p _ rfl rfl (by simp) (by exact HO.out) (by exact hE.size) (by omega) ?_; intro g cap w2 hown2 hB2 hg2 hlt2 hbg2)
          go_roundw
          case rel => exact ⟨1 + 1, hlt, rfl, by rw [HS.out, if_pos (decide_eq_true (by omega))]; simpa using hown2, hE.trans hB2⟩
          case measure => simp [intOf] <;> omega
        · go_wp2
          go_roundw
          case rel => exact ⟨1 + 1, hlt, rfl, by rw [HS.out, if_neg (by simp <;> omega), List.append_nil]; exact HO.out, hE⟩
          case measure => simp [intOf] <;> omega
      · skip
        by_cases h2 : ((x : Int) / 4) % 2 = 1
        · go_wp2_with (at_builtin; refine app_intH rfl _ _ 29 3 rfl Tryz.underlying29 info_int w.heap.size _ (F 2).length (F 2) p _ rfl rfl (by simp) (by exact HO.out) (by exact hE.size) (by omega) ?_; intro g cap w2 hown2 hB2 hg2 hlt2 hbg2)
          go_roundw
          case rel => exact ⟨2 + 1, hlt, rfl, by rw [HS.out, if_pos (decide_eq_true (by omega))]; simpa using hown2, hE.trans hB2⟩
          case measure => simp [intOf] <;> omega
        · go_wp2
          go_roundw
          case rel => exact ⟨2 + 1, hlt, rfl, by rw [HS.out, if_neg (by simp <;> omega), List.append_nil]; exact HO.out, hE⟩
          case measure => simp [intOf] <;> omega
      · skip
        by_cases h2 : ((x : Int) / 8) % 2 = 1
        · go_wp2_with (at_builtin; refine app_intH rfl _ _ 29 3 rfl Tryz.underlying29 info_int w.heap.size _ (F 3).length (F 3) p _ rfl rfl (by simp) (by exact HO.out) (by exact hE.size) (by omega) ?_; intro g cap w2 hown2 hB2 hg2 hlt2 hbg2)
          go_roundw
          case rel => exact ⟨3 + 1, hlt, rfl, by rw [HS.out, if_pos (decide_eq_true (by omega))]; simpa using hown2, hE.trans hB2⟩
          case measure => simp [intOf] <;> omega
        · go_wp2
          go_roundw
          case rel => exact ⟨3 + 1, hlt, rfl, by rw [HS.out, if_neg (by simp <;> omega), List.append_nil]; exact HO.out, hE⟩
          case measure => simp [intOf] <;> omega
      · skip
        by_cases h2 : ((x : Int) / 16) % 2 = 1
        · go_wp2_with (at_builtin; refine app_intH rfl _ _ 29 3 rfl Tryz.underlying29 info_int w.heap.size _ (F 4).length (F 4) p _ rfl rfl (by simp) (by exact HO.out) (by exact hE.size) (by omega) ?_; intro g cap w2 hown2 hB2 hg2 hlt2 hbg2)
          go_roundw
          case rel => exact ⟨4 + 1, hlt, rfl, by rw [HS.out, if_pos (decide_eq_true (by omega))]; simpa using hown2, hE.trans hB2⟩
          case measure => simp [intOf] <;> omega
        · go_wp2
          go_roundw
          case rel => exact ⟨4 + 1, hlt, rfl, by rw [HS.out, if_neg (by simp <;> omega), List.append_nil]; exact HO.out, hE⟩
          case measure => simp [intOf] <;> omega
      · skip
        by_cases h2 : ((x : Int) / 32) % 2 = 1
        · go_wp2_with (at_builtin; refine app_intH rfl _ _ 29 3 rfl Tryz.underlying29 info_int w.heap.size _ (F 5).length (F 5) p _ rfl rfl (by simp) (by exact HO.out) (by exact hE.size) (by omega) ?_; intro g cap w2 hown2 hB2 hg2 hlt2 hbg2)
          go_roundw
          case rel => exact ⟨5 + 1, hlt, rfl, by rw [HS.out, if_pos (decide_eq_true (by omega))]; simpa using hown2, hE.trans hB2⟩
          case measure => simp [intOf] <;> omega
        · go_wp2
          go_roundw
          case rel => exact ⟨5 + 1, hlt, rfl, by rw [HS.out, if_neg (by simp <;> omega), List.append_nil]; exact HO.out, hE⟩
          case measure => simp [intOf] <;> omega
      · skip
        by_cases h2 : ((x : Int) / 64) % 2 = 1
        · go_wp2_with (at_builtin; refine app_intH rfl _ _ 29 3 rfl Tryz.underlying29 info_int w.heap.size _ (F 6).length (F 6) p _ rfl rfl (by simp) (by exact HO.out) (by exact hE.size) (by omega) ?_; intro g cap w2 hown2 hB2 hg2 hlt2 hbg2)
          go_roundw
          case rel => exact ⟨6 + 1, hlt, rfl, by rw [HS.out, if_pos (decide_eq_true (by omega))]; simpa using hown2, hE.trans hB2⟩
          case measure => simp [intOf] <;> omega
        · go_wp2
          go_roundw
          case rel => exact ⟨6 + 1, hlt, rfl, by rw [HS.out, if_neg (by simp <;> omega), List.append_nil]; exact HO.out, hE⟩
          case measure => simp [intOf] <;> omega
    · obtain rfl : mn = k := by omega
      obtain ⟨O, oc, rfl⟩ := own_slice HO.out
      go_wp2
      go_ret
      have h1 := HO.out
      have h2 := HFL.out mn
      rw [HFE.out, hln.out] at h1 h2
      refine ⟨O, oc, by show Ending.returned (Value.slice O (F mn).length oc) = _; rw [HFE.out, hln.out], ?_, hE⟩
      exact own_ints h1 (by rw [hln.out]; omega)
end Go.Proofs.YtlcakmbejjlmeaaGreat
/- Plain lemmas: what the program's walk brings back is what the reference's does. -/
set_option linter.unusedVariables false
set_option linter.unusedSimpArgs false
namespace Go.Proofs.YtlcakmbejjlmeaaGreat
open Go.RowKit

/-- No piece is moved twice. -/
def PInj (moves : List Mov) : Prop := ∀ i j, i < moves.length → j < moves.length → mPc moves i = mPc moves j → i = j
theorem brIn_at {moves : List Mov} (hinj : PInj moves) (who : Int) (s : (Int → Bool) × (Int → Bool)) : ∀ j, j ≤ moves.length → ∀ i, i < moves.length →
    ((brIn moves who s j).1 (mPc moves i) = (s.1 (mPc moves i) || (decide (i < j) && decide (mDs moves i = who) && s.2 (mPc moves i)))) ∧
    ((brIn moves who s j).2 (mPc moves i) = (s.2 (mPc moves i) || (decide (i < j) && decide (mSr moves i = who))))
  | 0, _, i, hi => by simp [brIn]
  | j + 1, hj, i, hi => by
    obtain ⟨h1, h2⟩ := brIn_at hinj who s j (by omega) i hi
    rw [brIn, brStep]
    simp only
    by_cases hij : i = j
    · subst hij
      have h3 : decide (i < i) = false := by simp
      have h4 : decide (i < i + 1) = true := by simp
      rw [h3] at h1 h2
      simp only [Bool.false_and, Bool.or_false] at h1 h2
      rw [h4]
      constructor
      · by_cases hd : mDs moves i = who
        · by_cases ht : s.2 (mPc moves i) = true
          · rw [if_pos ⟨hd, by rw [h2]; exact ht⟩]; simp [addF, hd, ht]
          · rw [if_neg (fun h => ht (by rw [← h2]; exact h.2)), h1]; simp [ht]
        · rw [if_neg (fun h => hd h.1), h1]; simp [hd]
      · by_cases hs : mSr moves i = who
        · rw [if_pos hs]; simp [addF, hs]
        · rw [if_neg hs, h2]; simp [hs]
    · have hne : mPc moves i ≠ mPc moves j := fun h => hij (hinj i j hi (by omega) h)
      have h3 : decide (i < j + 1) = decide (i < j) := by
        by_cases h : i < j
        · rw [decide_eq_true h, decide_eq_true (by omega)]
        · rw [decide_eq_false h, decide_eq_false (by omega)]
      rw [h3]
      constructor
      · split
        · rw [← h1]; simp [addF, hne]
        · exact h1
      · split
        · rw [← h2]; simp [addF, hne]
        · exact h2
theorem brOut_at {moves : List Mov} (hinj : PInj moves) (walk : List Int) {i : Nat} (hi : i < moves.length) : ∀ k,
    ((brOut moves walk k).1 (mPc moves i) = true ↔ ∃ c j, j < c ∧ c < k ∧ at0 walk j = mSr moves i ∧ at0 walk c = mDs moves i) ∧
    ((brOut moves walk k).2 (mPc moves i) = true ↔ ∃ j, j < k ∧ at0 walk j = mSr moves i)
  | 0 => by simp [brOut]
  | k + 1 => by
    obtain ⟨h1, h2⟩ := brOut_at hinj walk hi k
    obtain ⟨h3, h4⟩ := brIn_at hinj (at0 walk k) (brOut moves walk k) moves.length (Nat.le_refl _) i hi
    rw [brOut, h3, h4, decide_eq_true hi]
    simp only [Bool.true_and, Bool.or_eq_true, Bool.and_eq_true, decide_eq_true_eq, h1, h2]
    constructor
    · constructor
      · rintro (⟨c, j, a, b, d, e⟩ | ⟨a, j, b, d⟩)
        · exact ⟨c, j, a, by omega, d, e⟩
        · exact ⟨k, j, b, by omega, d, a.symm⟩
      · rintro ⟨c, j, a, b, d, e⟩
        rcases Nat.lt_succ_iff_lt_or_eq.1 b with h | rfl
        · exact .inl ⟨c, j, a, h, d, e⟩
        · exact .inr ⟨e.symm, j, a, d⟩
    · constructor
      · rintro (⟨j, a, b⟩ | a)
        · exact ⟨j, by omega, b⟩
        · exact ⟨k, by omega, a.symm⟩
      · rintro ⟨j, a, b⟩
        rcases Nat.lt_succ_iff_lt_or_eq.1 a with h | rfl
        · exact .inl ⟨j, h, b⟩
        · exact .inr b.symm
theorem bringsF_at {moves : List Mov} (hinj : PInj moves) (walk : List Int) {i : Nat} (hi : i < moves.length) : bringsF moves walk (mPc moves i) = brgB moves walk i := by
  rw [Bool.eq_iff_iff, bringsF, (brOut_at hinj walk hi _).1, brgB, broughtF_iff]
theorem selK_nodup (P : Nat → Bool) (k : Nat) : (selK P k).Nodup := by
  unfold selK
  apply List.Pairwise.map (R := fun a b => a ≠ b)
  · intro a b h h'; exact h (by omega)
  · exact List.Pairwise.filter _ List.nodup_range
theorem at0_get {l : List Int} {i : Nat} (h : i < l.length) : at0 l i = l[i] := by simp [at0, List.getD_eq_getElem?_getD, List.getElem?_eq_getElem h]
theorem nodup_inj {l : List Int} (h : l.Nodup) {i j : Nat} (hi : i < l.length) (hj : j < l.length) (he : at0 l i = at0 l j) : i = j := by
  rw [at0_get hi, at0_get hj] at he
  rcases Nat.lt_trichotomy i j with h1 | h1 | h1
  · exact absurd he (List.pairwise_iff_getElem.1 h i j hi hj h1)
  · exact h1
  · exact absurd he.symm (List.pairwise_iff_getElem.1 h j i hj hi h1)
theorem movK_pc (pieces : List Pce) (o : Nat → Int) (l : List Int) {i : Nat} (h : i < l.length) : mPc (movK pieces o l) i = at0 l i := by
  simp [mPc, movK, at0, List.getD_eq_getElem?_getD, List.getElem?_eq_getElem h]
theorem movesF_inj (women : List Wom) (pieces : List Pce) (wrong : Int) : PInj (movesF women pieces wrong) := by
  intro i j hi hj he
  rw [movesF, movK_len] at hi hj
  rw [movesF, movK_pc _ _ _ hi, movK_pc _ _ _ hj] at he
  exact nodup_inj (selK_nodup _ _) hi hj he
/-- A number's bit. -/
theorem bitsN_bit (P : Nat → Bool) : ∀ n i, i < n → (bitsN P n / 2 ^ i % 2 = 1 ↔ P i = true)
  | 0, i, h => absurd h (Nat.not_lt_zero i)
  | n + 1, i, h => by
    rw [bitsN]
    have hlt := bitsN_lt P n
    by_cases hin : i = n
    · subst hin
      cases hp : P i
      · simp only [Bool.false_eq_true, if_false, Nat.add_zero, iff_false]
        rw [Nat.div_eq_of_lt hlt]; simp
      · simp only [if_true, iff_true]
        rw [Nat.add_div_right _ (Nat.pow_pos (by decide)), Nat.div_eq_of_lt hlt]
    · have ih := bitsN_bit P n i (by omega)
      cases hp : P n
      · simp only [Bool.false_eq_true, if_false, Nat.add_zero]; exact ih
      · simp only [if_true]
        rw [← ih]
        have e : 2 ^ n = 2 ^ i * (2 * 2 ^ (n - i - 1)) := by
          rw [← Nat.mul_assoc, ← Nat.pow_succ, ← Nat.pow_add]
          congr 1; omega
        rw [e, Nat.add_mul_div_left _ _ (Nat.pow_pos (by decide)), Nat.add_mul_mod_self_left]
theorem picksF_bits (moves : List Mov) (P : Nat → Bool) : picksF moves (bitsN P moves.length) moves.length = ((List.range moves.length).filter P).map (mPc moves) := by
  unfold picksF
  congr 1
  apply List.filter_congr
  intro i hi
  rw [Bool.eq_iff_iff, decide_eq_true_eq]
  exact bitsN_bit P _ i (List.mem_range.1 hi)
theorem selM_at {moves : List Mov} (hinj : PInj moves) (walk : List Int) : selM (bringsF moves walk) moves moves.length = picksF moves (brgN moves walk) moves.length := by
  rw [brgN, picksF_bits]
  unfold selM
  congr 1
  apply List.filter_congr
  intro i hi
  exact bringsF_at hinj walk (List.mem_range.1 hi)
theorem brgN_lt (moves : List Mov) (walk : List Int) : brgN moves walk < 2 ^ moves.length := bitsN_lt _ _
end Go.Proofs.YtlcakmbejjlmeaaGreat
