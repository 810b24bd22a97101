/- Plain laws: which lists are among the walks. -/
import Derived.Test.YtlcakmbejjlmeaaGreatK10
import Derived.Test.YtlcakmbejjlmeaaGreatK8
set_option linter.unusedVariables false
set_option linter.unusedSimpArgs false
namespace Go.Proofs.YtlcakmbejjlmeaaGreat
open Go.RowKit
/-- A walk's steps may be taken. -/
def okW (n : Nat) (walk : List Int) : List Nat → Prop
  | [] => True
  | k :: l => k < n ∧ endsAt walk k = false ∧ okW n (walk ++ [(k : Int)]) l
theorem mem_walksFrom (n : Nat) : ∀ (l : List Nat) (f : Nat) (walk : List Int), l.length ≤ f → okW n walk l → walk ++ l.map (fun k : Nat => (k : Int)) ∈ walksFrom n f walk
  | [], f, walk, _, _ => by
    cases f <;> simp [walksFrom]
  | k :: l, 0, walk, h, _ => by simp at h
  | k :: l, f + 1, walk, h, hk => by
    have ih := mem_walksFrom n l f (walk ++ [(k : Int)]) (by simp at h; omega) hk.2.2
    rw [walksFrom, List.mem_cons, List.mem_flatMap]
    refine .inr ⟨k, List.mem_range.2 hk.1, ?_⟩
    rw [if_neg (by rw [hk.2.1]; simp)]
    simpa using ih
instance okW_dec (n : Nat) : ∀ (walk : List Int) (l : List Nat), Decidable (okW n walk l)
  | _, [] => isTrue trivial
  | walk, k :: l => by
    have := okW_dec n (walk ++ [(k : Int)]) l
    unfold okW
    exact inferInstance
theorem firstT_le (P : Nat → Bool) : ∀ n, firstT P n ≤ n
  | 0 => by simp [firstT]
  | n + 1 => by have := firstT_le P n; rw [firstT]; split <;> (try split) <;> omega
theorem bestK_mem (pieces : List Pce) (os : List (Nat → Int)) (h : 0 < os.length) : ∀ k, k ≤ os.length → bestK pieces os k ∈ os
  | 0, _ => by
    rw [bestK, ow, List.getD_eq_getElem?_getD, List.getElem?_eq_getElem h]
    exact List.getElem_mem h
  | k + 1, hk => by
    rw [bestK]
    split
    · rw [ow, List.getD_eq_getElem?_getD, List.getElem?_eq_getElem (by omega)]
      exact List.getElem_mem (by omega)
    · exact bestK_mem pieces os h k (by omega)
theorem movK_sr (pieces : List Pce) (o : Nat → Int) {l : List Int} {i : Nat} (h : i < l.length) : mSr (movK pieces o l) i = pBd pieces (at0 l i).toNat := by
  simp [mSr, movK, at0, List.getD_eq_getElem?_getD, List.getElem?_eq_getElem h]
theorem movK_ds (pieces : List Pce) (o : Nat → Int) {l : List Int} {i : Nat} (h : i < l.length) : mDs (movK pieces o l) i = o (at0 l i).toNat := by
  simp [mDs, movK, at0, List.getD_eq_getElem?_getD, List.getElem?_eq_getElem h]
theorem movesF_bd {women : List Wom} {pieces : List Pce} {wrong : Int} (ha : askedE women pieces wrong = 0) {i : Nat} (hi : i < (movesF women pieces wrong).length) :
    (0 ≤ mSr (movesF women pieces wrong) i ∧ mSr (movesF women pieces wrong) i < women.length) ∧ (0 ≤ mDs (movesF women pieces wrong) i ∧ mDs (movesF women pieces wrong) i < women.length) ∧ mSr (movesF women pieces wrong) i ≠ mDs (movesF women pieces wrong) i := by
  obtain ⟨ht, h0, _⟩ := askedE_zero ha
  have hp := (tabFault_zero ht).2.2.2.2.1
  rw [movesF, movK_len] at hi
  obtain ⟨k, hk, he⟩ := astrayF_at hi
  have hm := at0_mem hi
  obtain ⟨k2, hk2, hp2, he2⟩ := (mem_selK _ _ _).1 hm
  have hkk : (at0 (astrayF pieces (bestO women pieces wrong)) i).toNat = k := by rw [he]; rfl
  have hk3 : k2 = k := by omega
  subst hk3
  rw [movesF, movK_sr _ _ hi, movK_ds _ _ hi, hkk]
  have hpk := hp k2 hk
  rw [pceOk, Bool.and_eq_true, Bool.and_eq_true, Bool.and_eq_true, decide_eq_true_eq, decide_eq_true_eq, decide_eq_true_eq, decide_eq_true_eq] at hpk
  have hb : bestO women pieces wrong ∈ truthsF women pieces wrong := bestK_mem _ _ h0 _ (Nat.le_refl _)
  rw [truthsF, List.mem_filter] at hb
  have hl := listsF_mem hb.1 k2 hk
  refine ⟨⟨hpk.1.2.1, by omega⟩, hl, ?_⟩
  rw [astP] at hp2
  simpa using hp2
theorem bringsAll_iff {moves : List Mov} (hinj : PInj moves) (walk : List Int) : bringsAll moves walk [] = true ↔ ∀ i, i < moves.length → brgB moves walk i = true := by
  rw [bringsAll, allT_iff]
  constructor
  · intro h i hi
    have := h i hi
    rw [bringsF_at hinj walk hi] at this
    simpa [hasF] using this
  · intro h i hi
    rw [bringsF_at hinj walk hi, h i hi]
    rfl
end Go.Proofs.YtlcakmbejjlmeaaGreat
