/- Plain laws: the women named in the moves, and the fewest calls. -/
import Derived.Test.YtlcakmbejjlmeaaGreatK15
set_option linter.unusedVariables false
set_option linter.unusedSimpArgs false
namespace Go.Proofs.YtlcakmbejjlmeaaGreat
open Go.RowKit
def addN (D : List Int) (x : Int) : List Int := if hasF D x = true then D else D ++ [x]
def namesK (moves : List Mov) : Nat → List Int
  | 0 => []
  | k + 1 => addN (addN (namesK moves k) (mSr moves k)) (mDs moves k)
theorem addN_mem (D : List Int) (x y : Int) : y ∈ addN D x ↔ y ∈ D ∨ y = x := by
  rw [addN]
  split
  · rename_i h
    rw [hasF_iff] at h
    exact ⟨.inl, fun h' => h'.elim id fun e => e ▸ h⟩
  · simp
theorem addN_nodup {D : List Int} (h : D.Nodup) (x : Int) : (addN D x).Nodup := by
  rw [addN]
  split
  · exact h
  · rename_i hx
    rw [hasF_iff] at hx
    rw [List.nodup_append]
    refine ⟨h, by simp, fun a ha b hb => ?_⟩
    rw [List.mem_singleton] at hb
    subst hb
    intro e
    subst e
    exact hx ha
theorem addN_len (D : List Int) (x : Int) : (addN D x).length ≤ D.length + 1 := by
  rw [addN]; split <;> simp
theorem namesK_mem (moves : List Mov) (y : Int) : ∀ k, y ∈ namesK moves k ↔ ∃ i, i < k ∧ (y = mSr moves i ∨ y = mDs moves i)
  | 0 => by simp [namesK]
  | k + 1 => by
    rw [namesK, addN_mem, addN_mem, namesK_mem moves y k]
    constructor
    · rintro ((⟨i, hi, h⟩ | h) | h)
      · exact ⟨i, by omega, h⟩
      · exact ⟨k, by omega, .inl h⟩
      · exact ⟨k, by omega, .inr h⟩
    · rintro ⟨i, hi, h⟩
      by_cases e : i = k
      · subst e
        rcases h with h | h
        · exact .inl (.inr h)
        · exact .inr h
      · exact .inl (.inl ⟨i, by omega, h⟩)
theorem namesK_nodup (moves : List Mov) : ∀ k, (namesK moves k).Nodup
  | 0 => by simp [namesK]
  | k + 1 => addN_nodup (addN_nodup (namesK_nodup moves k) _) _
theorem namesK_len (moves : List Mov) : ∀ k, (namesK moves k).length ≤ 2 * k
  | 0 => by simp [namesK]
  | k + 1 => by
    have h1 := namesK_len moves k
    have h2 := addN_len (namesK moves k) (mSr moves k)
    have h3 := addN_len (addN (namesK moves k) (mSr moves k)) (mDs moves k)
    rw [namesK]; omega
theorem nodup_le : ∀ (l m : List Int), l.Nodup → (∀ x ∈ l, x ∈ m) → l.length ≤ m.length
  | [], m, _, _ => by simp
  | x :: l, m, h, hs => by
    rw [List.nodup_cons] at h
    have hx := hs x (by simp)
    have ih := nodup_le l (m.erase x) h.2 (fun y hy => (List.mem_erase_of_ne (fun (e : y = x) => h.1 (by rw [← e]; exact hy))).2 (hs y (by simp [hy])))
    rw [List.length_erase_of_mem hx] at ih
    have : 0 < m.length := List.length_pos_of_mem hx
    simp only [List.length_cons]
    omega
section
variable {n : Nat} {moves : List Mov} (hinj : PInj moves) (hm : ∀ i, i < moves.length → (0 ≤ mSr moves i ∧ mSr moves i < n) ∧ (0 ≤ mDs moves i ∧ mDs moves i < n) ∧ mSr moves i ≠ mDs moves i)
include hm in
theorem names_bd {x : Int} (hx : x ∈ namesK moves moves.length) : 0 ≤ x ∧ x < n := by
  obtain ⟨i, hi, h⟩ := (namesK_mem moves x _).1 hx
  obtain ⟨h1, h2, _⟩ := hm i hi
  rcases h with rfl | rfl
  · exact h1
  · exact h2
include hm in
theorem names_le : (namesK moves moves.length).length ≤ n := by
  have h := nodup_le _ ((List.range n).map fun k : Nat => (k : Int)) (namesK_nodup moves moves.length) (fun x hx => by
    have := names_bd hm hx
    rw [List.mem_map]
    exact ⟨x.toNat, List.mem_range.2 (by omega), by omega⟩)
  simpa using h
include hinj in
theorem names_sub {l : List Int} (hb : bringsAll moves l [] = true) {x : Int} (hx : x ∈ namesK moves moves.length) : x ∈ l := by
  obtain ⟨i, hi, h⟩ := (namesK_mem moves x _).1 hx
  have h1 := (bringsAll_iff hinj l).1 hb i hi
  rw [brgB, broughtF_iff] at h1
  obtain ⟨p, q, hqp, hpl, h2, h3⟩ := h1
  rcases h with rfl | rfl
  · rw [← h2]; exact at0_mem (by omega)
  · rw [← h3]; exact at0_mem hpl
include hinj hm in
theorem names_lower (hn : n ≤ 4) : (namesK moves moves.length).length ≤ firstT (fewP n moves) 7 := by
  have h1 := firstT_spec (fewP n moves) 7
  have h4 := names_le hm
  by_cases h7 : firstT (fewP n moves) 7 < 7
  · have h2 := h1.2.2 h7
    generalize firstT (fewP n moves) 7 = f at h2 h7
    rw [fewP, List.any_eq_true] at h2
    obtain ⟨l, hl, hb⟩ := h2
    have h3 := (walksFrom_ok n f [] (preWalk_nil n) l hl).2
    have h5 := nodup_le _ l (namesK_nodup moves moves.length) (fun x hx => names_sub hinj hb hx)
    simp at h3
    omega
  · omega
theorem at0_idx {l : List Int} {x : Int} (h : x ∈ l) : ∃ i, i < l.length ∧ at0 l i = x := by
  obtain ⟨i, hi, e⟩ := List.mem_iff_getElem.1 h
  exact ⟨i, hi, by rw [at0_get hi, e]⟩
theorem at0_right {l l' : List Int} {i : Nat} (h : l.length ≤ i) : at0 (l ++ l') i = at0 l' (i - l.length) := by
  simp [at0, List.getD_eq_getElem?_getD, List.getElem?_append_right h]
include hinj hm in
theorem names_upper (hn : n ≤ 4) (hp : 0 < moves.length) : firstT (fewP n moves) 7 + 1 ≤ 2 * (namesK moves moves.length).length := by
  have h4 := names_le hm
  have hnd := namesK_nodup moves moves.length
  have hms : ∀ i, i < moves.length → mSr moves i ∈ namesK moves moves.length ∧ mDs moves i ∈ namesK moves moves.length := fun i hi => ⟨(namesK_mem _ _ _).2 ⟨i, hi, .inl rfl⟩, (namesK_mem _ _ _).2 ⟨i, hi, .inr rfl⟩⟩
  have hbd : ∀ x ∈ namesK moves moves.length, 0 ≤ x ∧ x < n := fun x hx => names_bd hm hx
  generalize namesK moves moves.length = D at h4 hnd hms hbd
  obtain ⟨m, hmm⟩ : ∃ m, D.length = m := ⟨_, rfl⟩
  have hinjD : ∀ i j, i < m → j < m → at0 D i = at0 D j → i = j := fun i j hi hj e => nodup_inj hnd (by omega) (by omega) e
  have hm2 : 2 ≤ m := by
    obtain ⟨i, hi, e1⟩ := at0_idx (hms 0 hp).1
    obtain ⟨j, hj, e2⟩ := at0_idx (hms 0 hp).2
    have := (hm 0 hp).2.2
    by_cases e : i = j
    · subst e; rw [e1] at e2; exact absurd e2 this
    · omega
  obtain ⟨Z, hZ⟩ : ∃ Z, D ++ D.take (m - 1) = Z := ⟨_, rfl⟩
  have hZl : Z.length = 2 * m - 1 := by rw [← hZ, List.length_append, List.length_take]; omega
  have hZ1 : ∀ i, i < m → at0 Z i = at0 D i := fun i hi => by rw [← hZ, at0_left (by omega)]
  have hZ2 : ∀ i, i < m - 1 → at0 Z (m + i) = at0 D i := fun i hi => by rw [← hZ, at0_right (by omega), hmm, show m + i - m = i from by omega, at0_take hi]
  have hZe : ∀ i, i < 2 * m - 1 → ∃ j, j < m ∧ at0 Z i = at0 D j ∧ j = if i < m then i else i - m := fun i hi => by
    by_cases h : i < m
    · exact ⟨i, h, hZ1 i h, by rw [if_pos h]⟩
    · have := hZ2 (i - m) (by omega)
      rw [show m + (i - m) = i from by omega] at this
      exact ⟨i - m, by omega, this, by rw [if_neg h]⟩
  have hok : WalkOk n Z := by
    refine ⟨by omega, fun i hi => ?_, fun i hi => ?_, fun i hi => ?_⟩
    · obtain ⟨j, hj, e, _⟩ := hZe i (by omega)
      rw [e]; exact (hbd _ (at0_mem (by omega))).1
    · obtain ⟨j, hj, e, _⟩ := hZe i (by omega)
      rw [e]; exact (hbd _ (at0_mem (by omega))).2
    · obtain ⟨j, hj, e, e2⟩ := hZe i (by omega)
      obtain ⟨j', hj', e', e2'⟩ := hZe (i + 1) (by omega)
      rw [e, e']
      intro h
      have h3 := hinjD _ _ hj' hj h
      rw [e2, e2'] at h3
      split at h3 <;> split at h3 <;> omega
  have hall : bringsAll moves Z [] = true := by
    rw [bringsAll_iff hinj]
    intro i hi
    obtain ⟨a, ha, e1⟩ := at0_idx (hms i hi).1
    obtain ⟨b, hb, e2⟩ := at0_idx (hms i hi).2
    have hne := (hm i hi).2.2
    rw [brgB, broughtF_iff]
    by_cases hab : a < b
    · exact ⟨b, a, hab, by omega, by rw [hZ1 a (by omega), e1], by rw [hZ1 b (by omega), e2]⟩
    · have hba : b < a := by
        rcases Nat.lt_or_ge b a with h | h
        · exact h
        · obtain rfl : a = b := by omega
          rw [e1] at e2; exact absurd e2 hne
      exact ⟨m + b, a, by omega, by omega, by rw [hZ1 a (by omega), e1], by rw [hZ2 b (by omega), e2]⟩
  have h5 := fewP_of hok hall
  have h6 := firstT_min (n := 7) h5
  have h7 := firstT_le (fewP n moves) 7
  rw [hmm]
  by_cases h8 : Z.length < 7
  · have := h6.2 h8; omega
  · omega
end
/-- Nothing to move. -/
theorem calls_none {women : List Wom} {pieces : List Pce} {wrong : Int} {home streets : List Rng} {start calls : Int} (he : errE women pieces wrong home streets start calls = 0) (h0 : movesF women pieces wrong = []) :
    fewestN women pieces wrong home streets start calls = 0 ∧ bestC women pieces wrong home streets start calls = 0 ∧ bestL women pieces wrong home streets start calls = [] ∧ bestN women pieces wrong home streets start calls = start := by
  have hz := errE_zero he
  have hw : WalkOk women.length [] := ⟨by simp, fun i hi => absurd hi (by simp), fun i hi => absurd hi (by simp), fun i hi => absurd hi (by simp)⟩
  have hb : bringsAll (movesF women pieces wrong) [] [] = true := by rw [h0]; rfl
  have hok : okB women.length home streets start calls (movesF women pieces wrong) [] = true := by
    rw [okB, hb, sureF, Bool.true_and, Bool.and_eq_true, decide_eq_true_eq, decide_eq_true_eq]
    refine ⟨by simp; omega, ?_⟩
    rw [lateF]; rfl
  have h1 : fewestN women pieces wrong home streets start calls = 0 := by
    have := fewest_le he hw hb
    rw [fewestN, if_pos he] at this ⊢
    simp at this ⊢
    omega
  by_cases hc : bestC women pieces wrong home streets start calls = 0
  · obtain ⟨z1, z2, z3, z4⟩ := best_zero he hc
    have h2 := z4 [] hw hok
    have h3 : bestL women pieces wrong home streets start calls = [] := by
      rw [betterF] at h2
      split at h2
      · rename_i hh
        simp at h2 hh
        exact h2
      · rename_i hh
        simp at hh
        exact List.eq_nil_of_length_eq_zero hh.symm
    exact ⟨h1, hc, h3, by rw [z3, h3]; rfl⟩
  · have := (best_ten he hc hw).2
    rw [hok] at this; simp at this
end Go.Proofs.YtlcakmbejjlmeaaGreat
