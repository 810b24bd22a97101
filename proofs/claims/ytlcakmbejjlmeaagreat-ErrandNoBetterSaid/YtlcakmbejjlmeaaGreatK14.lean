/- Plain laws: which lists are among the walks. -/
import Derived.Test.YtlcakmbejjlmeaaGreatK10
set_option linter.unusedVariables false
set_option linter.unusedSimpArgs false
namespace Go.Proofs.YtlcakmbejjlmeaaGreat
open Go.RowKit
/-- A walk's steps may be taken. -/
def okW (n : Nat) (walk : List Int) : List Nat → Prop
  | [] => True
  | k :: l => k < n ∧ endsAt walk k = false ∧ okW n (walk ++ [(k : Int)]) l
theorem mem_walksFrom (n : Nat) : ∀ (l : List Nat) (f : Nat) (walk : List Int), l.length ≤ f → okW n walk l → walk ++ l.map (fun k : Nat => (k : Int)) ∈ walksFrom n f walk
  | [], f, walk, _, _ => by
    cases f <;> simp [walksFrom]
  | k :: l, 0, walk, h, _ => by simp at h
  | k :: l, f + 1, walk, h, hk => by
    have ih := mem_walksFrom n l f (walk ++ [(k : Int)]) (by simp at h; omega) hk.2.2
    rw [walksFrom, List.mem_cons, List.mem_flatMap]
    refine .inr ⟨k, List.mem_range.2 hk.1, ?_⟩
    rw [if_neg (by rw [hk.2.1]; simp)]
    simpa using ih
instance okW_dec (n : Nat) : ∀ (walk : List Int) (l : List Nat), Decidable (okW n walk l)
  | _, [] => isTrue trivial
  | walk, k :: l => by
    have := okW_dec n (walk ++ [(k : Int)]) l
    unfold okW
    exact inferInstance
theorem firstT_le (P : Nat → Bool) : ∀ n, firstT P n ≤ n
  | 0 => by simp [firstT]
  | n + 1 => by have := firstT_le P n; rw [firstT]; split <;> (try split) <;> omega
end Go.Proofs.YtlcakmbejjlmeaaGreat
