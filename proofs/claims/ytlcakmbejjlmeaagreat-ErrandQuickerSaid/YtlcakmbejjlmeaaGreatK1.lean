/- Words and lemmas that all later texts use: the data of the chapter in Lean, how they lie in memory, and small facts on worlds. -/
import Derived.Test.YtlcakmbejjlmeaaGreatProg
import Derived.WalkKit
import Derived.KernelRfl
import Derived.Handy
import Derived.WalkLawsBesides
import Derived.WalkSpells
import Derived.Deep.RegionHeld3
import Derived.Deep.AppendLies
import Derived.Maps.AppendAt
import Derived.Laws.CopyOwn
import Derived.Deep.QuietTactic
import Derived.BigQuiet
import Derived.Deep.OwnRows
set_option linter.unusedVariables false
set_option linter.unusedSimpArgs false
namespace Go.Proofs.YtlcakmbejjlmeaaGreat
open Go.RowKit

/-! ### Data -/
structure Rng where
  lo : Int
  hi : Int
structure Wom where
  mark : Int
  lo : Int
  hi : Int
structure Pce where
  marks : List Int
  bundle : Int
structure Mov where
  piece : Int
  src : Int
  dst : Int
instance : Inhabited Rng := ⟨⟨0, 0⟩⟩
instance : Inhabited Wom := ⟨⟨0, 0, 0⟩⟩
instance : Inhabited Pce := ⟨⟨[], 0⟩⟩
instance : Inhabited Mov := ⟨⟨0, 0, 0⟩⟩
def at0 (xs : List Int) (i : Nat) : Int := xs.getD i 0
def rLo (xs : List Rng) (i : Nat) : Int := (xs.getD i default).lo
def rHi (xs : List Rng) (i : Nat) : Int := (xs.getD i default).hi
def wMk (xs : List Wom) (i : Nat) : Int := (xs.getD i default).mark
def wLo (xs : List Wom) (i : Nat) : Int := (xs.getD i default).lo
def wHi (xs : List Wom) (i : Nat) : Int := (xs.getD i default).hi
def pMs (xs : List Pce) (i : Nat) : List Int := (xs.getD i default).marks
def pBd (xs : List Pce) (i : Nat) : Int := (xs.getD i default).bundle
def mPc (xs : List Mov) (i : Nat) : Int := (xs.getD i default).piece
def mSr (xs : List Mov) (i : Nat) : Int := (xs.getD i default).src
def mDs (xs : List Mov) (i : Nat) : Int := (xs.getD i default).dst

/-! ### Hidden facts, worlds -/
theorem hid {p : Prop} (h : p) : Hid p := h
abbrev Ext (w w' : World) : Prop := Below w.heap.size w w'
theorem ext_refl (w : World) : Ext w w := Below.refl _ _
theorem ext_trans {a b c : World} (h : Below a.heap.size a b) (k : Below b.heap.size b c) : Below a.heap.size a c := h.trans (k.mono h.size)
theorem ext_from {n : Nat} {a b c : World} (h : Below n a b) (k : Below b.heap.size b c) (hn : n ≤ b.heap.size) : Below n a c := h.trans (k.mono hn)
theorem wp_gen {P : Program} {c : Code} {Q : Exit → Act → World → Prop} {a : Act} {w : World} (h : ∀ W0, W0 = w → Code.wp P c Q a W0) : Code.wp P c Q a w := h w rfl
theorem calls_gen {P : Program} {f : FuncId} {args : Array Value} {w : World} {R : Ending → World → Prop} (h : ∀ W0, W0 = w → Calls P f args W0 R) : Calls P f args w R := h w rfl
theorem bcell {W w1 : World} (hb : Below W.heap.size W w1) : (∀ b o, b < W.heap.size → w1.cell? ⟨b, o, none⟩ = W.cell? ⟨b, o, none⟩) ∧ (∀ b o, b < W.heap.size → w1.frozen? ⟨b, o, none⟩ = W.frozen? ⟨b, o, none⟩) :=
  ⟨fun b o h => hb.cell (p := ⟨b, o, none⟩) h, fun b o h => hb.frozen (p := ⟨b, o, none⟩) h⟩
theorem cell_alloc_lt {w : World} (o : Obj) {b j : Nat} (h : b < w.heap.size) : (w.alloc o).cell? ⟨b, j, none⟩ = w.cell? ⟨b, j, none⟩ :=
  World.cell?_of_block (w := w) (Below.heap_alloc w o b h)
theorem cell_lt {w : World} {b j : Nat} {v : Value} (h : w.cell? ⟨b, j, none⟩ = some v) : b < w.heap.size := World.block_lt_of_cell? w ⟨b, j, none⟩ h
/-- A cell that stood when the call began stands in every world behind. -/
theorem ext_cell {n : Nat} {w W0 : World} {b j : Nat} {v : Value} (h : w.cell? ⟨b, j, none⟩ = some v) (hB : Below n w W0) (hn : w.heap.size ≤ n) : ∀ W, Ext W0 W → W.cell? ⟨b, j, none⟩ = some v := fun W hW => by
  have h1 := cell_lt h
  rw [hW.cell (p := ⟨b, j, none⟩) (Nat.lt_of_lt_of_le h1 hB.size), hB.cell (p := ⟨b, j, none⟩) (Nat.lt_of_lt_of_le h1 hn), h]
/-- A block of the call's own, in every world behind. -/
theorem ext_blk {W0 : World} {B : Nat} {cs : Array Value} {t : TypeId} {fr : Nat × Nat} (h : W0.heap[B]? = some (.cells cs t fr)) : ∀ W, Ext W0 W → ∀ j, W.cell? ⟨B, j, none⟩ = cs[j]? := fun W hW j => by
  have hlt : B < W0.heap.size := (Array.getElem?_eq_some_iff.1 h).1
  rw [hW.cell (p := ⟨B, j, none⟩) hlt]
  simp [World.cell?, h]
theorem blk_cell {w : World} {B : Nat} {cs : Array Value} {t : TypeId} {fr : Nat × Nat} (h : w.heap[B]? = some (.cells cs t fr)) : ∀ j, w.cell? ⟨B, j, none⟩ = cs[j]? := fun j => by simp [World.cell?, h]
theorem ext_blk_keep {W0 W : World} (hW : Ext W0 W) {B : Nat} {o : Obj} (h : W0.heap[B]? = some o) : W.heap[B]? = some o := by
  rw [hW.block B (Array.getElem?_eq_some_iff.1 h).1]; exact h
theorem heap_alloc_at (w : World) (o : Obj) {k : Nat} (h : k = w.heap.size) : (w.alloc o).heap[k]? = some o := by subst h; exact heap_alloc_new w o
theorem heap_alloc_if (w : World) (o : Obj) (k : Nat) : (w.alloc o).heap[k]? = if k = w.heap.size then some o else w.heap[k]? := by
  show (w.heap.push o)[k]? = _
  rw [Array.getElem?_push]
theorem heap_alloc_keep {w : World} {o o' : Obj} {k : Nat} (h : w.heap[k]? = some o') : (w.alloc o).heap[k]? = some o' := by
  rw [heap_alloc_if, if_neg (by have := (Array.getElem?_eq_some_iff.1 h).1; omega)]; exact h
theorem heap_set_keep {w : World} {B b j : Nat} {v : Value} {o : Obj} (hne : B ≠ b) (h : w.heap[B]? = some o) : (w.setCell ⟨b, j, none⟩ v).heap[B]? = some o := by rw [heap_setCell_other w ⟨b, j, none⟩ B v hne]; exact h
theorem heap_set_at {w : World} {B j : Nat} {v : Value} {cs cs' : Array Value} {t : TypeId} (h : w.heap[B]? = some (.cells cs t (0, 0))) (he : cs.setIfInBounds j v = cs') : (w.setCell ⟨B, j, none⟩ v).heap[B]? = some (.cells cs' t (0, 0)) := by subst he; exact heap_setCell_same w B j cs t v h
theorem heap_drew_keep {w : World} {B : Nat} {o : Obj} (h : w.heap[B]? = some o) : w.drew.heap[B]? = some o := h
theorem heap_set_same {w : World} {B j : Nat} {v : Value} {cs : Array Value} {t : TypeId} (h : w.heap[B]? = some (.cells cs t (0, 0))) (hv : cs[j]? = some v) : (w.setCell ⟨B, j, none⟩ v).heap[B]? = some (.cells cs t (0, 0)) :=
  heap_set_at h (by
    obtain ⟨hj, hv⟩ := Array.getElem?_eq_some_iff.1 hv
    subst hv
    apply Array.ext_getElem?
    intro i
    rw [Array.getElem?_setIfInBounds]
    by_cases hi : j = i
    · subst hi; rw [if_pos rfl, if_pos hj, Array.getElem?_eq_getElem hj]
    · rw [if_neg hi])
theorem arr10_set (cs : Array Value) (hs : cs.size = 10) (v0 v1 v2 v3 v4 v5 v6 v7 v8 v9 : Value) : ((((((((((cs.setIfInBounds 0 v0).setIfInBounds 1 v1).setIfInBounds 2 v2).setIfInBounds 3 v3).setIfInBounds 4 v4).setIfInBounds 5 v5).setIfInBounds 6 v6).setIfInBounds 7 v7).setIfInBounds 8 v8).setIfInBounds 9 v9) = #[v0, v1, v2, v3, v4, v5, v6, v7, v8, v9] := by
  apply Array.ext_getElem?
  intro i
  by_cases hi : i < 10
  · have hi' : i = 0 ∨ i = 1 ∨ i = 2 ∨ i = 3 ∨ i = 4 ∨ i = 5 ∨ i = 6 ∨ i = 7 ∨ i = 8 ∨ i = 9 := by omega
    rcases hi' with rfl | rfl | rfl | rfl | rfl | rfl | rfl | rfl | rfl | rfl <;> simp [hs]
  · rw [Array.getElem?_eq_none (by simp [hs]; omega), Array.getElem?_eq_none (by simp; omega)]
theorem set10 {w : World} {B : Nat} {cs : Array Value} {t : TypeId} (h : w.heap[B]? = some (.cells cs t (0, 0))) (hs : cs.size = 10) (v0 v1 v2 v3 v4 v5 v6 v7 v8 v9 : Value) :
    ((((((((((w.setCell ⟨B, 0, none⟩ v0).setCell ⟨B, 1, none⟩ v1).setCell ⟨B, 2, none⟩ v2).setCell ⟨B, 3, none⟩ v3).setCell ⟨B, 4, none⟩ v4).setCell ⟨B, 5, none⟩ v5).setCell ⟨B, 6, none⟩ v6).setCell ⟨B, 7, none⟩ v7).setCell ⟨B, 8, none⟩ v8).setCell ⟨B, 9, none⟩ v9).heap[B]? = some (.cells #[v0, v1, v2, v3, v4, v5, v6, v7, v8, v9] t (0, 0)) := by
  have h9 := heap_set_at (j := 9) (v := v9) (heap_set_at (j := 8) (v := v8) (heap_set_at (j := 7) (v := v7) (heap_set_at (j := 6) (v := v6) (heap_set_at (j := 5) (v := v5) (heap_set_at (j := 4) (v := v4) (heap_set_at (j := 3) (v := v3) (heap_set_at (j := 2) (v := v2) (heap_set_at (j := 1) (v := v1) (heap_set_at (j := 0) (v := v0) h rfl) rfl) rfl) rfl) rfl) rfl) rfl) rfl) rfl) rfl
  rw [h9, arr10_set cs hs]
theorem arr7_set (cs : Array Value) (hs : cs.size = 7) (v0 v1 v2 v3 v4 v5 v6 : Value) : (((((((cs.setIfInBounds 0 v0).setIfInBounds 1 v1).setIfInBounds 2 v2).setIfInBounds 3 v3).setIfInBounds 4 v4).setIfInBounds 5 v5).setIfInBounds 6 v6) = #[v0, v1, v2, v3, v4, v5, v6] := by
  apply Array.ext_getElem?
  intro i
  by_cases hi : i < 7
  · have hi' : i = 0 ∨ i = 1 ∨ i = 2 ∨ i = 3 ∨ i = 4 ∨ i = 5 ∨ i = 6 := by omega
    rcases hi' with rfl | rfl | rfl | rfl | rfl | rfl | rfl <;> simp [hs]
  · rw [Array.getElem?_eq_none (by simp [hs]; omega), Array.getElem?_eq_none (by simp; omega)]
theorem set7 {w : World} {B : Nat} {cs : Array Value} {t : TypeId} (h : w.heap[B]? = some (.cells cs t (0, 0))) (hs : cs.size = 7) (v0 v1 v2 v3 v4 v5 v6 : Value) :
    (((((((w.setCell ⟨B, 0, none⟩ v0).setCell ⟨B, 1, none⟩ v1).setCell ⟨B, 2, none⟩ v2).setCell ⟨B, 3, none⟩ v3).setCell ⟨B, 4, none⟩ v4).setCell ⟨B, 5, none⟩ v5).setCell ⟨B, 6, none⟩ v6).heap[B]? = some (.cells #[v0, v1, v2, v3, v4, v5, v6] t (0, 0)) := by
  have h6 := heap_set_at (j := 6) (v := v6) (heap_set_at (j := 5) (v := v5) (heap_set_at (j := 4) (v := v4) (heap_set_at (j := 3) (v := v3) (heap_set_at (j := 2) (v := v2) (heap_set_at (j := 1) (v := v1) (heap_set_at (j := 0) (v := v0) h rfl) rfl) rfl) rfl) rfl) rfl) rfl
  rw [h6, arr7_set cs hs]
theorem ret_int {k : IntKind} {a b : Int} (h : a = b) : Ending.returned (.int k a) = .returned (.int k b) := by rw [h]
theorem ret_bool {a b : Bool} (h : a = b) : Ending.returned (.bool a) = .returned (.bool b) := by rw [h]

/-! ### Slices -/
/-- 'v' reads as the list of whole numbers 'xs'. -/
def IsInts (w : World) (v : Value) (xs : List Int) : Prop :=
  xs.length ≤ 140737488355328 ∧ ∃ A c, v = .slice A xs.length c ∧ (0 < xs.length → ∃ b o, A = some ⟨b, o, none⟩ ∧ ∀ i, i < xs.length → w.cell? ⟨b, o + i, none⟩ = some (.int .i64 (at0 xs i)))
def IsRngs (w : World) (v : Value) (xs : List Rng) : Prop :=
  xs.length ≤ 140737488355328 ∧ ∃ A c, v = .slice A xs.length c ∧ (0 < xs.length → ∃ b o, A = some ⟨b, o, none⟩ ∧ ∀ i, i < xs.length → w.cell? ⟨b, o + i * 2, none⟩ = some (.int .i64 (rLo xs i)) ∧ w.cell? ⟨b, o + i * 2 + 1, none⟩ = some (.int .i64 (rHi xs i)))
def IsWoms (w : World) (v : Value) (xs : List Wom) : Prop :=
  xs.length ≤ 140737488355328 ∧ ∃ A c, v = .slice A xs.length c ∧ (0 < xs.length → ∃ b o, A = some ⟨b, o, none⟩ ∧ ∀ i, i < xs.length → w.cell? ⟨b, o + i * 3, none⟩ = some (.int .i64 (wMk xs i)) ∧ w.cell? ⟨b, o + i * 3 + 1, none⟩ = some (.int .i64 (wLo xs i)) ∧ w.cell? ⟨b, o + i * 3 + 2, none⟩ = some (.int .i64 (wHi xs i)))
def IsPces (w : World) (v : Value) (xs : List Pce) : Prop :=
  xs.length ≤ 140737488355328 ∧ ∃ A c, v = .slice A xs.length c ∧ (0 < xs.length → ∃ b o, A = some ⟨b, o, none⟩ ∧ ∀ i, i < xs.length → ∃ mv, w.cell? ⟨b, o + i * 2, none⟩ = some mv ∧ IsInts w mv (pMs xs i) ∧ w.cell? ⟨b, o + i * 2 + 1, none⟩ = some (.int .i64 (pBd xs i)))
def IsMovs (w : World) (v : Value) (xs : List Mov) : Prop :=
  xs.length ≤ 140737488355328 ∧ ∃ A c, v = .slice A xs.length c ∧ (0 < xs.length → ∃ b o, A = some ⟨b, o, none⟩ ∧ ∀ i, i < xs.length → w.cell? ⟨b, o + i * 3, none⟩ = some (.int .i64 (mPc xs i)) ∧ w.cell? ⟨b, o + i * 3 + 1, none⟩ = some (.int .i64 (mSr xs i)) ∧ w.cell? ⟨b, o + i * 3 + 2, none⟩ = some (.int .i64 (mDs xs i)))

theorem cell_ext {w w' : World} (h : Ext w w') {b j : Nat} {v : Value} (hc : w.cell? ⟨b, j, none⟩ = some v) : w'.cell? ⟨b, j, none⟩ = some v := (h.cell (p := ⟨b, j, none⟩) (cell_lt hc)).trans hc
theorem IsInts.ext {w w' : World} {v : Value} {xs : List Int} (h : IsInts w v xs) (e : Ext w w') : IsInts w' v xs := by
  obtain ⟨h0, A, c, hv, h1⟩ := h
  refine ⟨h0, A, c, hv, fun hn => ?_⟩
  obtain ⟨b, o, ha, hc⟩ := h1 hn
  exact ⟨b, o, ha, fun i hi => cell_ext e (hc i hi)⟩
theorem IsRngs.ext {w w' : World} {v : Value} {xs : List Rng} (h : IsRngs w v xs) (e : Ext w w') : IsRngs w' v xs := by
  obtain ⟨h0, A, c, hv, h1⟩ := h
  refine ⟨h0, A, c, hv, fun hn => ?_⟩
  obtain ⟨b, o, ha, hc⟩ := h1 hn
  exact ⟨b, o, ha, fun i hi => ⟨cell_ext e (hc i hi).1, cell_ext e (hc i hi).2⟩⟩
theorem IsWoms.ext {w w' : World} {v : Value} {xs : List Wom} (h : IsWoms w v xs) (e : Ext w w') : IsWoms w' v xs := by
  obtain ⟨h0, A, c, hv, h1⟩ := h
  refine ⟨h0, A, c, hv, fun hn => ?_⟩
  obtain ⟨b, o, ha, hc⟩ := h1 hn
  exact ⟨b, o, ha, fun i hi => ⟨cell_ext e (hc i hi).1, cell_ext e (hc i hi).2.1, cell_ext e (hc i hi).2.2⟩⟩
theorem IsMovs.ext {w w' : World} {v : Value} {xs : List Mov} (h : IsMovs w v xs) (e : Ext w w') : IsMovs w' v xs := by
  obtain ⟨h0, A, c, hv, h1⟩ := h
  refine ⟨h0, A, c, hv, fun hn => ?_⟩
  obtain ⟨b, o, ha, hc⟩ := h1 hn
  exact ⟨b, o, ha, fun i hi => ⟨cell_ext e (hc i hi).1, cell_ext e (hc i hi).2.1, cell_ext e (hc i hi).2.2⟩⟩
theorem IsPces.ext {w w' : World} {v : Value} {xs : List Pce} (h : IsPces w v xs) (e : Ext w w') : IsPces w' v xs := by
  obtain ⟨h0, A, c, hv, h1⟩ := h
  refine ⟨h0, A, c, hv, fun hn => ?_⟩
  obtain ⟨b, o, ha, hc⟩ := h1 hn
  refine ⟨b, o, ha, fun i hi => ?_⟩
  obtain ⟨mv, h2, h3, h4⟩ := hc i hi
  exact ⟨mv, cell_ext e h2, h3.ext e, cell_ext e h4⟩
theorem IsRngs.at {w : World} {A : Option Addr} {n c : Nat} {xs : List Rng} (h : IsRngs w (.slice A n c) xs) (hp : 0 < n) : ∃ b o, A = some ⟨b, o, none⟩ ∧ ∀ i, i < n → w.cell? ⟨b, o + i * 2, none⟩ = some (.int .i64 (rLo xs i)) ∧ w.cell? ⟨b, o + i * 2 + 1, none⟩ = some (.int .i64 (rHi xs i)) := by
  obtain ⟨_, A', c', hv, h1⟩ := h
  injection hv with h2 h3 h4
  subst h2; subst h3
  exact h1 hp
theorem IsInts.at {w : World} {A : Option Addr} {n c : Nat} {xs : List Int} (h : IsInts w (.slice A n c) xs) (hp : 0 < n) : ∃ b o, A = some ⟨b, o, none⟩ ∧ ∀ i, i < n → w.cell? ⟨b, o + i, none⟩ = some (.int .i64 (at0 xs i)) := by
  obtain ⟨_, A', c', hv, h1⟩ := h
  injection hv with h2 h3 h4
  subst h2; subst h3
  exact h1 hp
theorem IsWoms.at {w : World} {A : Option Addr} {n c : Nat} {xs : List Wom} (h : IsWoms w (.slice A n c) xs) (hp : 0 < n) : ∃ b o, A = some ⟨b, o, none⟩ ∧ ∀ i, i < n → w.cell? ⟨b, o + i * 3, none⟩ = some (.int .i64 (wMk xs i)) ∧ w.cell? ⟨b, o + i * 3 + 1, none⟩ = some (.int .i64 (wLo xs i)) ∧ w.cell? ⟨b, o + i * 3 + 2, none⟩ = some (.int .i64 (wHi xs i)) := by
  obtain ⟨_, A', c', hv, h1⟩ := h
  injection hv with h2 h3 h4
  subst h2; subst h3
  exact h1 hp
theorem IsPces.at {w : World} {A : Option Addr} {n c : Nat} {xs : List Pce} (h : IsPces w (.slice A n c) xs) (hp : 0 < n) : ∃ b o, A = some ⟨b, o, none⟩ ∧ ∀ i, i < n → ∃ mv, w.cell? ⟨b, o + i * 2, none⟩ = some mv ∧ IsInts w mv (pMs xs i) ∧ w.cell? ⟨b, o + i * 2 + 1, none⟩ = some (.int .i64 (pBd xs i)) := by
  obtain ⟨_, A', c', hv, h1⟩ := h
  injection hv with h2 h3 h4
  subst h2; subst h3
  exact h1 hp
theorem IsMovs.at {w : World} {A : Option Addr} {n c : Nat} {xs : List Mov} (h : IsMovs w (.slice A n c) xs) (hp : 0 < n) : ∃ b o, A = some ⟨b, o, none⟩ ∧ ∀ i, i < n → w.cell? ⟨b, o + i * 3, none⟩ = some (.int .i64 (mPc xs i)) ∧ w.cell? ⟨b, o + i * 3 + 1, none⟩ = some (.int .i64 (mSr xs i)) ∧ w.cell? ⟨b, o + i * 3 + 2, none⟩ = some (.int .i64 (mDs xs i)) := by
  obtain ⟨_, A', c', hv, h1⟩ := h
  injection hv with h2 h3 h4
  subst h2; subst h3
  exact h1 hp
theorem IsInts.val {w : World} {v : Value} {xs : List Int} (h : IsInts w v xs) : ∃ A c, v = .slice A xs.length c := let ⟨_, A, c, hv, _⟩ := h; ⟨A, c, hv⟩
theorem IsRngs.val {w : World} {v : Value} {xs : List Rng} (h : IsRngs w v xs) : ∃ A c, v = .slice A xs.length c := let ⟨_, A, c, hv, _⟩ := h; ⟨A, c, hv⟩
theorem IsWoms.val {w : World} {v : Value} {xs : List Wom} (h : IsWoms w v xs) : ∃ A c, v = .slice A xs.length c := let ⟨_, A, c, hv, _⟩ := h; ⟨A, c, hv⟩
theorem IsPces.val {w : World} {v : Value} {xs : List Pce} (h : IsPces w v xs) : ∃ A c, v = .slice A xs.length c := let ⟨_, A, c, hv, _⟩ := h; ⟨A, c, hv⟩
theorem IsMovs.val {w : World} {v : Value} {xs : List Mov} (h : IsMovs w v xs) : ∃ A c, v = .slice A xs.length c := let ⟨_, A, c, hv, _⟩ := h; ⟨A, c, hv⟩
theorem ext_drewN {n : Nat} {a w : World} (h : Below n a w) (k : Nat) : Below n a (w.drewN k) := ⟨h.os, h.tape, h.output, h.size, h.block⟩
theorem IsInts.nil (w : World) (c : Nat) : IsInts w (.slice none 0 c) [] := ⟨by simp, none, c, rfl, fun h => absurd h (by simp)⟩
theorem IsInts.nil' {w : World} {v : Value} (h : v = .slice none 0 0) : IsInts w v [] := h ▸ IsInts.nil w 0
/-- What the call owns reads as such. -/
theorem own_ints {w : World} {base n : Nat} {e : TypeId} {v : Value} {xs : List Int} (h : w.ownsRow base e 1 v n (xs.map (Value.int .i64))) (hn : xs.length ≤ 140737488355328) : IsInts w v xs := by
  have hl : xs.length = n := by have := h.1; simpa using this
  refine ⟨hn, ?_⟩
  rcases Nat.eq_zero_or_pos n with h0 | h0
  · rcases h.2 with ⟨rfl, _⟩ | ⟨g, cap, cur, rfl, _⟩
    · exact ⟨none, 0, by rw [hl, h0], fun hp => absurd hp (by omega)⟩
    · exact ⟨_, cap, by rw [hl], fun hp => absurd hp (by omega)⟩
  · obtain ⟨g, cap, rfl, _, _⟩ := h.form h0
    refine ⟨_, cap, by rw [hl], fun _ => ⟨g, 0, rfl, fun i hi => ?_⟩⟩
    have hc := h.cells (g := g) rfl i (.int .i64 (at0 xs i)) (by simp [at0, List.getElem?_eq_getElem hi, List.getD_eq_getElem?_getD])
    have ha : (⟨g, 0, none⟩ : Addr).add i = ⟨g, 0 + i, none⟩ := by unfold Addr.add; split <;> simp_all
    rwa [ha] at hc

theorem m10_at (m : Nat → Int) (k : Nat) (h : k < 10) : (#[.int .i64 (m 0), .int .i64 (m 1), .int .i64 (m 2), .int .i64 (m 3), .int .i64 (m 4), .int .i64 (m 5), .int .i64 (m 6), .int .i64 (m 7), .int .i64 (m 8), .int .i64 (m 9)] : Array Value)[k]? = some (.int .i64 (m k)) := by
  have : k = 0 ∨ k = 1 ∨ k = 2 ∨ k = 3 ∨ k = 4 ∨ k = 5 ∨ k = 6 ∨ k = 7 ∨ k = 8 ∨ k = 9 := by omega
  rcases this with rfl | rfl | rfl | rfl | rfl | rfl | rfl | rfl | rfl | rfl <;> rfl
theorem m7_at (m : Nat → Int) (k : Nat) (h : k < 7) : (#[.int .i64 (m 0), .int .i64 (m 1), .int .i64 (m 2), .int .i64 (m 3), .int .i64 (m 4), .int .i64 (m 5), .int .i64 (m 6)] : Array Value)[k]? = some (.int .i64 (m k)) := by
  have : k = 0 ∨ k = 1 ∨ k = 2 ∨ k = 3 ∨ k = 4 ∨ k = 5 ∨ k = 6 := by omega
  rcases this with rfl | rfl | rfl | rfl | rfl | rfl | rfl <;> rfl
/-- A function turned at one place. -/
def upd (m : Nat → Int) (k : Nat) (x : Int) : Nat → Int := fun i => if i = k then x else m i
theorem m10_set (m : Nat → Int) (k : Nat) (x : Int) (h : k < 10) : (#[.int .i64 (m 0), .int .i64 (m 1), .int .i64 (m 2), .int .i64 (m 3), .int .i64 (m 4), .int .i64 (m 5), .int .i64 (m 6), .int .i64 (m 7), .int .i64 (m 8), .int .i64 (m 9)] : Array Value).setIfInBounds k (.int .i64 x) = #[.int .i64 (upd m k x 0), .int .i64 (upd m k x 1), .int .i64 (upd m k x 2), .int .i64 (upd m k x 3), .int .i64 (upd m k x 4), .int .i64 (upd m k x 5), .int .i64 (upd m k x 6), .int .i64 (upd m k x 7), .int .i64 (upd m k x 8), .int .i64 (upd m k x 9)] := by
  have : k = 0 ∨ k = 1 ∨ k = 2 ∨ k = 3 ∨ k = 4 ∨ k = 5 ∨ k = 6 ∨ k = 7 ∨ k = 8 ∨ k = 9 := by omega
  rcases this with rfl | rfl | rfl | rfl | rfl | rfl | rfl | rfl | rfl | rfl <;> rfl
theorem m7_set (m : Nat → Int) (k : Nat) (x : Int) (h : k < 7) : (#[.int .i64 (m 0), .int .i64 (m 1), .int .i64 (m 2), .int .i64 (m 3), .int .i64 (m 4), .int .i64 (m 5), .int .i64 (m 6)] : Array Value).setIfInBounds k (.int .i64 x) = #[.int .i64 (upd m k x 0), .int .i64 (upd m k x 1), .int .i64 (upd m k x 2), .int .i64 (upd m k x 3), .int .i64 (upd m k x 4), .int .i64 (upd m k x 5), .int .i64 (upd m k x 6)] := by
  have : k = 0 ∨ k = 1 ∨ k = 2 ∨ k = 3 ∨ k = 4 ∨ k = 5 ∨ k = 6 := by omega
  rcases this with rfl | rfl | rfl | rfl | rfl | rfl | rfl <;> rfl

/-- The walk stops here: 'go_wp2_with (refine halt_at (o := ⟨some 5, _, _, _, _, _⟩) ?_)'; 'refine go_on ?_' takes it up again. -/
theorem halt_at {P : Program} {ops : Array Oper} {rest : List Oper} {o : Oper} {a : Act} {w : World} {Q : Exit → Act → World → Prop} (h : Hid (wpList P ops Q (o :: rest) a w)) : wpList P ops Q (o :: rest) a w := h
theorem go_on {p : Prop} (h : p) : Hid p := h
/-! ### append of one element -/
section
variable {P : Program} {ops : Array Oper} {rest : List Oper} {o : Oper} {a : Act} {Q : Exit → Act → World → Prop}
theorem app_cells {W : World} (hgd : o.guard = none) (s x : Operand) (t e : TypeId) (z : Value) (bytes : Nat) (cs : Array Value)
    (ho : o.op = .call { callee := .builtin .append, args := #[s, x], argTypes := #[t, t] }) (ht : P.underlying t = some (.slice e))
    (hinfo : (P.info? e).map (fun i => (i.zero, i.size, i.bytes)) = some (some z, cs.size, bytes)) (hzs : z.cells.size = cs.size) (hsz : 0 < cs.size) (hby : bytes ≤ 100) (h1 : ∀ u ∈ cs.toList, u.oneCell' = true)
    (base : Nat) (v : Value) (n : Nat) (xs : List Value) (hs : a.eval s = v) (hx : a.eval x = .slice (some ⟨W.heap.size, 0, none⟩) 1 1)
    (HO : W.ownsRow base e cs.size v n xs) (hbase : base ≤ W.heap.size) (hl : n ≤ 1000000)
    (h : ∀ g cap w1, w1.ownsRow base e cs.size (.slice (some ⟨g, 0, none⟩) (n + 1) cap) (n + 1) (xs ++ cs.toList) → Below base W w1 → W.grownBy w1 v.ownBlock → g < w1.heap.size → base ≤ g → wpList P ops Q rest (a.put o.dst (.slice (some ⟨g, 0, none⟩) (n + 1) cap)) w1) :
    wpList P ops Q (o :: rest) a (W.alloc (.cells cs e)) := by
  obtain ⟨i0, hi, hzz⟩ := Option.map_eq_some_iff.1 hinfo
  simp only [Prod.mk.injEq] at hzz
  obtain ⟨hz0, hz1, hz2⟩ := hzz
  refine wpList_append_lies (W.alloc (.cells cs e)) hgd s x t ho base e i0 z cs.size bytes ht hi hz0 hz1 hz2 hzs hsz v n xs hs (HO.alloc _) ⟨W.heap.size, 0, none⟩ 1 1 cs.toList hx (by simp)
    (World.news_of_block (heap_alloc_new W _)) h1 (by omega) (by simp only [maxLen]; omega) (Nat.le_trans (Nat.mul_le_mul (Nat.add_le_add_right hl 1) hby) (by decide)) (by simp; omega) (W.heap.size + 1) (by simp) ?_
  intro g cap w1 hown hg hgg hlt
  have hbg : base ≤ g := by
    rcases hown.2 with ⟨h', _⟩ | ⟨g', cap', cur, h', hb, _⟩
    · cases h'
    · injection h' with h'; injection h' with h'; injection h' with h'; omega
  have hown0 : ∀ k, v.ownBlock = some k → base ≤ k := by
    intro k hk
    rcases HO.2 with ⟨rfl, _⟩ | ⟨g', cap', cur, rfl, hb, _⟩
    · simp [Value.ownBlock] at hk
    · have : g' = k := by simpa [Value.ownBlock] using hk
      omega
  exact h g cap w1 hown (((Below.refl base W).alloc hbase _).grown hg (by simp; omega) hown0) (World.grownBy.trans (World.grownBy_alloc W _ _) hg) hlt hbg
theorem app_int {W : World} (hgd : o.guard = none) (s x : Operand) (t e : TypeId)
    (ho : o.op = .call { callee := .builtin .append, args := #[s, x], argTypes := #[t, t] }) (ht : P.underlying t = some (.slice e))
    (hinfo : (P.info? e).map (fun i => (i.zero, i.size, i.bytes)) = some (some (.int .i64 0), 1, 8))
    (base : Nat) (v : Value) (n : Nat) (xs : List Int) (y : Int) (hs : a.eval s = v) (hx : a.eval x = .slice (some ⟨W.heap.size, 0, none⟩) 1 1)
    (HO : W.ownsRow base e 1 v n (xs.map (Value.int .i64))) (hbase : base ≤ W.heap.size) (hl : n ≤ 1000000)
    (h : ∀ g cap w1, w1.ownsRow base e 1 (.slice (some ⟨g, 0, none⟩) (n + 1) cap) (n + 1) ((xs ++ [y]).map (Value.int .i64)) → Below base W w1 → W.grownBy w1 v.ownBlock → g < w1.heap.size → base ≤ g → wpList P ops Q rest (a.put o.dst (.slice (some ⟨g, 0, none⟩) (n + 1) cap)) w1) :
    wpList P ops Q (o :: rest) a (W.alloc (.cells #[.int .i64 y] e)) :=
  app_cells hgd s x t e (.int .i64 0) 8 #[.int .i64 y] ho ht hinfo rfl Nat.zero_lt_one (by decide) (by intro u hu; simp at hu; subst hu; rfl) base v n (xs.map (Value.int .i64)) hs hx HO hbase hl
    fun g cap w1 hown hB hg hlt hbg => h g cap w1 (by simpa using hown) hB hg hlt hbg
end
theorem own_nil (W : World) (base : Nat) (e : TypeId) (size : Nat) : W.ownsRow base e size (.slice none 0 0) 0 [] := ⟨by simp, .inl ⟨rfl, rfl⟩⟩
/-- What is owned stays owned where the old blocks stay. -/
theorem own_ext {w w1 : World} {base : Nat} {e : TypeId} {size n : Nat} {v : Value} {xs : List Value} (h : w.ownsRow base e size v n xs) (hb : Ext w w1) : w1.ownsRow base e size v n xs :=
  h.kept ⟨hb.os, hb.tape, hb.output, hb.size, fun i hi _ => hb.block i hi⟩ (row := none) (by cases v.ownBlock <;> simp)
theorem own_block {w : World} {base : Nat} {e : TypeId} {size n : Nat} {v : Value} {xs : List Value} (h : w.ownsRow base e size v n xs) (k : Nat) (hk : v.ownBlock = some k) : base ≤ k ∧ k < w.heap.size := by
  rcases h.2 with ⟨rfl, _⟩ | ⟨g, cap, cur, rfl, hb, hh, _⟩
  · simp [Value.ownBlock] at hk
  · have : g = k := by simpa [Value.ownBlock] using hk
    subst this
    exact ⟨hb, (Array.getElem?_eq_some_iff.1 hh).1⟩
/-- A block that is not the row that was written stands. -/
theorem grown_blk {W w1 : World} {v : Value} (hg : W.grownBy w1 v.ownBlock) {base : Nat} {e : TypeId} {size n : Nat} {xs : List Value} (h : W.ownsRow base e size v n xs) {B : Nat} {o : Obj} (hB : W.heap[B]? = some o) (hlt : B < base) : w1.heap[B]? = some o := by
  rw [hg.block B (Array.getElem?_eq_some_iff.1 hB).1 (fun e => by have := (own_block h B e.symm).1; omega)]; exact hB
theorem info_int : (Tryz.prog.info? 3).map (fun i => (i.zero, i.size, i.bytes)) = some (some (.int .i64 0), 1, 8) := by kernel_rfl

end Go.Proofs.YtlcakmbejjlmeaaGreat
/- The contracts of errand's smallest functions: the minimum of two, a street's index, the minute of one call. -/
set_option linter.unusedVariables false
set_option linter.unusedSimpArgs false
namespace Go.Proofs.YtlcakmbejjlmeaaGreat
open Go.RowKit

set_option maxHeartbeats 400000 in
theorem min2_c (a b m : Int) (hm : Hid (min a b = m)) (B : Nat) (w : World) (h0 : w.cell? ⟨B, 0, none⟩ = some (.int .i64 a)) (h1 : w.cell? ⟨B, 1, none⟩ = some (.int .i64 b)) :
    Calls Tryz.prog 157 #[.slice (some ⟨B, 0, none⟩) 2 2] w fun e w' => e = .returned (.int .i64 m) ∧ w = w' := by
  by_cases hab : a ≤ b
  · obtain rfl : a = m := by have := hm.out; omega
    go_enter Tryz.func157, Tryz.ntmps157
    go_wp2
    go_rounds 2
    go_ret
    exact ⟨rfl, rfl⟩
  · obtain rfl : b = m := by have := hm.out; omega
    go_enter Tryz.func157, Tryz.ntmps157
    go_wp2
    go_rounds 2
    go_ret
    exact ⟨rfl, rfl⟩
set_option maxHeartbeats 400000 in
theorem minimum_c (a b m : Int) (hm : Hid (min a b = m)) (B : Nat) (w : World) (h0 : w.cell? ⟨B, 0, none⟩ = some (.int .i64 a)) (h1 : w.cell? ⟨B, 1, none⟩ = some (.int .i64 b)) :
    Calls Tryz.prog 149 #[.slice (some ⟨B, 0, none⟩) 2 2] w fun e w' => e = .returned (.int .i64 m) ∧ w = w' := by
  go_enter Tryz.func149, Tryz.ntmps149
  go_wp2_with (go_at_call 157; refine (min2_c _ _ _ hm _ _ h0 h1).mono ?_; rintro e w' ⟨rfl, rfl⟩)
  go_ret
  exact ⟨rfl, rfl⟩
set_option maxHeartbeats 400000 in
theorem bminimum_c (a b m : Int) (hm : Hid (min a b = m)) (B : Nat) (w : World) (h0 : w.cell? ⟨B, 0, none⟩ = some (.int .i64 a)) (h1 : w.cell? ⟨B, 1, none⟩ = some (.int .i64 b)) :
    Calls Tryz.prog 143 #[.slice (some ⟨B, 0, none⟩) 2 2] w fun e w' => e = .returned (.int .i64 m) ∧ w = w' := by
  go_enter Tryz.func143, Tryz.ntmps143
  go_wp2_with (go_at_call 157; refine (min2_c _ _ _ hm _ _ h0 h1).mono ?_; rintro e w' ⟨rfl, rfl⟩)
  go_ret
  exact ⟨rfl, rfl⟩

/-- How many streets begin at the places below. -/
def tri (n : Nat) : Nat → Nat
  | 0 => 0
  | i + 1 => tri n i + (n - i)
theorem tri_bd (n : Nat) (hn : n ≤ 30) : ∀ k, k ≤ n → tri n k ≤ 30 * k
  | 0, _ => by simp [tri]
  | k + 1, h => by have := tri_bd n hn k (by omega); simp only [tri]; omega
/-- The index of the street between two places. -/
def sIdx (n a b : Nat) : Nat := tri n (min a b) + (max a b - min a b - 1)
set_option maxHeartbeats 800000 in
theorem street_lt (n : Nat) (pv hv sv : Value) (wrong start calls : Int) (A : Option Addr) (c : Nat) (hn : n ≤ 30) (a b : Nat) (hab : a < b) (hhi : b ≤ n) (w : World) :
    Calls Tryz.prog 127 #[.agg #[.slice A n c, pv, .int .i64 wrong, hv, sv, .int .i64 start, .int .i64 calls], .int .i64 a, .int .i64 b] w
      fun e w' => e = .returned (.int .i64 ((tri n a + (b - a - 1) : Nat) : Int)) ∧ Ext w w' := by
    have hmin : Hid (min (a : Int) b = a) := hid (by omega)
    go_enter Tryz.func127, Tryz.ntmps127
    go_wp2_with (go_at_call 149; refine (minimum_c a b a hmin _ _ (by go_cell) (by go_cell)).mono ?_; rintro e w' ⟨rfl, rfl⟩)
    go_loopw [9, 19] (fun s i wr => ∃ k : Nat, k ≤ a ∧ i = .int .i64 k ∧ s = .int .i64 (tri n k) ∧ w.heap.size + 2 ≤ wr.heap.size ∧ Below w.heap.size w wr ∧ ∀ j, wr.cell? ⟨w.heap.size, j, none⟩ = (#[.slice A n c, pv, .int .i64 wrong, hv, sv, .int .i64 start, .int .i64 calls] : Array Value)[j]?) (fun _ i _ => a - (intOf i).toNat)
    case atStart => exact ⟨0, Nat.zero_le _, rfl, rfl, by simp, by go_grown, fun j => by simp⟩
    case round =>
      obtain ⟨k, hk, rfl, rfl, hsz, hB, hc0⟩ := hrel
      have htb := tri_bd n hn k (by omega)
      by_cases hlt : k < a
      · go_wp2
        go_roundw
        case rel => exact ⟨k + 1, by omega, by go_num, by simp only [tri]; go_num, by simp; omega, by go_grown, fun j => (cell_alloc_lt _ (by omega)).trans (hc0 j)⟩
        case measure => simp [intOf]; omega
      · obtain rfl : k = a := by omega
        go_wp2
        go_ret
        exact ⟨ret_int (by omega), hB⟩
set_option maxHeartbeats 800000 in
theorem street_gt (n : Nat) (pv hv sv : Value) (wrong start calls : Int) (A : Option Addr) (c : Nat) (hn : n ≤ 30) (a b : Nat) (hab : a < b) (hhi : b ≤ n) (w : World) :
    Calls Tryz.prog 127 #[.agg #[.slice A n c, pv, .int .i64 wrong, hv, sv, .int .i64 start, .int .i64 calls], .int .i64 b, .int .i64 a] w
      fun e w' => e = .returned (.int .i64 ((tri n a + (b - a - 1) : Nat) : Int)) ∧ Ext w w' := by
    have hmin : Hid (min (b : Int) a = a) := hid (by omega)
    go_enter Tryz.func127, Tryz.ntmps127
    go_wp2_with (go_at_call 149; refine (minimum_c b a a hmin _ _ (by go_cell) (by go_cell)).mono ?_; rintro e w' ⟨rfl, rfl⟩)
    go_loopw [9, 19] (fun s i wr => ∃ k : Nat, k ≤ a ∧ i = .int .i64 k ∧ s = .int .i64 (tri n k) ∧ w.heap.size + 2 ≤ wr.heap.size ∧ Below w.heap.size w wr ∧ ∀ j, wr.cell? ⟨w.heap.size, j, none⟩ = (#[.slice A n c, pv, .int .i64 wrong, hv, sv, .int .i64 start, .int .i64 calls] : Array Value)[j]?) (fun _ i _ => a - (intOf i).toNat)
    case atStart => exact ⟨0, Nat.zero_le _, rfl, rfl, by simp, by go_grown, fun j => by simp⟩
    case round =>
      obtain ⟨k, hk, rfl, rfl, hsz, hB, hc0⟩ := hrel
      have htb := tri_bd n hn k (by omega)
      by_cases hlt : k < a
      · go_wp2
        go_roundw
        case rel => exact ⟨k + 1, by omega, by go_num, by simp only [tri]; go_num, by simp; omega, by go_grown, fun j => (cell_alloc_lt _ (by omega)).trans (hc0 j)⟩
        case measure => simp [intOf]; omega
      · obtain rfl : k = a := by omega
        go_wp2
        go_ret
        exact ⟨ret_int (by omega), hB⟩
theorem street_c (n : Nat) (pv hv sv : Value) (wrong start calls : Int) (A : Option Addr) (c : Nat) (hn : n ≤ 30) (a b k : Nat) (hne : a ≠ b) (ha : a ≤ n) (hb : b ≤ n) (hk : Hid (sIdx n a b = k)) (w : World) :
    Calls Tryz.prog 127 #[.agg #[.slice A n c, pv, .int .i64 wrong, hv, sv, .int .i64 start, .int .i64 calls], .int .i64 a, .int .i64 b] w
      fun e w' => e = .returned (.int .i64 (k : Int)) ∧ Ext w w' := by
  obtain rfl := hk.out
  rcases Nat.lt_or_gt_of_ne hne with h | h
  · have e : sIdx n a b = tri n a + (b - a - 1) := by unfold sIdx; rw [Nat.min_eq_left (by omega), Nat.max_eq_right (by omega)]
    rw [e]; exact street_lt n pv hv sv wrong start calls A c hn a b h hb w
  · have e : sIdx n a b = tri n b + (a - b - 1) := by unfold sIdx; rw [Nat.min_eq_right (by omega), Nat.max_eq_left (by omega)]
    rw [e]; exact street_gt n pv hv sv wrong start calls A c hn b a h ha w

set_option maxHeartbeats 400000 in
theorem women_c (n : Nat) (pv hv sv : Value) (wrong start calls : Int) (A : Option Addr) (c : Nat) (w : World) :
    Calls Tryz.prog 74 #[.agg #[.slice A n c, pv, .int .i64 wrong, hv, sv, .int .i64 start, .int .i64 calls]] w fun e w' => e = .returned (.int .i64 (n : Int)) ∧ Ext w w' := by
  go_enter Tryz.func74, Tryz.ntmps74
  go_wp2
  go_ret
  exact ⟨rfl, by go_grown⟩

set_option maxHeartbeats 800000 in
set_option maxRecDepth 100000 in
/-- The minute of a call. -/
theorem call_c (n : Nat) (pv sv : Value) (wrong start calls : Int) (A : Option Addr) (c : Nat) (hn : n ≤ 30) (H : Option Addr) (hb ho hcap : Nat) (hH : H = some ⟨hb, ho, none⟩) (lo : Int) (m : Nat → Int) (p q k : Nat) (minute : Int) (hne : p ≠ q) (hp : p ≤ n) (hq : q < n)
    (hk : Hid (sIdx n p q = k)) (w : World) (hk10 : k < 10)
    (hcell : w.cell? ⟨hb, ho + q * 2, none⟩ = some (.int .i64 lo)) (hm0 : 0 ≤ minute) (hm1 : minute ≤ 100000) (hk0 : 0 ≤ m k) (hk1 : m k ≤ 100000) :
    Calls Tryz.prog 105 #[.agg #[.slice A n c, pv, .int .i64 wrong, .slice H n hcap, sv, .int .i64 start, .int .i64 calls], .agg #[.int .i64 (m 0), .int .i64 (m 1), .int .i64 (m 2), .int .i64 (m 3), .int .i64 (m 4), .int .i64 (m 5), .int .i64 (m 6), .int .i64 (m 7), .int .i64 (m 8), .int .i64 (m 9)], .int .i64 minute, .int .i64 p, .int .i64 q] w
      fun e w' => e = .returned (.int .i64 (max lo (minute + m k))) ∧ Ext w w' := by
  subst hH
  have hwr : IntKind.i64.wrap (minute + m k) = minute + m k := IntWalk.i64_in _ (by omega)
  have hk1' : (k : Int) < 10 := by omega
  have hq0 : (0 : Int) ≤ (q : Int) := by omega
  have hq1 : (q : Int) < (n : Int) := by omega
  have harr : (#[.int .i64 (m 0), .int .i64 (m 1), .int .i64 (m 2), .int .i64 (m 3), .int .i64 (m 4), .int .i64 (m 5), .int .i64 (m 6), .int .i64 (m 7), .int .i64 (m 8), .int .i64 (m 9)] : Array Value)[k]? = some (.int .i64 (m k)) := m10_at m k hk10
  go_enter Tryz.func105, Tryz.ntmps105
  go_wp2
  refine wp_gen ?_
  intro W0 hW0
  have hB0 : Below w.heap.size w W0 := by rw [hW0]; go_grown
  have f1 := ext_blk (W0 := W0) (B := w.heap.size) (cs := #[.slice A n c, pv, .int .i64 wrong, .slice (some ⟨hb, ho, none⟩) n hcap, sv, .int .i64 start, .int .i64 calls]) (t := 41) (fr := (0, 0)) (by rw [hW0]; exact heap_alloc2_old w _ _)
  have f2 : ∀ W, Ext W0 W → W.cell? ⟨w.heap.size + 1, k, none⟩ = some (.int .i64 (m k)) :=
    fun W h => (ext_blk (W0 := W0) (B := w.heap.size + 1) (cs := #[.int .i64 (m 0), .int .i64 (m 1), .int .i64 (m 2), .int .i64 (m 3), .int .i64 (m 4), .int .i64 (m 5), .int .i64 (m 6), .int .i64 (m 7), .int .i64 (m 8), .int .i64 (m 9)]) (t := 108) (fr := (0, 0)) (by rw [hW0]; exact heap_alloc2_new w _ _) W h k).trans harr
  have f3 := ext_cell hcell hB0 (Nat.le_refl _)
  clear hW0 harr
  have e0 : Ext W0 W0 := ext_refl W0
  go_region_held3 (fun W => Ext W0 W)
    (first | exact Below.drew (by assumption) | assumption | exact ext_trans (by assumption) (by assumption))
    ((go_at_call 127; refine (street_c n pv _ sv wrong start calls A c hn p q k hne hp (by omega) hk _).mono ?_; rintro e w' ⟨rfl, hB⟩))
  all_goals go_wp2
  all_goals go_ret
  all_goals exact ⟨ret_int (by omega), ext_from hB0 (by assumption) hB0.size⟩
end Go.Proofs.YtlcakmbejjlmeaaGreat
/- The contract of errand's 'calls': the minutes of the calls of a walk. -/
set_option linter.unusedVariables false
set_option linter.unusedSimpArgs false
namespace Go.Proofs.YtlcakmbejjlmeaaGreat
open Go.RowKit

/-- The place, and the minute, after so many calls of a walk. -/
def plAt (n : Nat) (walk : List Int) : Nat → Nat
  | 0 => n
  | k + 1 => (at0 walk k).toNat
def minAt (n : Nat) (lo : Nat → Int) (m : Nat → Int) (start : Int) (walk : List Int) : Nat → Int
  | 0 => start
  | k + 1 => max (lo (at0 walk k).toNat) (minAt n lo m start walk k + m (sIdx n (plAt n walk k) (at0 walk k).toNat))
def callsL (n : Nat) (lo : Nat → Int) (m : Nat → Int) (start : Int) (walk : List Int) : List Int := (List.range walk.length).map fun k => minAt n lo m start walk (k + 1)
/-- A walk. -/
structure WalkOk (n : Nat) (walk : List Int) : Prop where
  len : walk.length ≤ 7
  lo : ∀ i, i < walk.length → 0 ≤ at0 walk i
  hi : ∀ i, i < walk.length → at0 walk i < n
  ne : ∀ i, i + 1 < walk.length → at0 walk (i + 1) ≠ at0 walk i
structure MinsOk (m : Nat → Int) : Prop where
  lo : ∀ j, j < 10 → 0 ≤ m j
  hi : ∀ j, j < 10 → m j ≤ 60
theorem sIdx_lt {n p q : Nat} (hn : n ≤ 4) (hp : p ≤ n) (hq : q ≤ n) (hne : p ≠ q) : sIdx n p q < 10 := by
  have h : ∀ n p q : Fin 5, p.val ≤ n.val → q.val ≤ n.val → p.val ≠ q.val → sIdx n.val p.val q.val < 10 := by decide
  exact h ⟨n, by omega⟩ ⟨p, by omega⟩ ⟨q, by omega⟩ hp hq hne
theorem plAt_le {n : Nat} {walk : List Int} (hw : WalkOk n walk) (k : Nat) (hk : k ≤ walk.length) : plAt n walk k ≤ n := by
  cases k with
  | zero => simp [plAt]
  | succ k => have := hw.hi k (by omega); have := hw.lo k (by omega); simp only [plAt]; omega
theorem plAt_ne {n : Nat} {walk : List Int} (hw : WalkOk n walk) (k : Nat) (hk : k < walk.length) : plAt n walk k ≠ (at0 walk k).toNat := by
  cases k with
  | zero => have := hw.hi 0 hk; have := hw.lo 0 hk; simp only [plAt]; omega
  | succ k => have h1 := hw.ne k hk; have := hw.lo k (by omega); have := hw.lo (k + 1) hk; simp only [plAt]; omega
theorem minAt_bd {n : Nat} {lo : Nat → Int} {m : Nat → Int} {start : Int} {walk : List Int} (hn : n ≤ 4) (hw : WalkOk n walk) (hm : MinsOk m) (hlo : ∀ i, i < n → 0 ≤ lo i ∧ lo i ≤ 1439) (h0 : 0 ≤ start) (h1 : start ≤ 1439) :
    ∀ k, k ≤ walk.length → 0 ≤ minAt n lo m start walk k ∧ minAt n lo m start walk k ≤ 1439 + 60 * k
  | 0, _ => by simp only [minAt]; omega
  | k + 1, h => by
    have ih := minAt_bd hn hw hm hlo h0 h1 k (by omega)
    have a := hw.hi k (by omega)
    have b := hw.lo k (by omega)
    have c := hlo (at0 walk k).toNat (by omega)
    have d := sIdx_lt hn (plAt_le hw k (by omega)) (q := (at0 walk k).toNat) (by omega) (plAt_ne hw k (by omega))
    have e := hm.lo _ d
    have f := hm.hi _ d
    simp only [minAt]
    omega
theorem callsL_len (n : Nat) (lo : Nat → Int) (m : Nat → Int) (start : Int) (walk : List Int) : (callsL n lo m start walk).length = walk.length := by rw [callsL, List.length_map, List.length_range]
theorem callsL_snoc (n : Nat) (lo : Nat → Int) (m : Nat → Int) (start : Int) (walk : List Int) (k : Nat) : (List.range (k + 1)).map (fun k => minAt n lo m start walk (k + 1)) = (List.range k).map (fun k => minAt n lo m start walk (k + 1)) ++ [minAt n lo m start walk (k + 1)] := by
  rw [List.range_succ, List.map_append]; rfl

set_option maxHeartbeats 1600000 in
set_option maxRecDepth 100000 in
theorem calls_c (n : Nat) (pv sv wv : Value) (wrong start calls : Int) (A : Option Addr) (c : Nat) (hn : n ≤ 4) (H : Option Addr) (hcap : Nat) (home : List Rng) (m : Nat → Int) (walk : List Int) (w : World)
    (hHome : IsRngs w (.slice H n hcap) home) (hhl : home.length = n) (hW : IsInts w wv walk) (hwalk : WalkOk n walk) (hm : MinsOk m) (hlo : ∀ i, i < n → 0 ≤ rLo home i ∧ rLo home i ≤ 1439) (h0 : 0 ≤ start) (h1 : start ≤ 1439) :
    Calls Tryz.prog 70 #[.agg #[.slice A n c, pv, .int .i64 wrong, .slice H n hcap, sv, .int .i64 start, .int .i64 calls], .agg #[.int .i64 (m 0), .int .i64 (m 1), .int .i64 (m 2), .int .i64 (m 3), .int .i64 (m 4), .int .i64 (m 5), .int .i64 (m 6), .int .i64 (m 7), .int .i64 (m 8), .int .i64 (m 9)], wv] w
      fun e w' => ∃ v, e = .returned v ∧ IsInts w' v (callsL n (rLo home) m start walk) ∧ Ext w w' := by
  obtain ⟨hwl, V, vc, rfl, hWc⟩ := hW
  obtain ⟨_, H', hc', hv, hHc⟩ := hHome
  obtain ⟨rfl, _, rfl⟩ : H = H' ∧ n = home.length ∧ hcap = hc' := by injection hv with a b c; exact ⟨a, b, c⟩
  have HL := hid hhl
  have HW := hid hWc
  have HH := hid hHc
  have KW := hid hwalk
  have KM := hid hm
  have KL := hid hlo
  have hlen := hwalk.len
  clear hv hhl hWc hHc hwalk hm hlo
  rename_i hx; clear hx
  go_enter Tryz.func70, Tryz.ntmps70
  go_wp2
  refine wp_gen ?_
  intro W0 hW0
  have hB0 : Below w.heap.size w W0 := by rw [hW0]; go_grown
  have hS0 : w.heap.size + 2 ≤ W0.heap.size := by rw [hW0]; simp
  have b1 : W0.heap[w.heap.size]? = some (.cells #[.slice A n c, pv, .int .i64 wrong, .slice H n hcap, sv, .int .i64 start, .int .i64 calls] 41 (0, 0)) := by rw [hW0]; exact heap_alloc2_old w _ _
  have b2 : W0.heap[w.heap.size + 1]? = some (.cells #[.int .i64 (m 0), .int .i64 (m 1), .int .i64 (m 2), .int .i64 (m 3), .int .i64 (m 4), .int .i64 (m 5), .int .i64 (m 6), .int .i64 (m 7), .int .i64 (m 8), .int .i64 (m 9)] 108 (0, 0)) := by rw [hW0]; exact heap_alloc2_new w _ _
  clear hW0
  have f1 := ext_blk b1
  have e0 : Ext W0 W0 := ext_refl W0
  go_region_held3 (fun W => Ext W0 W)
    (first | exact Below.drew (by assumption) | assumption | exact ext_trans (by assumption) (by assumption))
    ((go_at_call 74; refine (women_c _ _ _ _ _ _ _ _ _ _).mono ?_; rintro e W1 ⟨rfl, hB⟩))
  go_wp2
  go_loopw [6, 7, 8, 17] (fun out pl mi i wr => ∃ k : Nat, k ≤ walk.length ∧ i = .int .i64 k ∧ pl = .int .i64 (plAt n walk k) ∧ mi = .int .i64 (minAt n (rLo home) m start walk k) ∧ wr.ownsRow W0.heap.size 3 1 out k (((List.range k).map fun k => minAt n (rLo home) m start walk (k + 1)).map (Value.int .i64)) ∧ Ext W0 wr) (fun _ _ _ i _ => walk.length - (intOf i).toNat)
  case atStart => exact ⟨0, Nat.zero_le _, rfl, rfl, rfl, own_nil _ _ _ _, by assumption⟩
  case round =>
    obtain ⟨k, hk, rfl, rfl, rfl, hown, hE⟩ := hrel
    have hc1 := blk_cell (ext_blk_keep hE b1)
    have hc2 := blk_cell (ext_blk_keep hE b2)
    by_cases hlt : k < walk.length
    · obtain ⟨b, o, hV, hcell⟩ := HW.out (by omega)
      subst hV
      obtain ⟨hb, ho, hH, hhc⟩ := HH.out (by have := KW.out.hi k hlt; have := KW.out.lo k hlt; have := HL.out; omega)
      have HHe := hid hH
      obtain ⟨q, hq⟩ : ∃ q : Nat, at0 walk k = q := ⟨_, (Int.toNat_of_nonneg (KW.out.lo k hlt)).symm⟩
      have hqn : q < n := by have := KW.out.hi k hlt; omega
      have hpn := plAt_le KW.out k (by omega)
      have hne := plAt_ne KW.out k hlt
      rw [hq, Int.toNat_natCast] at hne
      have hidx := sIdx_lt hn hpn (Nat.le_of_lt hqn) hne
      have hbd := minAt_bd hn KW.out KM.out KL.out h0 h1 k (by omega)
      have hm0 := KM.out.lo _ hidx
      have hm1 := KM.out.hi _ hidx
      have hl0 := (hhc q (by have := HL.out; omega)).1
      have hcw : wr.cell? ⟨b, o + k, none⟩ = some (.int .i64 (q : Int)) := by rw [← hq]; exact cell_ext (ext_trans hB0 hE) (hcell k hlt)
      have hch : wr.cell? ⟨hb, ho + q * 2, none⟩ = some (.int .i64 (rLo home q)) := cell_ext (ext_trans hB0 hE) hl0
      have hnext : Hid (max (rLo home q) (minAt n (rLo home) m start walk k + m (sIdx n (plAt n walk k) q)) = minAt n (rLo home) m start walk (k + 1)) := hid (by simp only [minAt, hq, Int.toNat_natCast])
      have hpl : Hid (plAt n walk (k + 1) = q) := hid (by simp only [plAt, hq, Int.toNat_natCast])
      have KQ := hid hne
      have KI := hid hidx
      have KC := hid hch
      clear hH hcell hhc hl0 hne hidx hch
      obtain ⟨hq', KHq⟩ : ∃ x, Hid (at0 walk k = x) := ⟨_, hid hq⟩
      clear hq
      go_wp2_with (first | (go_at_call 105; refine (call_c n pv sv wrong start calls A c (by omega) H hb ho hcap HHe.out (rLo home q) m (plAt n walk k) q _ _ KQ.out hpn hqn (hid rfl) _ KI.out KC.out hbd.1 (by omega) hm0 (by omega)).mono ?_; rintro e w1 ⟨rfl, hB1⟩) | (at_builtin; refine app_int rfl _ _ 29 3 rfl Tryz.underlying29 info_int W0.heap.size _ k _ _ rfl rfl (own_ext hown hB1) (Nat.le_trans hE.size hB1.size) (by omega) ?_; intro g cap w2 hown2 hB2 hg2 hlt2 hbg2))
      rw [hnext.out, ← callsL_snoc] at hown2
      go_roundw
      case rel => exact ⟨k + 1, hlt, by go_num, by rw [hpl.out], by rw [hnext.out], hown2, (ext_trans hE hB1).trans hB2⟩
      case measure => simp [intOf]; omega
    · obtain rfl : k = walk.length := by omega
      go_wp2
      go_ret
      refine ⟨_, rfl, own_ints (xs := callsL n (rLo home) m start walk) hown (by rw [callsL_len]; exact hwl), ext_trans hB0 hE⟩
end Go.Proofs.YtlcakmbejjlmeaaGreat
/- The contracts of errand's 'streets', 'quick', 'slow', 'listed': arrays of minutes. -/
set_option linter.unusedVariables false
set_option linter.unusedSimpArgs false
namespace Go.Proofs.YtlcakmbejjlmeaaGreat
open Go.RowKit

def rngM (g : Nat → Int) (n : Nat) : Nat → Int := fun i => if i < n then g i else 0
theorem rngM_zero (g : Nat → Int) (i : Nat) : rngM g 0 i = 0 := by simp [rngM]
theorem rngM_succ (g : Nat → Int) (k : Nat) : upd (rngM g k) k (g k) = rngM g (k + 1) := by
  funext i
  unfold upd rngM
  by_cases h : i = k
  · subst h; rw [if_pos rfl, if_pos (by omega)]
  · rw [if_neg h]
    by_cases h' : i < k
    · rw [if_pos h', if_pos (by omega)]
    · rw [if_neg h', if_neg (by omega)]
set_option maxHeartbeats 1600000 in
set_option maxRecDepth 100000 in
theorem streets_hi (wv pv hv : Value) (wrong start calls : Int) (S : Option Addr) (n sc : Nat) (streets : List Rng) (w : World) (hS : IsRngs w (.slice S n sc) streets) (hn : n ≤ 10) :
    Calls Tryz.prog 111 #[.agg #[.func (.func 112) #[] #[]], .agg #[wv, pv, .int .i64 wrong, hv, .slice S n sc, .int .i64 start, .int .i64 calls]] w
      fun e w' => e = .returned (.agg #[.int .i64 (rngM (rHi streets) n 0), .int .i64 (rngM (rHi streets) n 1), .int .i64 (rngM (rHi streets) n 2), .int .i64 (rngM (rHi streets) n 3), .int .i64 (rngM (rHi streets) n 4), .int .i64 (rngM (rHi streets) n 5), .int .i64 (rngM (rHi streets) n 6), .int .i64 (rngM (rHi streets) n 7), .int .i64 (rngM (rHi streets) n 8), .int .i64 (rngM (rHi streets) n 9)]) ∧ Ext w w' := by
  obtain ⟨_, S', sc', hv', hSc⟩ := hS
  obtain ⟨rfl, hnl, rfl⟩ : S = S' ∧ n = streets.length ∧ sc = sc' := by injection hv' with a b c; exact ⟨a, b, c⟩
  have HL := hid hnl
  have HS := hid hSc
  clear hv' hnl hSc
  rename_i hx; clear hx
  go_enter Tryz.func111, Tryz.ntmps111
  go_wp2
  go_loopw [10] (fun i wr => ∃ k : Nat, k ≤ n ∧ i = .int .i64 k ∧ w.heap.size + 3 ≤ wr.heap.size ∧ Ext w wr ∧ wr.heap[w.heap.size]? = some (.cells #[.func (.func 112) #[] #[]] 159 (0, 0)) ∧ wr.heap[w.heap.size + 1]? = some (.cells #[wv, pv, .int .i64 wrong, hv, .slice S n sc, .int .i64 start, .int .i64 calls] 41 (0, 0)) ∧ wr.heap[w.heap.size + 1 + 1]? = some (.cells #[.int .i64 (rngM (rHi streets) k 0), .int .i64 (rngM (rHi streets) k 1), .int .i64 (rngM (rHi streets) k 2), .int .i64 (rngM (rHi streets) k 3), .int .i64 (rngM (rHi streets) k 4), .int .i64 (rngM (rHi streets) k 5), .int .i64 (rngM (rHi streets) k 6), .int .i64 (rngM (rHi streets) k 7), .int .i64 (rngM (rHi streets) k 8), .int .i64 (rngM (rHi streets) k 9)] 108 (0, 0))) (fun i _ => n - (intOf i).toNat)
  case atStart => exact ⟨0, Nat.zero_le _, rfl, by simp, by go_grown, (by repeat (first | exact heap_alloc_at _ _ (by simp) | refine heap_alloc_keep ?_)), (by repeat (first | exact heap_alloc_at _ _ (by simp) | refine heap_alloc_keep ?_)), by simp only [rngM_zero]; exact (by repeat (first | exact heap_alloc_at _ _ (by simp) | refine heap_alloc_keep ?_))⟩
  case round =>
    obtain ⟨k, hk, rfl, hsz, hE, b1, b2, b3⟩ := hrel
    have hn1 : w.heap.size < wr.heap.size := by omega
    have hn2 : w.heap.size + 1 < wr.heap.size := by omega
    have hn3 : w.heap.size + 1 + 1 < wr.heap.size := by omega
    have hc1 := blk_cell b1
    have hc2 := blk_cell b2
    have hc3 := blk_cell b3
    have hfr : ∀ j, wr.frozen? ⟨w.heap.size + 1 + 1, j, none⟩ = false := fun j => frozen_of_row wr _ j _ _ b3
    by_cases hlt : k < n
    · obtain ⟨b, o, hV, hcell⟩ := HS.out (by have := HL.out; omega)
      subst hV
      have hlo := cell_ext hE (hcell k (by have := HL.out; omega)).1
      have hhi := cell_ext hE (hcell k (by have := HL.out; omega)).2
      have hm := m10_at (rngM (rHi streets) k) k (by omega)
      have hk10 : (k : Int) < 10 := by omega
      rw [← hc3 k] at hm
      have hset := m10_set (rngM (rHi streets) k) k (rHi streets k) (by omega)
      rw [rngM_succ] at hset
      have KS := hid hset
      clear hcell hset hc3
      go_wp2
      go_roundw
      case rel => exact ⟨k + 1, hlt, by go_num, by simp; omega, by go_grown, (by repeat (first | with_reducible exact b1 | (with_reducible refine heap_set_keep (by omega) ?_) | exact heap_alloc_at _ _ (by simp) | with_reducible refine heap_alloc_keep ?_ | with_reducible refine heap_drew_keep ?_)), (by repeat (first | with_reducible exact b2 | (with_reducible refine heap_set_keep (by omega) ?_) | exact heap_alloc_at _ _ (by simp) | with_reducible refine heap_alloc_keep ?_ | with_reducible refine heap_drew_keep ?_)), heap_alloc_keep (heap_alloc_keep (heap_set_at b3 KS.out))⟩
      case measure => simp [intOf]; omega
    · obtain rfl : k = n := by omega
      go_wp2
      refine bodyPost_ret (v := .agg #[.int .i64 (rngM (rHi streets) k 0), .int .i64 (rngM (rHi streets) k 1), .int .i64 (rngM (rHi streets) k 2), .int .i64 (rngM (rHi streets) k 3), .int .i64 (rngM (rHi streets) k 4), .int .i64 (rngM (rHi streets) k 5), .int .i64 (rngM (rHi streets) k 6), .int .i64 (rngM (rHi streets) k 7), .int .i64 (rngM (rHi streets) k 8), .int .i64 (rngM (rHi streets) k 9)]) (results_cell_row (fn := Tryz.f111) (p := 4) (ty := 108) rfl _ _ (w.heap.size + 1 + 1) 108 _ (0, 0) _ rfl ?hg Tryz.underlying108 rfl (by kernel_rfl)) rfl ⟨rfl, by go_grown⟩
      repeat (refine heap_set_same ?_ rfl)
      exact b3
set_option maxHeartbeats 1600000 in
set_option maxRecDepth 100000 in
theorem streets_lo (wv pv hv : Value) (wrong start calls : Int) (S : Option Addr) (n sc : Nat) (streets : List Rng) (w : World) (hS : IsRngs w (.slice S n sc) streets) (hn : n ≤ 10) :
    Calls Tryz.prog 111 #[.agg #[.func (.func 110) #[] #[]], .agg #[wv, pv, .int .i64 wrong, hv, .slice S n sc, .int .i64 start, .int .i64 calls]] w
      fun e w' => e = .returned (.agg #[.int .i64 (rngM (rLo streets) n 0), .int .i64 (rngM (rLo streets) n 1), .int .i64 (rngM (rLo streets) n 2), .int .i64 (rngM (rLo streets) n 3), .int .i64 (rngM (rLo streets) n 4), .int .i64 (rngM (rLo streets) n 5), .int .i64 (rngM (rLo streets) n 6), .int .i64 (rngM (rLo streets) n 7), .int .i64 (rngM (rLo streets) n 8), .int .i64 (rngM (rLo streets) n 9)]) ∧ Ext w w' := by
  obtain ⟨_, S', sc', hv', hSc⟩ := hS
  obtain ⟨rfl, hnl, rfl⟩ : S = S' ∧ n = streets.length ∧ sc = sc' := by injection hv' with a b c; exact ⟨a, b, c⟩
  have HL := hid hnl
  have HS := hid hSc
  clear hv' hnl hSc
  rename_i hx; clear hx
  go_enter Tryz.func111, Tryz.ntmps111
  go_wp2
  go_loopw [10] (fun i wr => ∃ k : Nat, k ≤ n ∧ i = .int .i64 k ∧ w.heap.size + 3 ≤ wr.heap.size ∧ Ext w wr ∧ wr.heap[w.heap.size]? = some (.cells #[.func (.func 110) #[] #[]] 159 (0, 0)) ∧ wr.heap[w.heap.size + 1]? = some (.cells #[wv, pv, .int .i64 wrong, hv, .slice S n sc, .int .i64 start, .int .i64 calls] 41 (0, 0)) ∧ wr.heap[w.heap.size + 1 + 1]? = some (.cells #[.int .i64 (rngM (rLo streets) k 0), .int .i64 (rngM (rLo streets) k 1), .int .i64 (rngM (rLo streets) k 2), .int .i64 (rngM (rLo streets) k 3), .int .i64 (rngM (rLo streets) k 4), .int .i64 (rngM (rLo streets) k 5), .int .i64 (rngM (rLo streets) k 6), .int .i64 (rngM (rLo streets) k 7), .int .i64 (rngM (rLo streets) k 8), .int .i64 (rngM (rLo streets) k 9)] 108 (0, 0))) (fun i _ => n - (intOf i).toNat)
  case atStart => exact ⟨0, Nat.zero_le _, rfl, by simp, by go_grown, (by repeat (first | exact heap_alloc_at _ _ (by simp) | refine heap_alloc_keep ?_)), (by repeat (first | exact heap_alloc_at _ _ (by simp) | refine heap_alloc_keep ?_)), by simp only [rngM_zero]; exact (by repeat (first | exact heap_alloc_at _ _ (by simp) | refine heap_alloc_keep ?_))⟩
  case round =>
    obtain ⟨k, hk, rfl, hsz, hE, b1, b2, b3⟩ := hrel
    have hn1 : w.heap.size < wr.heap.size := by omega
    have hn2 : w.heap.size + 1 < wr.heap.size := by omega
    have hn3 : w.heap.size + 1 + 1 < wr.heap.size := by omega
    have hc1 := blk_cell b1
    have hc2 := blk_cell b2
    have hc3 := blk_cell b3
    have hfr : ∀ j, wr.frozen? ⟨w.heap.size + 1 + 1, j, none⟩ = false := fun j => frozen_of_row wr _ j _ _ b3
    by_cases hlt : k < n
    · obtain ⟨b, o, hV, hcell⟩ := HS.out (by have := HL.out; omega)
      subst hV
      have hlo := cell_ext hE (hcell k (by have := HL.out; omega)).1
      have hhi := cell_ext hE (hcell k (by have := HL.out; omega)).2
      have hm := m10_at (rngM (rLo streets) k) k (by omega)
      have hk10 : (k : Int) < 10 := by omega
      rw [← hc3 k] at hm
      have hset := m10_set (rngM (rLo streets) k) k (rLo streets k) (by omega)
      rw [rngM_succ] at hset
      have KS := hid hset
      clear hcell hset hc3
      go_wp2
      go_roundw
      case rel => exact ⟨k + 1, hlt, by go_num, by simp; omega, by go_grown, (by repeat (first | with_reducible exact b1 | (with_reducible refine heap_set_keep (by omega) ?_) | exact heap_alloc_at _ _ (by simp) | with_reducible refine heap_alloc_keep ?_ | with_reducible refine heap_drew_keep ?_)), (by repeat (first | with_reducible exact b2 | (with_reducible refine heap_set_keep (by omega) ?_) | exact heap_alloc_at _ _ (by simp) | with_reducible refine heap_alloc_keep ?_ | with_reducible refine heap_drew_keep ?_)), heap_alloc_keep (heap_alloc_keep (heap_set_at b3 KS.out))⟩
      case measure => simp [intOf]; omega
    · obtain rfl : k = n := by omega
      go_wp2
      refine bodyPost_ret (v := .agg #[.int .i64 (rngM (rLo streets) k 0), .int .i64 (rngM (rLo streets) k 1), .int .i64 (rngM (rLo streets) k 2), .int .i64 (rngM (rLo streets) k 3), .int .i64 (rngM (rLo streets) k 4), .int .i64 (rngM (rLo streets) k 5), .int .i64 (rngM (rLo streets) k 6), .int .i64 (rngM (rLo streets) k 7), .int .i64 (rngM (rLo streets) k 8), .int .i64 (rngM (rLo streets) k 9)]) (results_cell_row (fn := Tryz.f111) (p := 4) (ty := 108) rfl _ _ (w.heap.size + 1 + 1) 108 _ (0, 0) _ rfl ?hg Tryz.underlying108 rfl (by kernel_rfl)) rfl ⟨rfl, by go_grown⟩
      repeat (refine heap_set_same ?_ rfl)
      exact b3
set_option maxHeartbeats 1600000 in
set_option maxRecDepth 100000 in
theorem slow_c (wv pv hv : Value) (wrong start calls : Int) (S : Option Addr) (n sc : Nat) (streets : List Rng) (w : World) (hS : IsRngs w (.slice S n sc) streets) (hn : n ≤ 10) :
    Calls Tryz.prog 81 #[.agg #[wv, pv, .int .i64 wrong, hv, .slice S n sc, .int .i64 start, .int .i64 calls]] w
      fun e w' => e = .returned (.agg #[.int .i64 (rngM (rHi streets) n 0), .int .i64 (rngM (rHi streets) n 1), .int .i64 (rngM (rHi streets) n 2), .int .i64 (rngM (rHi streets) n 3), .int .i64 (rngM (rHi streets) n 4), .int .i64 (rngM (rHi streets) n 5), .int .i64 (rngM (rHi streets) n 6), .int .i64 (rngM (rHi streets) n 7), .int .i64 (rngM (rHi streets) n 8), .int .i64 (rngM (rHi streets) n 9)]) ∧ Ext w w' := by
  have HS := hid hS
  clear hS
  go_enter Tryz.func81, Tryz.ntmps81
  go_wp2_with fail
  refine calls_gen ?_
  intro W0 hW0
  have hB0 : Below w.heap.size w W0 := by rw [hW0]; go_grown
  have b2 : W0.heap[w.heap.size + 1]? = some (.cells #[.int .i64 0, .int .i64 0, .int .i64 0, .int .i64 0, .int .i64 0, .int .i64 0, .int .i64 0, .int .i64 0, .int .i64 0, .int .i64 0] 108 (0, 0)) := by rw [hW0]; exact (by repeat (first | exact heap_alloc_at _ _ (by simp) | refine heap_alloc_keep ?_))
  clear hW0
  refine (streets_hi wv pv hv wrong start calls S n sc streets W0 (HS.out.ext hB0) hn).mono ?_
  rintro e w1 ⟨rfl, hB⟩
  have b2' := ext_blk_keep hB b2
  have hc := blk_cell b2'
  have hf : ∀ j, w1.frozen? ⟨w.heap.size + 1, j, none⟩ = false := fun j => frozen_of_row w1 _ j _ _ b2'
  go_wp2
  refine bodyPost_ret (v := .agg #[.int .i64 (rngM (rHi streets) n 0), .int .i64 (rngM (rHi streets) n 1), .int .i64 (rngM (rHi streets) n 2), .int .i64 (rngM (rHi streets) n 3), .int .i64 (rngM (rHi streets) n 4), .int .i64 (rngM (rHi streets) n 5), .int .i64 (rngM (rHi streets) n 6), .int .i64 (rngM (rHi streets) n 7), .int .i64 (rngM (rHi streets) n 8), .int .i64 (rngM (rHi streets) n 9)]) (results_cell_row (fn := Tryz.f81) (p := 2) (ty := 108) rfl _ _ (w.heap.size + 1) 108 _ (0, 0) _ rfl ?hg Tryz.underlying108 rfl (by kernel_rfl)) rfl ⟨rfl, ?_⟩
  · exact set10 b2' rfl _ _ _ _ _ _ _ _ _ _
  · have := hB0.trans (hB.mono hB0.size)
    go_grown
set_option maxHeartbeats 1600000 in
set_option maxRecDepth 100000 in
theorem quick_c (wv pv hv : Value) (wrong start calls : Int) (S : Option Addr) (n sc : Nat) (streets : List Rng) (w : World) (hS : IsRngs w (.slice S n sc) streets) (hn : n ≤ 10) :
    Calls Tryz.prog 80 #[.agg #[wv, pv, .int .i64 wrong, hv, .slice S n sc, .int .i64 start, .int .i64 calls]] w
      fun e w' => e = .returned (.agg #[.int .i64 (rngM (rLo streets) n 0), .int .i64 (rngM (rLo streets) n 1), .int .i64 (rngM (rLo streets) n 2), .int .i64 (rngM (rLo streets) n 3), .int .i64 (rngM (rLo streets) n 4), .int .i64 (rngM (rLo streets) n 5), .int .i64 (rngM (rLo streets) n 6), .int .i64 (rngM (rLo streets) n 7), .int .i64 (rngM (rLo streets) n 8), .int .i64 (rngM (rLo streets) n 9)]) ∧ Ext w w' := by
  have HS := hid hS
  clear hS
  go_enter Tryz.func80, Tryz.ntmps80
  go_wp2_with fail
  refine calls_gen ?_
  intro W0 hW0
  have hB0 : Below w.heap.size w W0 := by rw [hW0]; go_grown
  have b2 : W0.heap[w.heap.size + 1]? = some (.cells #[.int .i64 0, .int .i64 0, .int .i64 0, .int .i64 0, .int .i64 0, .int .i64 0, .int .i64 0, .int .i64 0, .int .i64 0, .int .i64 0] 108 (0, 0)) := by rw [hW0]; exact (by repeat (first | exact heap_alloc_at _ _ (by simp) | refine heap_alloc_keep ?_))
  clear hW0
  refine (streets_lo wv pv hv wrong start calls S n sc streets W0 (HS.out.ext hB0) hn).mono ?_
  rintro e w1 ⟨rfl, hB⟩
  have b2' := ext_blk_keep hB b2
  have hc := blk_cell b2'
  have hf : ∀ j, w1.frozen? ⟨w.heap.size + 1, j, none⟩ = false := fun j => frozen_of_row w1 _ j _ _ b2'
  go_wp2
  refine bodyPost_ret (v := .agg #[.int .i64 (rngM (rLo streets) n 0), .int .i64 (rngM (rLo streets) n 1), .int .i64 (rngM (rLo streets) n 2), .int .i64 (rngM (rLo streets) n 3), .int .i64 (rngM (rLo streets) n 4), .int .i64 (rngM (rLo streets) n 5), .int .i64 (rngM (rLo streets) n 6), .int .i64 (rngM (rLo streets) n 7), .int .i64 (rngM (rLo streets) n 8), .int .i64 (rngM (rLo streets) n 9)]) (results_cell_row (fn := Tryz.f80) (p := 2) (ty := 108) rfl _ _ (w.heap.size + 1) 108 _ (0, 0) _ rfl ?hg Tryz.underlying108 rfl (by kernel_rfl)) rfl ⟨rfl, ?_⟩
  · exact set10 b2' rfl _ _ _ _ _ _ _ _ _ _
  · have := hB0.trans (hB.mono hB0.size)
    go_grown
end Go.Proofs.YtlcakmbejjlmeaaGreat
/- The contract of errand's 'listed': an array of minutes out of a list. -/
set_option linter.unusedVariables false
set_option linter.unusedSimpArgs false
namespace Go.Proofs.YtlcakmbejjlmeaaGreat
open Go.RowKit

theorem splice_rngM (xs : List Int) (h : xs.length ≤ 10) :
    (splice [.int .i64 0, .int .i64 0, .int .i64 0, .int .i64 0, .int .i64 0, .int .i64 0, .int .i64 0, .int .i64 0, .int .i64 0, .int .i64 0] 0 (xs.map (Value.int .i64))).toArray = #[.int .i64 (rngM (at0 xs) xs.length 0), .int .i64 (rngM (at0 xs) xs.length 1), .int .i64 (rngM (at0 xs) xs.length 2), .int .i64 (rngM (at0 xs) xs.length 3), .int .i64 (rngM (at0 xs) xs.length 4), .int .i64 (rngM (at0 xs) xs.length 5), .int .i64 (rngM (at0 xs) xs.length 6), .int .i64 (rngM (at0 xs) xs.length 7), .int .i64 (rngM (at0 xs) xs.length 8), .int .i64 (rngM (at0 xs) xs.length 9)] := by
  match xs, h with
  | [], _ => rfl
  | [_], _ => rfl
  | [_, _], _ => rfl
  | [_, _, _], _ => rfl
  | [_, _, _, _], _ => rfl
  | [_, _, _, _, _], _ => rfl
  | [_, _, _, _, _, _], _ => rfl
  | [_, _, _, _, _, _, _], _ => rfl
  | [_, _, _, _, _, _, _, _], _ => rfl
  | [_, _, _, _, _, _, _, _, _], _ => rfl
  | [_, _, _, _, _, _, _, _, _, _], _ => rfl
set_option maxHeartbeats 1600000 in
set_option maxRecDepth 100000 in
theorem listed_c (v : Value) (xs : List Int) (w : World) (hv : IsInts w v xs) (hn : xs.length ≤ 10) :
    Calls Tryz.prog 71 #[v] w fun e w' => e = .returned (.agg #[.int .i64 (rngM (at0 xs) xs.length 0), .int .i64 (rngM (at0 xs) xs.length 1), .int .i64 (rngM (at0 xs) xs.length 2), .int .i64 (rngM (at0 xs) xs.length 3), .int .i64 (rngM (at0 xs) xs.length 4), .int .i64 (rngM (at0 xs) xs.length 5), .int .i64 (rngM (at0 xs) xs.length 6), .int .i64 (rngM (at0 xs) xs.length 7), .int .i64 (rngM (at0 xs) xs.length 8), .int .i64 (rngM (at0 xs) xs.length 9)]) ∧ Ext w w' := by
  obtain ⟨_, A, c, rfl, hc⟩ := hv
  have HC := hid hc
  clear hc
  go_enter Tryz.func71, Tryz.ntmps71
  go_wp2_with (with_reducible refine halt_at (o := ⟨some 5, _, _, _, _, _⟩) ?_)
  refine go_on ?_
  refine wpList_copy_splice rfl (.tmp 3) (.tmp 4) 29 29 rfl 3 Tryz.underlying29 ?c0 (some ⟨w.heap.size, 0, none⟩) A 10 10 xs.length c rfl rfl w.heap.size 0 [.int .i64 0, .int .i64 0, .int .i64 0, .int .i64 0, .int .i64 0, .int .i64 0, .int .i64 0, .int .i64 0, .int .i64 0, .int .i64 0] 108 (heap_alloc_new w _) (xs.map (Value.int .i64)) ?c1 ?c2 ?c3 ?c4 w.heap.size w ((Below.refl _ _).alloc (Nat.le_refl _) _) (Nat.le_refl _) ?_
  case c0 => kernel_rfl
  case c1 => rw [List.length_map]; exact (Nat.min_eq_left hn).symm
  case c2 =>
    intro h0
    rw [List.length_map] at h0
    obtain ⟨b, o, rfl, hcell⟩ := HC.out h0
    refine ⟨rfl, _, rfl, fun j v hj => ?_⟩
    have hjl : j < xs.length := by
      rcases Nat.lt_or_ge j xs.length with h | h
      · exact h
      · simp [List.getElem?_eq_none h] at hj
    have he : v = .int .i64 (at0 xs j) := by simp [List.getElem?_eq_getElem hjl] at hj; simp [at0, ← hj, List.getD_eq_getElem?_getD, List.getElem?_eq_getElem hjl]
    subst he
    have ha : (⟨b, o, none⟩ : Addr).add j = ⟨b, o + j, none⟩ := by unfold Addr.add; split <;> simp_all
    rw [ha]
    exact (cell_alloc_lt _ (cell_lt (hcell j hjl))).trans (hcell j hjl)
  case c3 => simp; omega
  case c4 => intro v hv; simp only [List.mem_map] at hv; obtain ⟨_, _, rfl⟩ := hv; rfl
  intro w1 hg1 hb1
  have b1 : w1.heap[w.heap.size]? = some (.cells #[.int .i64 (rngM (at0 xs) xs.length 0), .int .i64 (rngM (at0 xs) xs.length 1), .int .i64 (rngM (at0 xs) xs.length 2), .int .i64 (rngM (at0 xs) xs.length 3), .int .i64 (rngM (at0 xs) xs.length 4), .int .i64 (rngM (at0 xs) xs.length 5), .int .i64 (rngM (at0 xs) xs.length 6), .int .i64 (rngM (at0 xs) xs.length 7), .int .i64 (rngM (at0 xs) xs.length 8), .int .i64 (rngM (at0 xs) xs.length 9)] 108 (0, 0)) := by rw [← splice_rngM xs hn]; exact hg1.out
  clear hg1
  have hcc := blk_cell b1
  have hf : ∀ j, w1.frozen? ⟨w.heap.size, j, none⟩ = false := fun j => frozen_of_row w1 _ j _ _ b1
  go_wp2
  refine bodyPost_ret (v := .agg #[.int .i64 (rngM (at0 xs) xs.length 0), .int .i64 (rngM (at0 xs) xs.length 1), .int .i64 (rngM (at0 xs) xs.length 2), .int .i64 (rngM (at0 xs) xs.length 3), .int .i64 (rngM (at0 xs) xs.length 4), .int .i64 (rngM (at0 xs) xs.length 5), .int .i64 (rngM (at0 xs) xs.length 6), .int .i64 (rngM (at0 xs) xs.length 7), .int .i64 (rngM (at0 xs) xs.length 8), .int .i64 (rngM (at0 xs) xs.length 9)]) (results_cell_row (fn := Tryz.f71) (p := 2) (ty := 108) rfl _ _ w.heap.size 108 _ (0, 0) _ rfl ?hg Tryz.underlying108 rfl (by kernel_rfl)) rfl ⟨rfl, by go_grown⟩
  repeat (refine heap_set_same ?_ rfl)
  exact b1
end Go.Proofs.YtlcakmbejjlmeaaGreat
/- The contracts of errand's 'late', 'sure', 'rank', 'before': what a walk may come to. -/
set_option linter.unusedVariables false
set_option linter.unusedSimpArgs false
namespace Go.Proofs.YtlcakmbejjlmeaaGreat
open Go.RowKit

/-- The first index below n at which P says yes; n, if there is none. -/
def firstT (P : Nat → Bool) : Nat → Nat
  | 0 => 0
  | n + 1 => if firstT P n < n then firstT P n else if P n then n else n + 1
theorem firstT_none {P : Nat → Bool} : ∀ {n : Nat}, (∀ j, j < n → P j = false) → firstT P n = n
  | 0, _ => rfl
  | n + 1, h => by
    have ih := firstT_none (P := P) (n := n) fun j hj => h j (by omega)
    simp [firstT, ih, h n (by omega)]
theorem firstT_at {P : Nat → Bool} {k : Nat} (hk : P k = true) (h : ∀ j, j < k → P j = false) : ∀ {n : Nat}, k < n → firstT P n = k
  | 0, hn => by omega
  | n + 1, hn => by
    by_cases e : k = n
    · subst e; simp [firstT, firstT_none h, hk]
    · simp [firstT, firstT_at hk h (n := n) (by omega), show k < n by omega]
theorem firstT_spec (P : Nat → Bool) (n : Nat) : firstT P n ≤ n ∧ (∀ j, j < firstT P n → P j = false) ∧ (firstT P n < n → P (firstT P n) = true) := by
  induction n with
  | zero => simp [firstT]
  | succ n ih =>
    obtain ⟨h1, h2, h3⟩ := ih
    by_cases hlt : firstT P n < n
    · simp only [firstT, if_pos hlt]; exact ⟨by omega, h2, fun _ => h3 hlt⟩
    · have e : firstT P n = n := by omega
      rw [e] at h2
      simp only [firstT, e, Nat.lt_irrefl, if_false]
      by_cases hp : P n = true
      · simp only [hp, if_true]; exact ⟨by omega, h2, fun _ => trivial⟩
      · simp only [hp]
        refine ⟨by simp, fun j hj => ?_, fun h => ?_⟩
        · simp at hj
          by_cases hjn : j = n
          · subst hjn; simpa using hp
          · exact h2 j (by omega)
        · simp at h

structure ErrOk (w : World) (n : Nat) (H : Option Addr) (hcap : Nat) (S : Option Addr) (sn sc : Nat) (home streets : List Rng) (start : Int) : Prop where
  n4 : n ≤ 4
  rh : IsRngs w (.slice H n hcap) home
  hl : home.length = n
  rs : IsRngs w (.slice S sn sc) streets
  sl : streets.length = sn
  s10 : sn ≤ 10
  lo : ∀ i, i < n → 0 ≤ rLo home i ∧ rLo home i ≤ 1439
  st : ∀ j, j < sn → 0 ≤ rLo streets j ∧ rLo streets j ≤ rHi streets j ∧ rHi streets j ≤ 60
  a0 : 0 ≤ start
  a1 : start ≤ 1439
theorem ErrOk.ext {w w' : World} {n : Nat} {H : Option Addr} {hcap : Nat} {S : Option Addr} {sn sc : Nat} {home streets : List Rng} {start : Int} (h : ErrOk w n H hcap S sn sc home streets start) (e : Ext w w') : ErrOk w' n H hcap S sn sc home streets start :=
  { h with rh := h.rh.ext e, rs := h.rs.ext e }
theorem ErrOk.slow {w : World} {n : Nat} {H : Option Addr} {hcap : Nat} {S : Option Addr} {sn sc : Nat} {home streets : List Rng} {start : Int} (h : ErrOk w n H hcap S sn sc home streets start) : MinsOk (rngM (rHi streets) sn) :=
  ⟨fun j _ => by unfold rngM; split; · have := h.st j (by assumption); omega
                 · omega, fun j _ => by unfold rngM; split; · have := h.st j (by assumption); omega
                                        · omega⟩
theorem ErrOk.quick {w : World} {n : Nat} {H : Option Addr} {hcap : Nat} {S : Option Addr} {sn sc : Nat} {home streets : List Rng} {start : Int} (h : ErrOk w n H hcap S sn sc home streets start) : MinsOk (rngM (rLo streets) sn) :=
  ⟨fun j _ => by unfold rngM; split; · have := h.st j (by assumption); omega
                 · omega, fun j _ => by unfold rngM; split; · have := h.st j (by assumption); omega
                                        · omega⟩
theorem calls_e {w : World} {n : Nat} {H : Option Addr} {hcap : Nat} {S : Option Addr} {sn sc : Nat} {home streets : List Rng} {start : Int} (h : ErrOk w n H hcap S sn sc home streets start) (pv wv : Value) (wrong calls : Int) (A : Option Addr) (c : Nat) (m : Nat → Int) (hm : MinsOk m) (walk : List Int) (hW : IsInts w wv walk) (hwalk : WalkOk n walk) :
    Calls Tryz.prog 70 #[.agg #[.slice A n c, pv, .int .i64 wrong, .slice H n hcap, .slice S sn sc, .int .i64 start, .int .i64 calls], .agg #[.int .i64 (m 0), .int .i64 (m 1), .int .i64 (m 2), .int .i64 (m 3), .int .i64 (m 4), .int .i64 (m 5), .int .i64 (m 6), .int .i64 (m 7), .int .i64 (m 8), .int .i64 (m 9)], wv] w
      fun e w' => ∃ v, e = .returned v ∧ IsInts w' v (callsL n (rLo home) m start walk) ∧ Ext w w' :=
  calls_c n pv _ wv wrong start calls A c h.n4 H hcap home m walk w h.rh h.hl hW hwalk hm h.lo h.a0 h.a1

/-- Is the call number k of a walk too late, with these minutes of the streets? -/
def lateP (n : Nat) (home : List Rng) (m : Nat → Int) (start : Int) (walk : List Int) (k : Nat) : Bool := decide (rHi home (at0 walk k).toNat < minAt n (rLo home) m start walk (k + 1))
def lateF (n : Nat) (home streets : List Rng) (start : Int) (walk : List Int) : Nat := firstT (lateP n home (rngM (rHi streets) streets.length) start walk) walk.length

set_option maxHeartbeats 1600000 in
set_option maxRecDepth 100000 in
theorem late_c {w : World} {n : Nat} {H : Option Addr} {hcap : Nat} {S : Option Addr} {sn sc : Nat} {home streets : List Rng} {start : Int} (h : ErrOk w n H hcap S sn sc home streets start) (pv wv : Value) (wrong calls : Int) (A : Option Addr) (c : Nat) (walk : List Int) (hW : IsInts w wv walk) (hwalk : WalkOk n walk) :
    Calls Tryz.prog 83 #[.agg #[.slice A n c, pv, .int .i64 wrong, .slice H n hcap, .slice S sn sc, .int .i64 start, .int .i64 calls], wv] w
      fun e w' => e = .returned (.int .i64 ((lateF n home streets start walk : Nat) : Int)) ∧ Ext w w' := by
  have KE := hid h
  have KW := hid hW
  have KK := hid hwalk
  obtain ⟨hwl, V, vc, rfl, hWc⟩ := hW
  have HW := hid hWc
  clear h hWc hwalk
  go_enter Tryz.func83, Tryz.ntmps83

  go_wp2_with fail
  go_step3
  go_wp2_with fail
  go_step3
  go_wp2_with fail
  refine wp_gen ?_
  intro W0 hW0
  have hB0 : Below w.heap.size w W0 := by rw [hW0]; go_grown
  have b1 : W0.heap[w.heap.size]? = some (.cells #[.slice A n c, pv, .int .i64 wrong, .slice H n hcap, .slice S sn sc, .int .i64 start, .int .i64 calls] 41 (0, 0)) := by rw [hW0]; exact (by repeat (first | exact heap_alloc_at _ _ (by simp) | refine heap_alloc_keep ?_))
  clear hW0
  have f1 := ext_blk b1
  have e0 : Ext W0 W0 := ext_refl W0
  go_region_held3 (fun W => Ext W0 W)
    (first | exact Below.drew (by assumption) | assumption | exact ext_trans (by assumption) (by assumption))
    (first
      | (go_at_call 81; refine (slow_c _ _ _ _ _ _ S sn sc streets _ (KE.out.rs.ext (ext_trans hB0 (by assumption))) KE.out.s10).mono ?_; rintro e w1 ⟨rfl, hB1⟩)
      | (go_at_call 70; refine (calls_e (KE.out.ext (ext_trans hB0 (by assumption))) pv _ wrong calls A c (rngM (rHi streets) sn) KE.out.slow walk (KW.out.ext (ext_trans hB0 (by assumption))) KK.out).mono ?_; rintro e w2 ⟨lv, rfl, hlv, hB2⟩; obtain ⟨hll, L, lc, hle, hLc⟩ := hlv; rw [callsL_len] at hle hLc; subst hle))
  have e2 : Ext W0 w2 := by assumption
  have HL := hid hLc
  clear hLc
  go_wp2
  go_loopw [5, 16] (fun r i wr => ∃ k : Nat, k ≤ walk.length ∧ i = .int .i64 k ∧ r = .int .i64 (walk.length : Int) ∧ (∀ j, j < k → lateP n home (rngM (rHi streets) sn) start walk j = false) ∧ Ext w2 wr) (fun _ i _ => walk.length - (intOf i).toNat)
  case atStart => exact ⟨0, Nat.zero_le _, rfl, rfl, fun j hj => absurd hj (Nat.not_lt_zero j), ext_refl _⟩
  case round =>
    obtain ⟨k, hk, rfl, rfl, hno, hE⟩ := hrel
    have HN := hid hno
    clear hno
    have hc1 := blk_cell (ext_blk_keep (ext_trans e2 hE) b1)
    have hend : Ext w wr := ext_trans hB0 (ext_trans e2 hE)
    have hsl := hid KE.out.sl
    by_cases hlt : k < walk.length
    · obtain ⟨b, o, hV, hcell⟩ := HW.out (by omega)
      subst hV
      obtain ⟨lb, lo, hLL, hlcell⟩ := HL.out (by omega)
      subst hLL
      obtain ⟨hb, ho, hH, hhc⟩ := KE.out.rh.at (by have := KK.out.hi k hlt; have := KK.out.lo k hlt; omega)
      subst hH
      obtain ⟨q, hq⟩ : ∃ q : Nat, at0 walk k = q := ⟨_, (Int.toNat_of_nonneg (KK.out.lo k hlt)).symm⟩
      have hqn : q < n := by have := KK.out.hi k hlt; omega
      have hcw : wr.cell? ⟨b, o + k, none⟩ = some (.int .i64 (q : Int)) := by rw [← hq]; exact cell_ext hend (hcell k hlt)
      have hch : wr.cell? ⟨hb, ho + q * 2 + 1, none⟩ = some (.int .i64 (rHi home q)) := cell_ext hend (hhc q hqn).2
      have hcl : wr.cell? ⟨lb, lo + k, none⟩ = some (.int .i64 (minAt n (rLo home) (rngM (rHi streets) sn) start walk (k + 1))) := by
        rw [cell_ext hE (hlcell k hlt)]
        simp [callsL, at0, hlt]
      have hlp : Hid (lateP n home (rngM (rHi streets) sn) start walk k = decide (rHi home q < minAt n (rLo home) (rngM (rHi streets) sn) start walk (k + 1))) := hid (by simp only [lateP, hq, Int.toNat_natCast])
      have hk0 : (0 : Int) ≤ (k : Int) := by omega
      have hk1 : (k : Int) < (walk.length : Int) := by omega
      have hq0 : (0 : Int) ≤ (q : Int) := by omega
      have hq1 : (q : Int) < (n : Int) := by omega
      clear hcell hlcell hhc hq
      by_cases hl : rHi home q < minAt n (rLo home) (rngM (rHi streets) sn) start walk (k + 1)
      · go_wp2
        go_quiet (fail)
        go_wp2
        rw [Exit.noGoto_ret]
        go_ret
        exact ⟨ret_int (by rw [lateF, hsl.out, firstT_at (by rw [hlp.out]; simpa using hl) HN.out hlt]), ext_drewN hend nq⟩
      · go_wp2
        go_quiet (fail)
        go_wp2
        go_roundw
        case rel => exact ⟨k + 1, hlt, by go_num, rfl, fun j hj => by
          rcases Nat.lt_succ_iff_lt_or_eq.1 hj with h | rfl
          · exact HN.out j h
          · rw [hlp.out]; simpa using hl, ext_drewN hE nq⟩
        case measure => simp [intOf]; omega
    · obtain rfl : k = walk.length := by omega
      go_wp2
      rw [Exit.noGoto_ret]
      go_ret
      exact ⟨ret_int (by rw [lateF, hsl.out, firstT_none HN.out]), hend⟩
end Go.Proofs.YtlcakmbejjlmeaaGreat
/- The contracts of errand's 'sure', 'before', 'walk', 'truth'. -/
set_option linter.unusedVariables false
set_option linter.unusedSimpArgs false
namespace Go.Proofs.YtlcakmbejjlmeaaGreat
open Go.RowKit

def sureF (n : Nat) (home streets : List Rng) (start calls : Int) (walk : List Int) : Bool := decide ((walk.length : Int) ≤ calls) && decide (lateF n home streets start walk = walk.length)
set_option maxHeartbeats 800000 in
set_option maxRecDepth 100000 in
theorem sure_c {w : World} {n : Nat} {H : Option Addr} {hcap : Nat} {S : Option Addr} {sn sc : Nat} {home streets : List Rng} {start : Int} (h : ErrOk w n H hcap S sn sc home streets start) (pv wv : Value) (wrong calls : Int) (A : Option Addr) (c : Nat) (walk : List Int) (hW : IsInts w wv walk) (hwalk : WalkOk n walk) :
    Calls Tryz.prog 93 #[.agg #[.slice A n c, pv, .int .i64 wrong, .slice H n hcap, .slice S sn sc, .int .i64 start, .int .i64 calls], wv] w
      fun e w' => e = .returned (.bool (sureF n home streets start calls walk)) ∧ Ext w w' := by
  have KE := hid h
  have KW := hid hW
  have KK := hid hwalk
  obtain ⟨V, vc, rfl⟩ := hW.val
  clear h hwalk hW
  by_cases hle : (walk.length : Int) ≤ calls
  · go_enter Tryz.func93, Tryz.ntmps93
    go_wp2_with (go_at_call 83; refine (late_c (KE.out.ext (by go_grown)) pv _ wrong calls A c walk (KW.out.ext (by go_grown)) KK.out).mono ?_; rintro e w1 ⟨rfl, hB⟩)
    go_ret
    refine ⟨ret_bool ?_, ext_from (b := w.alloc _) (by go_grown) hB (by simp)⟩
    rw [sureF, decide_eq_true hle, Bool.eq_iff_iff]
    simp only [Bool.true_and, decide_eq_true_eq, beq_iff_eq]
    omega
  · go_enter Tryz.func93, Tryz.ntmps93
    go_wp2
    go_ret
    exact ⟨ret_bool (by rw [sureF, decide_eq_false (by omega)]; rfl), by go_grown⟩

set_option maxHeartbeats 800000 in
/-- 'before' of two ranks. -/
theorem before_c (c e c' e' : Int) (w : World) :
    Calls Tryz.prog 100 #[.agg #[.int .i64 c, .int .i64 e], .agg #[.int .i64 c', .int .i64 e']] w
      fun r w' => r = .returned (.bool (decide (c < c') || decide (c = c') && decide (e < e'))) ∧ Ext w w' := by
  by_cases h1 : c < c'
  · have h2 : (c == c') = false := by rw [beq_eq_false_iff_ne]; omega
    go_enter Tryz.func100, Tryz.ntmps100
    go_wp2
    go_ret
    exact ⟨ret_bool (by rw [decide_eq_true h1]; rfl), by go_grown⟩
  · by_cases h2 : c = c'
    · subst h2
      by_cases h3 : e < e'
      · have h4 : (e == e') = false := by rw [beq_eq_false_iff_ne]; omega
        go_enter Tryz.func100, Tryz.ntmps100
        go_wp2
        go_ret
        exact ⟨ret_bool (by simp <;> omega), by go_grown⟩
      · by_cases h4 : e = e'
        · subst h4
          go_enter Tryz.func100, Tryz.ntmps100
          go_wp2
          go_ret
          exact ⟨ret_bool (by simp), by go_grown⟩
        · have h5 : (e == e') = false := by rw [beq_eq_false_iff_ne]; omega
          go_enter Tryz.func100, Tryz.ntmps100
          go_wp2
          go_ret
          exact ⟨ret_bool (by simp <;> omega), by go_grown⟩
    · have h4 : (c == c') = false := by rw [beq_eq_false_iff_ne]; omega
      go_enter Tryz.func100, Tryz.ntmps100
      go_wp2
      go_ret
      exact ⟨ret_bool (by simp <;> omega), by go_grown⟩

/-- Is the element k of a list no call, or the one before it again? -/
def badP (n : Nat) (walk : List Int) (k : Nat) : Bool := !(decide (0 ≤ at0 walk k) && decide (at0 walk k ≤ (n : Int) - 1)) || decide (0 < k) && decide (at0 walk k = at0 walk (k - 1))
def isWalkF (n : Nat) (walk : List Int) : Bool := decide (firstT (badP n walk) walk.length = walk.length) && decide (walk.length ≤ 7)
theorem isWalkF_iff (n : Nat) (walk : List Int) : isWalkF n walk = true ↔ WalkOk n walk := by
  unfold isWalkF
  simp only [Bool.and_eq_true, decide_eq_true_eq]
  constructor
  · rintro ⟨h1, h2⟩
    have h3 := (firstT_spec (badP n walk) walk.length).2.1
    rw [h1] at h3
    have h4 : ∀ i, i < walk.length → 0 ≤ at0 walk i ∧ at0 walk i ≤ (n : Int) - 1 := fun i hi => by
      have := h3 i hi
      simp only [badP, Bool.or_eq_false_iff, Bool.not_eq_false', Bool.and_eq_true, decide_eq_true_eq] at this
      exact this.1
    refine ⟨h2, fun i hi => (h4 i hi).1, fun i hi => by have := (h4 i hi).2; omega, fun i hi => ?_⟩
    have := h3 (i + 1) hi
    simp only [badP, Bool.or_eq_false_iff, Bool.and_eq_false_iff, decide_eq_false_iff_not] at this
    rcases this.2 with h | h
    · omega
    · simpa using h
  · intro h
    refine ⟨firstT_none fun j hj => ?_, h.len⟩
    have h1 := h.lo j hj
    have h2 := h.hi j hj
    simp only [badP, Bool.or_eq_false_iff, Bool.not_eq_false', Bool.and_eq_true, decide_eq_true_eq, Bool.and_eq_false_iff, decide_eq_false_iff_not]
    refine ⟨⟨h1, by omega⟩, ?_⟩
    rcases Nat.eq_zero_or_pos j with h0 | h0
    · exact .inl (by omega)
    · right
      have := h.ne (j - 1) (by omega)
      rwa [Nat.sub_add_cancel h0] at this

theorem isWalkF_false {n : Nat} {walk : List Int} {k : Nat} (hk : k < walk.length) (hb : badP n walk k = true) (h : ∀ j, j < k → badP n walk j = false) : isWalkF n walk = false := by
  rw [isWalkF, firstT_at hb h hk, decide_eq_false (by omega)]; rfl
theorem lt_or_eq_all {p : Nat → Prop} {k : Nat} (h : ∀ j, j < k → p j) (hk : p k) : ∀ j, j < k + 1 → p j := fun j hj => by
  rcases Nat.lt_succ_iff_lt_or_eq.1 hj with h' | rfl
  · exact h j h'
  · exact hk
set_option maxHeartbeats 1600000 in
set_option maxRecDepth 100000 in
theorem walk_c (n : Nat) (pv hv sv : Value) (wrong start calls : Int) (A : Option Addr) (c : Nat) (hn : n ≤ 100) (wv : Value) (walk : List Int) (w : World) (hW : IsInts w wv walk) :
    Calls Tryz.prog 69 #[.agg #[.slice A n c, pv, .int .i64 wrong, hv, sv, .int .i64 start, .int .i64 calls], wv] w
      fun e w' => e = .returned (.bool (isWalkF n walk)) ∧ Ext w w' := by
  have KW := hid hW
  obtain ⟨V, vc, rfl⟩ := hW.val
  have hwl := hW.1
  clear hW
  go_enter Tryz.func69, Tryz.ntmps69
  go_wp2
  go_loopw [9] (fun i wr => ∃ k : Nat, k ≤ walk.length ∧ i = .int .i64 k ∧ (∀ j, j < k → badP n walk j = false) ∧ Ext w wr ∧ wr.heap[w.heap.size]? = some (.cells #[.slice A n c, pv, .int .i64 wrong, hv, sv, .int .i64 start, .int .i64 calls] 41 (0, 0))) (fun i _ => walk.length - (intOf i).toNat)
  case atStart => exact ⟨0, Nat.zero_le _, rfl, fun j hj => absurd hj (Nat.not_lt_zero j), by go_grown, (by repeat (first | exact heap_alloc_at _ _ (by simp) | refine heap_alloc_keep ?_))⟩
  case round =>
    obtain ⟨k, hk, rfl, hno, hE, b1⟩ := hrel
    have HN := hid hno
    clear hno
    have hc1 := blk_cell b1
    have hlt0 : w.heap.size < wr.heap.size := (Array.getElem?_eq_some_iff.1 b1).1
    by_cases hlt : k < walk.length
    · obtain ⟨b, o, hV, hcell⟩ := KW.out.at (by omega)
      subst hV
      have hcw := cell_ext hE (hcell k hlt)
      have hblt := cell_lt hcw
      have hprev : 0 < k → wr.cell? ⟨b, o + (k - 1), none⟩ = some (.int .i64 (at0 walk (k - 1))) := fun _ => cell_ext hE (hcell (k - 1) (by omega))
      obtain ⟨x, hx⟩ : ∃ x, at0 walk k = x := ⟨_, rfl⟩
      rw [hx] at hcw
      have hbad : Hid (badP n walk k = (!(decide (0 ≤ x) && decide (x ≤ (n : Int) - 1)) || decide (0 < k) && decide (x = at0 walk (k - 1)))) := hid (by rw [badP, hx])
      clear hcell hx
      by_cases h1 : 0 ≤ x
      · by_cases h2 : x ≤ (n : Int) - 1
        · by_cases h3 : 0 < k
          · have hp := hprev h3
            obtain ⟨y, hy⟩ : ∃ y, at0 walk (k - 1) = y := ⟨_, rfl⟩
            rw [hy] at hp
            have HY := hid hy
            clear hy hprev
            have hk1 : (0 : Int) ≤ (k : Int) - 1 := by omega
            have hkn : ((k : Int) - 1).toNat = k - 1 := by omega
            by_cases h4 : x = y
            · subst h4
              go_wp2
              go_ret
              exact ⟨ret_bool (isWalkF_false hlt (by have := HY.out; rw [hbad.out, this]; simp <;> omega) HN.out).symm, by go_grown⟩
            · have h5 : (x == y) = false := beq_eq_false_iff_ne.2 h4
              go_wp2
              go_roundw
              case rel => exact ⟨k + 1, hlt, by go_num, lt_or_eq_all HN.out (by have := HY.out; rw [hbad.out, this]; simp <;> omega), by go_grown, (by repeat (first | with_reducible exact b1 | (with_reducible refine heap_set_keep (by omega) ?_) | exact heap_alloc_at _ _ (by simp) | with_reducible refine heap_alloc_keep ?_ | with_reducible refine heap_drew_keep ?_))⟩
              case measure => simp [intOf]; omega
          · go_wp2
            go_roundw
            case rel => exact ⟨k + 1, hlt, by go_num, lt_or_eq_all HN.out (by rw [hbad.out]; simp <;> omega), by go_grown, (by repeat (first | with_reducible exact b1 | (with_reducible refine heap_set_keep (by omega) ?_) | exact heap_alloc_at _ _ (by simp) | with_reducible refine heap_alloc_keep ?_ | with_reducible refine heap_drew_keep ?_))⟩
            case measure => simp [intOf]; omega
        · go_wp2
          go_ret
          exact ⟨ret_bool (isWalkF_false hlt (by rw [hbad.out]; simp <;> omega) HN.out).symm, by go_grown⟩
      · go_wp2
        go_ret
        exact ⟨ret_bool (isWalkF_false hlt (by rw [hbad.out]; simp <;> omega) HN.out).symm, by go_grown⟩
    · obtain rfl : k = walk.length := by omega
      by_cases h7 : walk.length ≤ 7
      · go_wp2
        go_ret
        exact ⟨ret_bool (by rw [isWalkF, firstT_none HN.out]; simp <;> omega), hE⟩
      · go_wp2
        go_ret
        exact ⟨ret_bool (by rw [isWalkF, firstT_none HN.out]; simp <;> omega), hE⟩
end Go.Proofs.YtlcakmbejjlmeaaGreat
/- The contracts of errand's 'truth' and 'rank'. -/
set_option linter.unusedVariables false
set_option linter.unusedSimpArgs false
namespace Go.Proofs.YtlcakmbejjlmeaaGreat
open Go.RowKit

def badT (streets : List Rng) (l : List Int) (k : Nat) : Bool := !(decide (rLo streets k ≤ at0 l k) && decide (at0 l k ≤ rHi streets k))
def isTruthF (streets : List Rng) (l : List Int) : Bool := decide (l.length = streets.length) && decide (firstT (badT streets l) streets.length = streets.length)
theorem isTruthF_iff (streets : List Rng) (l : List Int) : isTruthF streets l = true ↔ l.length = streets.length ∧ ∀ k, k < streets.length → rLo streets k ≤ at0 l k ∧ at0 l k ≤ rHi streets k := by
  unfold isTruthF
  simp only [Bool.and_eq_true, decide_eq_true_eq]
  constructor
  · rintro ⟨h1, h2⟩
    have h3 := (firstT_spec (badT streets l) streets.length).2.1
    rw [h2] at h3
    refine ⟨h1, fun k hk => ?_⟩
    have := h3 k hk
    simpa [badT] using this
  · rintro ⟨h1, h2⟩
    refine ⟨h1, firstT_none fun j hj => ?_⟩
    have := h2 j hj
    simpa [badT] using this
theorem isTruthF_false {streets : List Rng} {l : List Int} {k : Nat} (hk : k < streets.length) (hb : badT streets l k = true) (h : ∀ j, j < k → badT streets l j = false) : isTruthF streets l = false := by
  rw [isTruthF, firstT_at hb h hk, decide_eq_false (show ¬ k = streets.length by omega), Bool.and_false]

theorem has_c (n lo hi : Int) (w : World) : Calls Tryz.prog 104 #[.agg #[.int .i64 lo, .int .i64 hi], .int .i64 n] w fun e w' => e = .returned (.bool (decide (lo ≤ n) && decide (n ≤ hi))) ∧ Ext w w' := by
  by_cases h1 : lo ≤ n
  · go_enter Tryz.func104, Tryz.ntmps104
    go_wp2
    go_ret
    exact ⟨ret_bool (by simp <;> omega), by go_grown⟩
  · go_enter Tryz.func104, Tryz.ntmps104
    go_wp2
    go_ret
    exact ⟨ret_bool (by simp <;> omega), by go_grown⟩

theorem has_b (n lo hi : Int) (x : Bool) (hx : Hid ((!(decide (lo ≤ n) && decide (n ≤ hi))) = x)) (w : World) : Calls Tryz.prog 104 #[.agg #[.int .i64 lo, .int .i64 hi], .int .i64 n] w fun e w' => e = .returned (.bool (!x)) ∧ Ext w w' :=
  (has_c n lo hi w).mono fun e w' ⟨h1, h2⟩ => ⟨by rw [h1, ← hx.out, Bool.not_not], h2⟩
set_option maxHeartbeats 1600000 in
set_option maxRecDepth 100000 in
theorem truth_c (wv pv hv : Value) (wrong start calls : Int) (S : Option Addr) (sn sc : Nat) (streets : List Rng) (lv : Value) (l : List Int) (w : World) (hS : IsRngs w (.slice S sn sc) streets) (hsl : streets.length = sn) (hL : IsInts w lv l) :
    Calls Tryz.prog 68 #[.agg #[wv, pv, .int .i64 wrong, hv, .slice S sn sc, .int .i64 start, .int .i64 calls], lv] w
      fun e w' => e = .returned (.bool (isTruthF streets l)) ∧ Ext w w' := by
  have KL := hid hL
  have KS := hid hS
  have HS := hid hsl
  obtain ⟨V, vc, rfl⟩ := hL.val
  have hwl := hL.1
  have hsn : sn ≤ 140737488355328 := by have := hS.1; omega
  by_cases hlen : l.length = sn
  · have HLEN := hid hlen
    have e1 : ((l.length : Int) != (sn : Int)) = false := by rw [bne_eq_false_iff_eq]; omega
    clear hL hS hsl hlen
    go_enter Tryz.func68, Tryz.ntmps68
    go_wp2
    go_loopw [16] (fun i wr => ∃ k : Nat, k ≤ sn ∧ i = .int .i64 k ∧ (∀ j, j < k → badT streets l j = false) ∧ Ext w wr ∧ wr.heap[w.heap.size]? = some (.cells #[wv, pv, .int .i64 wrong, hv, .slice S sn sc, .int .i64 start, .int .i64 calls] 41 (0, 0))) (fun i _ => sn - (intOf i).toNat)
    case atStart => exact ⟨0, Nat.zero_le _, rfl, fun j hj => absurd hj (Nat.not_lt_zero j), by go_grown, (by repeat (first | exact heap_alloc_at _ _ (by simp) | refine heap_alloc_keep ?_))⟩
    case round =>
      obtain ⟨k, hk, rfl, hno, hE, b1⟩ := hrel
      have HN := hid hno
      clear hno
      have hc1 := blk_cell b1
      have hlt0 : w.heap.size < wr.heap.size := (Array.getElem?_eq_some_iff.1 b1).1
      by_cases hlt : k < sn
      · obtain ⟨b, o, hV, hcell⟩ := KL.out.at (by have := HLEN.out; omega)
        subst hV
        obtain ⟨sb, so, hSS, hscell⟩ := KS.out.at (by omega)
        subst hSS
        have hcw := cell_ext hE (hcell k (by have := HLEN.out; omega))
        have hs1 := cell_ext hE (hscell k hlt).1
        have hs2 := cell_ext hE (hscell k hlt).2
        have hk0 : (0 : Int) ≤ (k : Int) := by omega
        have hk1 : (k : Int) < (l.length : Int) := by have := HLEN.out; omega
        obtain ⟨x, hx⟩ : ∃ x, badT streets l k = x := ⟨_, rfl⟩
        have HX := hid hx
        clear hx
        have hbad : Hid (badT streets l k = !(decide (rLo streets k ≤ at0 l k) && decide (at0 l k ≤ rHi streets k))) := hid rfl
        clear hcell hscell
        go_wp2
        refine wp_gen ?_
        intro W0 hW0
        have hB0 : Ext wr W0 := by rw [hW0]; go_grown
        have b6 : W0.heap[wr.heap.size]? = some (.cells #[.int .i64 (rLo streets k), .int .i64 (rHi streets k)] 57 (0, 0)) := by rw [hW0]; exact (by repeat (first | exact heap_alloc_at _ _ (by simp) | refine heap_alloc_keep ?_))
        clear hW0 hs1 hs2
        have f1 := ext_blk b6
        have f2 := ext_cell hcw hB0 (Nat.le_refl _)
        have e0 : Ext W0 W0 := ext_refl W0
        go_region_held3 (fun W => Ext W0 W)
          (first | exact Below.drew (by assumption) | assumption | exact ext_trans (by assumption) (by assumption))
          ((go_at_call 104; refine (has_b _ _ _ x (hid (by rw [← hbad.out, HX.out])) _).mono ?_; rintro e w1 ⟨rfl, hB1⟩))
        have e1' : Ext W0 w1 := by assumption
        have hE1 : Ext w w1 := ext_trans (ext_trans hE hB0) e1'
        have b1' := ext_blk_keep (ext_trans hB0 e1') b1
        cases x
        · go_wp2
          go_roundw
          case rel => exact ⟨k + 1, hlt, by go_num, lt_or_eq_all HN.out HX.out, hE1, b1'⟩
          case measure => simp [intOf]; omega
        · go_wp2
          go_ret
          exact ⟨ret_bool (isTruthF_false (by have := HS.out; omega) HX.out HN.out).symm, hE1⟩
      · obtain rfl : k = sn := by omega
        go_wp2
        go_ret
        exact ⟨ret_bool (by rw [isTruthF, HS.out, firstT_none HN.out, HLEN.out]; simp), hE⟩
  · have e1 : ((l.length : Int) != (sn : Int)) = true := by rw [bne_iff_ne]; omega
    go_enter Tryz.func68, Tryz.ntmps68
    go_wp2
    go_ret
    exact ⟨ret_bool (by rw [isTruthF, hsl, decide_eq_false hlen]; rfl), by go_grown⟩

section
variable {P : Program} {ops : Array Oper} {o : Oper} {a : Act} {K : Act → World → Prop} {Q : Exit → Act → World → Prop} {E : Prop}
theorem run_app_ints {w : World} (t ty e : TypeId) (ht : P.underlying t = some (.slice e))
    (hinfo : (P.info? e).map (fun i => (i.zero, i.size, i.bytes)) = some (some (.int .i64 0), 1, 8))
    (base : Nat) (v : Value) (n : Nat) (xs : List Int) (hown : w.ownsRow base e 1 v n (xs.map (Value.int .i64))) (xv : Value) (ys : List Int) (hys : IsInts w xv ys) (hbase : base ≤ w.heap.size) (hl : n + ys.length ≤ 1000000) :
    ∃ v' w', (Builtin.append_ #[t, t] ty #[v, xv]).run P w = .ok v' w' ∧ w'.ownsRow base e 1 v' (n + ys.length) ((xs ++ ys).map (Value.int .i64)) ∧ w.grownBy w' v.ownBlock := by
  obtain ⟨i0, hi, hzz⟩ := Option.map_eq_some_iff.1 hinfo
  simp only [Prod.mk.injEq] at hzz
  obtain ⟨hz0, hz1, hz2⟩ := hzz
  obtain ⟨_, A, c, rfl, hc⟩ := hys
  rcases Nat.eq_zero_or_pos ys.length with h0 | h0
  · obtain rfl : ys = [] := List.eq_nil_of_length_eq_zero h0
    refine ⟨v, w, ?_, by simpa using hown, World.grownBy.refl w _⟩
    rcases A with _ | ad
    · rcases hown.2 with ⟨rfl, hn⟩ | ⟨g, cap, cur, rfl, _, _, hnc, _⟩
      · simp [Builtin.append_, run_underlying ht, sizeOf, typeInfo, hi, Builtin.lenOf, Builtin.firstCells]
      · simp [Builtin.append_, run_underlying ht, sizeOf, typeInfo, hi, Builtin.lenOf, Builtin.firstCells, hnc, storeCells]
    · rcases hown.2 with ⟨rfl, hn⟩ | ⟨g, cap, cur, rfl, _, _, hnc, _⟩
      · simp [Builtin.append_, run_underlying ht, sizeOf, typeInfo, hi, Builtin.lenOf, Builtin.firstCells, loadCells, loadCellsFrom]
      · simp [Builtin.append_, run_underlying ht, sizeOf, typeInfo, hi, Builtin.lenOf, Builtin.firstCells, hnc, storeCells, loadCells, loadCellsFrom]
  · obtain ⟨b, o', rfl, hcell⟩ := hc h0
    have hcells : ∀ j u, (ys.map (Value.int .i64))[j]? = some u → w.cell? ((⟨b, o', none⟩ : Addr).add j) = some u := by
      intro j u hu
      have hj : j < ys.length := by
        rcases Nat.lt_or_ge j ys.length with h | h
        · exact h
        · simp [List.getElem?_eq_none h] at hu
      have he : u = .int .i64 (at0 ys j) := by simp [List.getElem?_eq_getElem hj] at hu; simp [at0, ← hu, List.getD_eq_getElem?_getD, List.getElem?_eq_getElem hj]
      subst he
      have ha : (⟨b, o', none⟩ : Addr).add j = ⟨b, o' + j, none⟩ := by unfold Addr.add; split <;> simp_all
      rw [ha]; exact hcell j hj
    obtain ⟨v1, w1, hr, h2, h3, _, _⟩ := run_append_own_at (P := P) w base t ty e i0 (.int .i64 0) 1 8 ht hi hz0 hz1 hz2 rfl (by omega) v n (xs.map (Value.int .i64)) hown ⟨b, o', none⟩ ys.length c (ys.map (Value.int .i64)) (by simp) hcells
      (by intro u hu; simp only [List.mem_map] at hu; obtain ⟨q, _, rfl⟩ := hu; rfl) (by simp only [maxLen]; omega) (by omega) hbase
    exact ⟨v1, w1, hr, by simpa using h2, h3⟩
theorem step_app_ints {w : World} (hgd : o.guard = none) (s x : Operand) (t e : TypeId)
    (ho : o.op = .call { callee := .builtin .append, args := #[s, x], argTypes := #[t, t] }) (ht : P.underlying t = some (.slice e))
    (hinfo : (P.info? e).map (fun i => (i.zero, i.size, i.bytes)) = some (some (.int .i64 0), 1, 8))
    (base : Nat) (v : Value) (n : Nat) (xs : List Int) (hs : a.eval s = v) (hown : w.ownsRow base e 1 v n (xs.map (Value.int .i64))) (xv : Value) (ys : List Int) (m : Nat) (hm : ys.length = m) (hx : a.eval x = xv) (hys : IsInts w xv ys) (hbase : base ≤ w.heap.size) (hl : n + m ≤ 1000000)
    (h : ∀ A cap w', w'.ownsRow base e 1 (.slice A (n + m) cap) (n + m) ((xs ++ ys).map (Value.int .i64)) → Below base w w' → w.grownBy w' v.ownBlock → K (a.put o.dst (.slice A (n + m) cap)) w') :
    if Region.wanted o (yielded ops a.tmps) = true then Oper.wp P o a w K Q else E := by
  have hw : Region.wanted o (yielded ops a.tmps) = true := by simp [Region.wanted, hgd]
  rw [if_pos hw]
  obtain ⟨v1, w1, hr, h2, h3⟩ := run_app_ints t o.type e ht hinfo base v n xs hown xv ys hys hbase (by omega)
  rw [hm] at h2
  have hv1 : ∃ A cap, v1 = .slice A (n + m) cap := by
    rcases h2.2 with ⟨rfl, h0⟩ | ⟨g, cap, cur, rfl, _⟩
    · exact ⟨none, 0, by rw [h0]⟩
    · exact ⟨_, cap, rfl⟩
  obtain ⟨A, cap, rfl⟩ := hv1
  unfold Oper.wp execOp
  simp only [ho, resolve, invoke, builtin, Sem.run_bind, Sem.run_pure, Result.andThen_ok, List.map_toArray, List.map_cons, List.map_nil, hs, hx, hr]
  exact h A cap w1 h2 ((Below.refl base w).grown h3 hbase fun k hk => (own_block hown k hk).1) h3
end
theorem ext_alloc {w w1 : World} (h : Ext w w1) (o : Obj) : Ext w (w1.alloc o) := h.alloc h.size o
theorem own_drew {w : World} {base : Nat} {e : TypeId} {size n : Nat} {v : Value} {xs : List Value} (h : w.ownsRow base e size v n xs) : w.drew.ownsRow base e size v n xs := h
theorem own_one (W : World) (base : Nat) (e : TypeId) (x : Int) (hb : base ≤ W.heap.size) : (W.alloc (.cells #[.int .i64 x] e)).ownsRow base e 1 (.slice (some ⟨W.heap.size, 0, none⟩) 1 1) 1 ([x].map (Value.int .i64)) := by
  have h := World.ownsRow_lit (base := base) (e := e) (size := 1) W #[.int .i64 x] 1 hb (by decide) (by simp)
  simpa using h
def endF (n : Nat) (home streets : List Rng) (start : Int) (walk : List Int) : Int := minAt n (rLo home) (rngM (rHi streets) streets.length) start walk walk.length
theorem endF_at (n : Nat) (lo : Nat → Int) (m : Nat → Int) (start : Int) (walk : List Int) : at0 ([start] ++ callsL n lo m start walk) walk.length = minAt n lo m start walk walk.length := by
  cases h : walk.length with
  | zero => simp [at0, minAt]
  | succ k => simp [at0, callsL, h]
set_option maxHeartbeats 3200000 in
set_option maxRecDepth 100000 in
theorem rank_c {w : World} {n : Nat} {H : Option Addr} {hcap : Nat} {S : Option Addr} {sn sc : Nat} {home streets : List Rng} {start : Int} (h : ErrOk w n H hcap S sn sc home streets start) (pv wv : Value) (wrong calls : Int) (A : Option Addr) (c : Nat) (walk : List Int) (hW : IsInts w wv walk) (hwalk : WalkOk n walk) :
    Calls Tryz.prog 99 #[.agg #[.slice A n c, pv, .int .i64 wrong, .slice H n hcap, .slice S sn sc, .int .i64 start, .int .i64 calls], wv] w
      fun e w' => e = .returned (.agg #[.int .i64 (walk.length : Int), .int .i64 (endF n home streets start walk)]) ∧ Ext w w' := by
  have KE := hid h
  have KW := hid hW
  have KK := hid hwalk
  obtain ⟨V, vc, rfl⟩ := hW.val
  have hwl := hW.1
  clear h hwalk hW
  go_enter Tryz.func99, Tryz.ntmps99
  go_wp2
  refine wp_gen ?_
  intro W0 hW0
  have hB0 : Ext w W0 := by rw [hW0]; go_grown
  have b1 : W0.heap[w.heap.size]? = some (.cells #[.slice A n c, pv, .int .i64 wrong, .slice H n hcap, .slice S sn sc, .int .i64 start, .int .i64 calls] 41 (0, 0)) := by rw [hW0]; exact (by repeat (first | exact heap_alloc_at _ _ (by simp) | refine heap_alloc_keep ?_))
  have b2 : W0.heap[w.heap.size + 1]? = some (.cells #[.int .i64 0, .int .i64 0] 150 (0, 0)) := by rw [hW0]; exact (by repeat (first | exact heap_alloc_at _ _ (by simp) | refine heap_alloc_keep ?_))
  clear hW0
  have f1 := ext_blk b1
  have e0 : Ext W0 W0 := ext_refl W0
  go_region_held3 (fun W => Ext W0 W)
    (first | exact Below.drew (by assumption) | assumption | exact ext_trans (by assumption) (by assumption) | exact ext_alloc (by assumption) _ | exact Below.trans (by assumption) (by assumption) | go_grown)
    (first
      | (go_at_call 81; refine (slow_c _ _ _ _ _ _ S sn sc streets _ (KE.out.rs.ext (ext_trans hB0 (by assumption))) KE.out.s10).mono ?_; rintro e w1 ⟨rfl, hB1⟩)
      | (go_at_call 70; refine (calls_e (KE.out.ext (ext_trans hB0 (by assumption))) pv _ wrong calls A c (rngM (rHi streets) sn) KE.out.slow walk (KW.out.ext (ext_trans hB0 (by assumption))) KK.out).mono ?_; rintro e w2 ⟨lv, rfl, hlv, hB2⟩; obtain ⟨hll, L, lc, hle, hLc⟩ := hlv; rw [callsL_len] at hle hLc; subst hle; have hlv2 : IsInts w2 (.slice L walk.length lc) (callsL n (rLo home) (rngM (rHi streets) sn) start walk) := ⟨hll, L, lc, by rw [callsL_len], by rw [callsL_len]; exact hLc⟩)
      | (refine step_app_ints (by rfl) _ _ 29 3 (by rfl) Tryz.underlying29 info_int W0.heap.size _ 1 [start] (by rfl) ?c1 _ (callsL n (rLo home) (rngM (rHi streets) sn) start walk) walk.length (callsL_len _ _ _ _ _) (by rfl) ?c2 ?c3 ?c4 ?_
         case c1 =>
           have h1 := hB1.size
           have h2 := hB2.size
           try simp at h1 h2
           first
             | exact own_one w2 W0.heap.size 3 start (by omega)
             | exact own_ext (own_one w1 W0.heap.size 3 start (by omega)) hB2
             | (have hA : w2.ownsRow W0.heap.size 3 1 (.slice (some ⟨W0.heap.size, 0, none⟩) 1 1) 1 ([start].map (Value.int .i64)) := own_ext (own_ext (w := (W0.alloc (.cells #[.int .i64 start] 3)).drew) (own_one W0 W0.heap.size 3 start (Nat.le_refl _)) hB1) hB2
                exact hA)
         case c2 => first | exact hlv2 | exact hlv2.ext (by go_grown)
         case c3 => have h1 := hB1.size
                    have h2 := hB2.size
                    simp at h1 h2 ⊢; omega
         case c4 => have := KK.out.len; omega
         intro A3 cap3 w3 hown3 hB3 hg3))
  all_goals
    have e3 : Ext W0 w3 := by assumption
    have b2' := ext_blk_keep e3 b2
    have hc2 := blk_cell b2'
    have hf2 : ∀ j, w3.frozen? ⟨w.heap.size + 1, j, none⟩ = false := fun j => frozen_of_row w3 _ j _ _ b2'
    have hI : IsInts w3 (.slice A3 (1 + walk.length) cap3) ([start] ++ callsL n (rLo home) (rngM (rHi streets) sn) start walk) := own_ints hown3 (by rw [List.length_append, callsL_len]; have := KK.out.len; simp; omega)
    obtain ⟨b, o, hA, hcell⟩ := hI.at (by omega)
    subst hA
    have hce := hcell walk.length (by omega)
    rw [endF_at] at hce
    have HSL := hid KE.out.sl
    have hcf : w3.cell? ⟨b, o + (1 + walk.length - 1), none⟩ = some (.int .i64 (minAt n (rLo home) (rngM (rHi streets) sn) start walk walk.length)) := by rw [Nat.add_sub_cancel_left]; exact hce
    clear hcell hown3 hg3 hI
    go_wp2
    refine bodyPost_ret (v := .agg #[.int .i64 (walk.length : Int), .int .i64 (minAt n (rLo home) (rngM (rHi streets) sn) start walk walk.length)]) (results_cell_row (fn := Tryz.f99) (p := 4) (ty := 150) rfl _ _ (w.heap.size + 1) 150 _ (0, 0) _ rfl (heap_set_at (heap_set_at b2' rfl) rfl) Tryz.underlying150 rfl (by kernel_rfl)) rfl ⟨by rw [endF, HSL.out], ?_⟩
    have := ext_trans hB0 e3
    go_grown
end Go.Proofs.YtlcakmbejjlmeaaGreat
/- The contracts of slices.Index, slices.Contains, of bundle's 'of', and of the chains IndexFunc, ContainsFunc, all. -/
set_option linter.unusedVariables false
set_option linter.unusedSimpArgs false
namespace Go.Proofs.YtlcakmbejjlmeaaGreat
open Go.RowKit

section
variable {P : Program} {ops : Array Oper} {rest : List Oper} {o : Oper} {a : Act} {Q : Exit → Act → World → Prop}
theorem app_cellsH {W : World} (hgd : o.guard = none) (s x : Operand) (t e : TypeId) (z : Value) (bytes : Nat) (cs : Array Value)
    (ho : o.op = .call { callee := .builtin .append, args := #[s, x], argTypes := #[t, t] }) (ht : P.underlying t = some (.slice e))
    (hinfo : (P.info? e).map (fun i => (i.zero, i.size, i.bytes)) = some (some z, cs.size, bytes)) (hzs : z.cells.size = cs.size) (hsz : 0 < cs.size) (hby : bytes ≤ 100) (h1 : ∀ u ∈ cs.toList, u.oneCell' = true)
    (base : Nat) (v : Value) (n : Nat) (xs : List Value) (H : Nat) (hs : a.eval s = v) (hx : a.eval x = .slice (some ⟨H, 0, none⟩) 1 1) (hH : W.heap.size = H)
    (HO : W.ownsRow base e cs.size v n xs) (hbase : base ≤ W.heap.size) (hl : n ≤ 1000000)
    (h : ∀ g cap w1, w1.ownsRow base e cs.size (.slice (some ⟨g, 0, none⟩) (n + 1) cap) (n + 1) (xs ++ cs.toList) → Below base W w1 → W.grownBy w1 v.ownBlock → g < w1.heap.size → base ≤ g → wpList P ops Q rest (a.put o.dst (.slice (some ⟨g, 0, none⟩) (n + 1) cap)) w1) :
    wpList P ops Q (o :: rest) a (W.alloc (.cells cs e)) := by
  subst hH
  exact app_cells hgd s x t e z bytes cs ho ht hinfo hzs hsz hby h1 base v n xs hs hx HO hbase hl h
theorem app_intH {W : World} (hgd : o.guard = none) (s x : Operand) (t e : TypeId)
    (ho : o.op = .call { callee := .builtin .append, args := #[s, x], argTypes := #[t, t] }) (ht : P.underlying t = some (.slice e))
    (hinfo : (P.info? e).map (fun i => (i.zero, i.size, i.bytes)) = some (some (.int .i64 0), 1, 8))
    (base : Nat) (v : Value) (n : Nat) (xs : List Int) (y : Int) (H : Nat) (hs : a.eval s = v) (hx : a.eval x = .slice (some ⟨H, 0, none⟩) 1 1) (hH : W.heap.size = H)
    (HO : W.ownsRow base e 1 v n (xs.map (Value.int .i64))) (hbase : base ≤ W.heap.size) (hl : n ≤ 1000000)
    (h : ∀ g cap w1, w1.ownsRow base e 1 (.slice (some ⟨g, 0, none⟩) (n + 1) cap) (n + 1) ((xs ++ [y]).map (Value.int .i64)) → Below base W w1 → W.grownBy w1 v.ownBlock → g < w1.heap.size → base ≤ g → wpList P ops Q rest (a.put o.dst (.slice (some ⟨g, 0, none⟩) (n + 1) cap)) w1) :
    wpList P ops Q (o :: rest) a (W.alloc (.cells #[.int .i64 y] e)) := by
  subst hH
  exact app_int hgd s x t e ho ht hinfo base v n xs y hs hx HO hbase hl h
end
def hasF (xs : List Int) (x : Int) : Bool := decide (firstT (fun i => decide (x = at0 xs i)) xs.length < xs.length)
theorem at0_mem {xs : List Int} {k : Nat} (h : k < xs.length) : at0 xs k ∈ xs := by
  have : at0 xs k = xs[k] := by simp [at0, List.getD_eq_getElem?_getD, List.getElem?_eq_getElem h]
  rw [this]; exact List.getElem_mem h
theorem hasF_iff (xs : List Int) (x : Int) : hasF xs x = true ↔ x ∈ xs := by
  unfold hasF
  obtain ⟨h1, h2, h3⟩ := firstT_spec (fun i => decide (x = at0 xs i)) xs.length
  rw [decide_eq_true_eq]
  constructor
  · intro h
    have := h3 h
    simp only [decide_eq_true_eq] at this
    rw [this]
    exact at0_mem h
  · intro h
    obtain ⟨i, hi, he⟩ := List.getElem_of_mem h
    rcases Nat.lt_or_ge (firstT (fun i => decide (x = at0 xs i)) xs.length) xs.length with h' | h'
    · exact h'
    · have := h2 i (by omega)
      simp [at0, List.getD_eq_getElem?_getD, List.getElem?_eq_getElem hi, he] at this
/-- What IndexFunc gives. -/
def idxF (P : Nat → Bool) (n : Nat) : Int := if firstT P n < n then (firstT P n : Int) else -1
theorem idxF_at {P : Nat → Bool} {n k : Nat} (hk : k < n) (h1 : P k = true) (h2 : ∀ j, j < k → P j = false) : idxF P n = k := by
  rw [idxF, firstT_at h1 h2 hk, if_pos hk]
theorem idxF_none {P : Nat → Bool} {n : Nat} (h : ∀ j, j < n → P j = false) : idxF P n = -1 := by
  rw [idxF, firstT_none h, if_neg (Nat.lt_irrefl n)]
theorem idxF_nonneg (P : Nat → Bool) (n : Nat) : decide (0 ≤ idxF P n) = decide (firstT P n < n) := by
  unfold idxF
  by_cases h : firstT P n < n
  · rw [if_pos h, decide_eq_true (by omega), decide_eq_true h]
  · rw [if_neg h, decide_eq_false (by omega), decide_eq_false h]
theorem idxF_ge (P : Nat → Bool) (n : Nat) : -1 ≤ idxF P n ∧ idxF P n ≤ n := by
  unfold idxF; have := (firstT_spec P n).1; split <;> omega

set_option maxHeartbeats 800000 in
theorem index_c (v : Value) (xs : List Int) (x : Int) (w : World) (hv : IsInts w v xs) :
    Calls Tryz.prog 136 #[v, .int .i64 x] w fun e w' => e = .returned (.int .i64 (idxF (fun i => decide (x = at0 xs i)) xs.length)) ∧ w = w' := by
  have KV := hid hv
  obtain ⟨V, vc, rfl⟩ := hv.val
  have hwl := hv.1
  clear hv
  go_enter Tryz.func136, Tryz.ntmps136
  go_wp2
  go_loop [8] (fun i => ∃ k : Nat, k ≤ xs.length ∧ i = .int .i64 k ∧ (∀ j, j < k → decide (x = at0 xs j) = false)) (fun i => xs.length - (intOf i).toNat)
  case atStart => exact ⟨0, Nat.zero_le _, rfl, fun j hj => absurd hj (Nat.not_lt_zero j)⟩
  case round =>
    obtain ⟨k, hk, rfl, hno⟩ := hrel
    have HN := hid hno
    clear hno
    by_cases hlt : k < xs.length
    · obtain ⟨b, o, hV, hcell⟩ := KV.out.at (by omega)
      subst hV
      have hcw := hcell k hlt
      obtain ⟨y, hy⟩ : ∃ y, at0 xs k = y := ⟨_, rfl⟩
      rw [hy] at hcw
      have HY := hid hy
      clear hcell hy
      by_cases he : x = y
      · subst he
        go_wp2
        go_ret
        exact ⟨ret_int (idxF_at hlt (by rw [HY.out]; simp) HN.out).symm, rfl⟩
      · have h5 : (x == y) = false := beq_eq_false_iff_ne.2 he
        go_wp2
        go_round
        case rel => exact ⟨k + 1, hlt, by go_num, lt_or_eq_all HN.out (by rw [HY.out]; simpa using he)⟩
        case measure => simp [intOf]; omega
    · obtain rfl : k = xs.length := by omega
      go_wp2
      go_ret
      exact ⟨ret_int (idxF_none HN.out).symm, rfl⟩
set_option maxHeartbeats 800000 in
theorem contains_c (v : Value) (xs : List Int) (x : Int) (w : World) (hv : IsInts w v xs) :
    Calls Tryz.prog 121 #[v, .int .i64 x] w fun e w' => e = .returned (.bool (hasF xs x)) ∧ w = w' := by
  have KV := hid hv
  obtain ⟨V, vc, rfl⟩ := hv.val
  clear hv
  go_enter Tryz.func121, Tryz.ntmps121
  go_wp2_with (go_at_call 136; refine (index_c _ xs x _ KV.out).mono ?_; rintro e w1 ⟨rfl, rfl⟩)
  go_ret
  exact ⟨ret_bool (by rw [hasF, ← idxF_nonneg]), rfl⟩

/-- The women of a piece with these marks, of the first k. -/
def ofK (women : List Wom) (marks : List Int) (k : Nat) : List Int := ((List.range k).filter fun i => hasF marks (wMk women i)).map fun i : Nat => (i : Int)
def ofF (women : List Wom) (marks : List Int) : List Int := ofK women marks women.length
theorem ofK_succ (women : List Wom) (marks : List Int) (k : Nat) : ofK women marks (k + 1) = ofK women marks k ++ if hasF marks (wMk women k) then [(k : Int)] else [] := by
  unfold ofK
  rw [List.range_succ, List.filter_append, List.map_append]
  by_cases h : hasF marks (wMk women k) = true
  · simp [h]
  · simp [h]
theorem ofK_len (women : List Wom) (marks : List Int) (k : Nat) : (ofK women marks k).length ≤ k := by
  unfold ofK; rw [List.length_map]; exact Nat.le_trans (List.length_filter_le _ _) (by simp)

set_option maxHeartbeats 1600000 in
set_option maxRecDepth 100000 in
theorem of_c2 (W : Option Addr) (n wc : Nat) (women : List Wom) (pv : Value) (wrong : Int) (mv : Value) (marks : List Int) (bd : Int) (w : World) (hW : IsWoms w (.slice W n wc) women) (hwl : women.length = n) (hn : n ≤ 1000) (hM : IsInts w mv marks) :
    Calls Tryz.prog 144 #[.agg #[.slice W n wc, pv, .int .i64 wrong], .agg #[mv, .int .i64 bd]] w
      fun e w' => ∃ v, e = .returned v ∧ IsInts w' v (ofF women marks) ∧ Ext w w' ∧ ∀ b, v.ownBlock = some b → w.heap.size ≤ b ∧ b < w'.heap.size := by
  have KW := hid hW
  have KM := hid hM
  have HL := hid hwl
  obtain ⟨M, mc, rfl⟩ := hM.val
  clear hW hM hwl
  go_enter Tryz.func144, Tryz.ntmps144
  go_wp2
  go_loopw [4, 10] (fun out i wr => ∃ k : Nat, k ≤ n ∧ i = .int .i64 k ∧ wr.ownsRow (w.heap.size + 2) 3 1 out (ofK women marks k).length ((ofK women marks k).map (Value.int .i64)) ∧ Ext w wr ∧ w.heap.size + 2 ≤ wr.heap.size ∧ wr.heap[w.heap.size]? = some (.cells #[.slice W n wc, pv, .int .i64 wrong] 38 (0, 0)) ∧ wr.heap[w.heap.size + 1]? = some (.cells #[.slice M marks.length mc, .int .i64 bd] 143 (0, 0))) (fun _ i _ => n - (intOf i).toNat)
  case atStart => exact ⟨0, Nat.zero_le _, rfl, (by unfold ofK; exact own_nil _ _ _ _), by go_grown, by simp, (by repeat (first | exact heap_alloc_at _ _ (by simp) | refine heap_alloc_keep ?_)), (by repeat (first | exact heap_alloc_at _ _ (by simp) | refine heap_alloc_keep ?_))⟩
  case round =>
    obtain ⟨k, hk, rfl, hown, hE, hsz, b1, b2⟩ := hrel
    have HO := hid hown
    have hc1 := blk_cell b1
    have hc2 := blk_cell b2
    have hn1 : w.heap.size < wr.heap.size := by omega
    have hn2 : w.heap.size + 1 < wr.heap.size := by omega
    clear hown
    by_cases hlt : k < n
    · obtain ⟨b, o, hV, hcell⟩ := KW.out.at (by omega)
      subst hV
      have c1 := cell_ext hE (hcell k hlt).1
      have c2 := cell_ext hE (hcell k hlt).2.1
      have c3 := cell_ext hE (hcell k hlt).2.2
      have hs := ofK_succ women marks k
      have hol := ofK_len women marks k
      obtain ⟨x, hx⟩ : ∃ x, hasF marks (wMk women k) = x := ⟨_, rfl⟩
      rw [hx] at hs
      have HX := hid hx
      have HS := hid hs
      clear hcell hx hs
      have hcon := fun (W : World) (e : Ext wr W) => (contains_c _ marks (wMk women k) W (KM.out.ext (ext_trans hE e))).mono (R' := fun e w' => e = .returned (.bool x) ∧ W = w') (fun _ _ h => ⟨by rw [h.1, HX.out], h.2⟩)
      have HC := hid hcon
      clear hcon
      cases x
      · go_wp2_with (go_at_call 121; refine (HC.out _ (by go_grown)).mono ?_; rintro e w1 ⟨rfl, rfl⟩)
        go_roundw
        case rel => exact ⟨k + 1, hlt, by go_num, by rw [HS.out]; simp only [Bool.false_eq_true, if_false, List.append_nil]; exact HO.out.alloc _, by go_grown, by simp; omega, (by repeat (first | with_reducible exact b1 | (with_reducible refine heap_set_keep (by omega) ?_) | exact heap_alloc_at _ _ (by simp) | with_reducible refine heap_alloc_keep ?_ | with_reducible refine heap_drew_keep ?_)), (by repeat (first | with_reducible exact b2 | (with_reducible refine heap_set_keep (by omega) ?_) | exact heap_alloc_at _ _ (by simp) | with_reducible refine heap_alloc_keep ?_ | with_reducible refine heap_drew_keep ?_))⟩
        case measure => simp [intOf]; omega
      · go_wp2_with (first | (go_at_call 121; refine (HC.out _ (by go_grown)).mono ?_; rintro e w1 ⟨rfl, rfl⟩) | (at_builtin; refine app_intH rfl _ _ 29 3 rfl Tryz.underlying29 info_int (w.heap.size + 2) _ (ofK women marks k).length (ofK women marks k) (k : Int) _ rfl rfl (by simp) (HO.out.alloc _) (by simp; omega) (by omega) ?_; intro g cap w2 hown2 hB2 hg2 hlt2 hbg2))
        go_roundw
        case rel => exact ⟨k + 1, hlt, by go_num, by rw [HS.out]; simpa using hown2, by exact (by go_grown : Ext w (wr.alloc _)).trans (hB2.mono (by omega)), by have := hB2.size; simp at this; omega, by rw [hB2.block _ (by omega)]; exact (by repeat (first | with_reducible exact b1 | (with_reducible refine heap_set_keep (by omega) ?_) | exact heap_alloc_at _ _ (by simp) | with_reducible refine heap_alloc_keep ?_ | with_reducible refine heap_drew_keep ?_)), by rw [hB2.block _ (by omega)]; exact (by repeat (first | with_reducible exact b2 | (with_reducible refine heap_set_keep (by omega) ?_) | exact heap_alloc_at _ _ (by simp) | with_reducible refine heap_alloc_keep ?_ | with_reducible refine heap_drew_keep ?_))⟩
        case measure => simp [intOf]; omega
    · obtain rfl : k = n := by omega
      go_wp2
      go_ret
      refine ⟨_, rfl, ?_, hE, fun b hb => by have h := own_block HO.out b hb; omega⟩
      have := HL.out
      subst this
      exact own_ints (xs := ofF women marks) HO.out (by have := ofK_len women marks women.length; unfold ofF; omega)
theorem of_c (W : Option Addr) (n wc : Nat) (women : List Wom) (pv : Value) (wrong : Int) (mv : Value) (marks : List Int) (bd : Int) (w : World) (hW : IsWoms w (.slice W n wc) women) (hwl : women.length = n) (hn : n ≤ 1000) (hM : IsInts w mv marks) :
    Calls Tryz.prog 144 #[.agg #[.slice W n wc, pv, .int .i64 wrong], .agg #[mv, .int .i64 bd]] w
      fun e w' => ∃ v, e = .returned v ∧ IsInts w' v (ofF women marks) ∧ Ext w w' :=
  (of_c2 W n wc women pv wrong mv marks bd w hW hwl hn hM).mono fun _ _ ⟨v, h1, h2, h3, _⟩ => ⟨v, h1, h2, h3⟩
end Go.Proofs.YtlcakmbejjlmeaaGreat
/- The contracts of the chains all, ContainsFunc, IndexFunc for ranges, women, pieces and moves. -/
set_option linter.unusedVariables false
set_option linter.unusedSimpArgs false
namespace Go.Proofs.YtlcakmbejjlmeaaGreat
open Go.RowKit

/-- Is it so of all below n? -/
def allT (P : Nat → Bool) (n : Nat) : Bool := decide (firstT (fun i => !P i) n = n)
theorem allT_iff (P : Nat → Bool) (n : Nat) : allT P n = true ↔ ∀ i, i < n → P i = true := by
  unfold allT
  rw [decide_eq_true_eq]
  constructor
  · intro h i hi
    have := (firstT_spec (fun i => !P i) n).2.1 i (by omega)
    simpa using this
  · intro h
    exact firstT_none fun j hj => by simp [h j hj]
theorem allT_not (P : Nat → Bool) (n : Nat) : (!decide (0 ≤ idxF (fun i => !P i) n)) = allT P n := by
  rw [idxF_nonneg, allT]
  have := (firstT_spec (fun i => !P i) n).1
  by_cases h : firstT (fun i => !P i) n = n
  · rw [decide_eq_true h, decide_eq_false (by omega)]; rfl
  · rw [decide_eq_false h, decide_eq_true (by omega)]; rfl
set_option maxHeartbeats 1600000 in
set_option maxRecDepth 100000 in
theorem rng_idx (S : Option Addr) (n sc : Nat) (xs : List Rng) (B : Nat) (Q : Nat → Bool) (w : World) (hS : IsRngs w (.slice S n sc) xs) (hn : n ≤ 1000000)
    (hcall : Hid (∀ W, Ext w W → ∀ i, i < n →  Calls Tryz.prog 107 #[.agg #[.int .i64 (rLo xs i), .int .i64 (rHi xs i)], .pointer (some ⟨B, 0, none⟩)] W fun e w' => e = .returned (.bool (Q i)) ∧ Ext W w')) :
    Calls Tryz.prog 128 #[.slice S n sc, .func (.func 107) #[] #[.pointer (some ⟨B, 0, none⟩)]] w fun e w' => e = .returned (.int .i64 (idxF Q n)) ∧ Ext w w' := by
  have KS := hid hS
  clear hS
  go_enter Tryz.func128, Tryz.ntmps128
  go_wp2
  go_loopw [8] (fun i wr => ∃ k : Nat, k ≤ n ∧ i = .int .i64 k ∧ (∀ j, j < k → Q j = false) ∧ Ext w wr) (fun i _ => n - (intOf i).toNat)
  case atStart => exact ⟨0, Nat.zero_le _, rfl, fun j hj => absurd hj (Nat.not_lt_zero j), ext_refl _⟩
  case round =>
    obtain ⟨k, hk, rfl, hno, hE⟩ := hrel
    have HN := hid hno
    clear hno
    by_cases hlt : k < n
    · obtain ⟨b, o, hV, hcell⟩ := KS.out.at (by omega)
      subst hV
      have c1 := cell_ext hE (hcell k hlt).1; have c2 := cell_ext hE (hcell k hlt).2
      obtain ⟨x, hx⟩ : ∃ x, Q k = x := ⟨_, rfl⟩
      have HX := hid hx
      clear hcell hx
      cases x
      · go_wp2_with (go_at_call 107; refine (hcall.out wr hE k hlt ).mono ?_; rintro e w1 ⟨rfl, hB1⟩; rw [HX.out])
        go_roundw
        case rel => exact ⟨k + 1, hlt, by go_num, lt_or_eq_all HN.out HX.out, ext_trans hE hB1⟩
        case measure => simp [intOf]; omega
      · go_wp2_with (go_at_call 107; refine (hcall.out wr hE k hlt ).mono ?_; rintro e w1 ⟨rfl, hB1⟩; rw [HX.out])
        go_ret
        exact ⟨ret_int (idxF_at hlt HX.out HN.out).symm, ext_trans hE hB1⟩
    · obtain rfl : k = n := by omega
      go_wp2
      go_ret
      exact ⟨ret_int (idxF_none HN.out).symm, hE⟩
set_option maxHeartbeats 800000 in
theorem rng_con (S : Option Addr) (n sc : Nat) (xs : List Rng) (B : Nat) (Q : Nat → Bool) (w : World) (hS : IsRngs w (.slice S n sc) xs) (hn : n ≤ 1000000)
    (hcall : Hid (∀ W, Ext w W → ∀ i, i < n →  Calls Tryz.prog 107 #[.agg #[.int .i64 (rLo xs i), .int .i64 (rHi xs i)], .pointer (some ⟨B, 0, none⟩)] W fun e w' => e = .returned (.bool (Q i)) ∧ Ext W w')) :
    Calls Tryz.prog 106 #[.slice S n sc, .func (.func 107) #[] #[.pointer (some ⟨B, 0, none⟩)]] w fun e w' => e = .returned (.bool (decide (0 ≤ idxF Q n))) ∧ Ext w w' := by
  have KS := hid hS
  clear hS
  go_enter Tryz.func106, Tryz.ntmps106
  go_wp2_with (go_at_call 128; refine (rng_idx S n sc xs B Q _ KS.out hn hcall).mono ?_; rintro e w1 ⟨rfl, hB1⟩)
  go_ret
  exact ⟨rfl, hB1⟩
set_option maxHeartbeats 1600000 in
theorem rng_all (S : Option Addr) (n sc : Nat) (xs : List Rng) (lim : Int) (P : Nat → Bool) (w : World) (hS : IsRngs w (.slice S n sc) xs) (hn : n ≤ 1000000)
    (hcall : Hid (∀ W, Ext w W → ∀ i, i < n →  Calls Tryz.prog 73 #[.int .i64 lim, .agg #[.int .i64 (rLo xs i), .int .i64 (rHi xs i)] ] W fun e w' => e = .returned (.bool (P i)) ∧ Ext W w')) :
    Calls Tryz.prog 76 #[.slice S n sc, .func (.func 73) #[.int .i64 lim] #[]] w fun e w' => e = .returned (.bool (allT P n)) ∧ Ext w w' := by
  have KS := hid hS
  have hclo : Hid (∀ W, Ext (w.alloc (.cells #[.func (.func 73) #[.int .i64 lim] #[]] 111)) W → ∀ i, i < n →  Calls Tryz.prog 107 #[.agg #[.int .i64 (rLo xs i), .int .i64 (rHi xs i)], .pointer (some ⟨w.heap.size, 0, none⟩)] W fun e w' => e = .returned (.bool (!P i)) ∧ Ext W w') := by
    intro W hW i hi 
    have hc := (ext_blk (heap_alloc_new w (.cells #[.func (.func 73) #[.int .i64 lim] #[]] 111))) W hW 0
    have hc' : W.cell? ⟨w.heap.size, 0, none⟩ = some (.func (.func 73) #[.int .i64 lim] #[]) := hc
    have hlt := cell_lt hc'
    obtain ⟨x, hx⟩ : ∃ x, P i = x := ⟨_, rfl⟩
    have HX := hid hx
    have HW := hid hW
    have hE : Ext w W := (by go_grown : Ext w (w.alloc _)).trans (hW.mono (by simp))
    clear hx hW hc hS
    go_enter Tryz.func107, Tryz.ntmps107
    go_wp2_with (go_at_call 73; refine (hcall.out _ (hE.alloc hE.size _) i hi ).mono ?_; rintro e w1 ⟨rfl, hB1⟩; rw [HX.out])
    go_ret
    exact ⟨ret_bool (by rw [HX.out]), (by go_grown : Ext W (W.alloc _)).trans (hB1.mono (by simp))⟩
  clear hS
  go_enter Tryz.func76, Tryz.ntmps76
  go_wp2_with (go_at_call 106; refine (rng_con S n sc xs w.heap.size (fun i => !P i) _ (KS.out.ext (by go_grown)) hn hclo).mono ?_; rintro e w1 ⟨rfl, hB1⟩)
  go_ret
  exact ⟨ret_bool (allT_not P n), (by go_grown : Ext w (w.alloc _)).trans (hB1.mono (by simp))⟩
set_option maxHeartbeats 1600000 in
set_option maxRecDepth 100000 in
theorem wom_idx (S : Option Addr) (n sc : Nat) (xs : List Wom) (B : Nat) (Q : Nat → Bool) (w : World) (hS : IsWoms w (.slice S n sc) xs) (hn : n ≤ 1000000)
    (hcall : Hid (∀ W, Ext w W → ∀ i, i < n →  Calls Tryz.prog 154 #[.agg #[.int .i64 (wMk xs i), .int .i64 (wLo xs i), .int .i64 (wHi xs i)], .pointer (some ⟨B, 0, none⟩)] W fun e w' => e = .returned (.bool (Q i)) ∧ Ext W w')) :
    Calls Tryz.prog 158 #[.slice S n sc, .func (.func 154) #[] #[.pointer (some ⟨B, 0, none⟩)]] w fun e w' => e = .returned (.int .i64 (idxF Q n)) ∧ Ext w w' := by
  have KS := hid hS
  clear hS
  go_enter Tryz.func158, Tryz.ntmps158
  go_wp2
  go_loopw [8] (fun i wr => ∃ k : Nat, k ≤ n ∧ i = .int .i64 k ∧ (∀ j, j < k → Q j = false) ∧ Ext w wr) (fun i _ => n - (intOf i).toNat)
  case atStart => exact ⟨0, Nat.zero_le _, rfl, fun j hj => absurd hj (Nat.not_lt_zero j), ext_refl _⟩
  case round =>
    obtain ⟨k, hk, rfl, hno, hE⟩ := hrel
    have HN := hid hno
    clear hno
    by_cases hlt : k < n
    · obtain ⟨b, o, hV, hcell⟩ := KS.out.at (by omega)
      subst hV
      have c1 := cell_ext hE (hcell k hlt).1; have c2 := cell_ext hE (hcell k hlt).2.1; have c3 := cell_ext hE (hcell k hlt).2.2
      obtain ⟨x, hx⟩ : ∃ x, Q k = x := ⟨_, rfl⟩
      have HX := hid hx
      clear hcell hx
      cases x
      · go_wp2_with (go_at_call 154; refine (hcall.out wr hE k hlt ).mono ?_; rintro e w1 ⟨rfl, hB1⟩; rw [HX.out])
        go_roundw
        case rel => exact ⟨k + 1, hlt, by go_num, lt_or_eq_all HN.out HX.out, ext_trans hE hB1⟩
        case measure => simp [intOf]; omega
      · go_wp2_with (go_at_call 154; refine (hcall.out wr hE k hlt ).mono ?_; rintro e w1 ⟨rfl, hB1⟩; rw [HX.out])
        go_ret
        exact ⟨ret_int (idxF_at hlt HX.out HN.out).symm, ext_trans hE hB1⟩
    · obtain rfl : k = n := by omega
      go_wp2
      go_ret
      exact ⟨ret_int (idxF_none HN.out).symm, hE⟩
set_option maxHeartbeats 800000 in
theorem wom_con (S : Option Addr) (n sc : Nat) (xs : List Wom) (B : Nat) (Q : Nat → Bool) (w : World) (hS : IsWoms w (.slice S n sc) xs) (hn : n ≤ 1000000)
    (hcall : Hid (∀ W, Ext w W → ∀ i, i < n →  Calls Tryz.prog 154 #[.agg #[.int .i64 (wMk xs i), .int .i64 (wLo xs i), .int .i64 (wHi xs i)], .pointer (some ⟨B, 0, none⟩)] W fun e w' => e = .returned (.bool (Q i)) ∧ Ext W w')) :
    Calls Tryz.prog 153 #[.slice S n sc, .func (.func 154) #[] #[.pointer (some ⟨B, 0, none⟩)]] w fun e w' => e = .returned (.bool (decide (0 ≤ idxF Q n))) ∧ Ext w w' := by
  have KS := hid hS
  clear hS
  go_enter Tryz.func153, Tryz.ntmps153
  go_wp2_with (go_at_call 158; refine (wom_idx S n sc xs B Q _ KS.out hn hcall).mono ?_; rintro e w1 ⟨rfl, hB1⟩)
  go_ret
  exact ⟨rfl, hB1⟩
set_option maxHeartbeats 1600000 in
theorem wom_all (S : Option Addr) (n sc : Nat) (xs : List Wom)  (P : Nat → Bool) (w : World) (hS : IsWoms w (.slice S n sc) xs) (hn : n ≤ 1000000)
    (hcall : Hid (∀ W, Ext w W → ∀ i, i < n →  Calls Tryz.prog 141 #[ .agg #[.int .i64 (wMk xs i), .int .i64 (wLo xs i), .int .i64 (wHi xs i)] ] W fun e w' => e = .returned (.bool (P i)) ∧ Ext W w')) :
    Calls Tryz.prog 140 #[.slice S n sc, .func (.func 141) #[] #[]] w fun e w' => e = .returned (.bool (allT P n)) ∧ Ext w w' := by
  have KS := hid hS
  have hclo : Hid (∀ W, Ext (w.alloc (.cells #[.func (.func 141) #[] #[]] 179)) W → ∀ i, i < n →  Calls Tryz.prog 154 #[.agg #[.int .i64 (wMk xs i), .int .i64 (wLo xs i), .int .i64 (wHi xs i)], .pointer (some ⟨w.heap.size, 0, none⟩)] W fun e w' => e = .returned (.bool (!P i)) ∧ Ext W w') := by
    intro W hW i hi 
    have hc := (ext_blk (heap_alloc_new w (.cells #[.func (.func 141) #[] #[]] 179))) W hW 0
    have hc' : W.cell? ⟨w.heap.size, 0, none⟩ = some (.func (.func 141) #[] #[]) := hc
    have hlt := cell_lt hc'
    obtain ⟨x, hx⟩ : ∃ x, P i = x := ⟨_, rfl⟩
    have HX := hid hx
    have HW := hid hW
    have hE : Ext w W := (by go_grown : Ext w (w.alloc _)).trans (hW.mono (by simp))
    clear hx hW hc hS
    go_enter Tryz.func154, Tryz.ntmps154
    go_wp2_with (go_at_call 141; refine (hcall.out _ (hE.alloc hE.size _) i hi ).mono ?_; rintro e w1 ⟨rfl, hB1⟩; rw [HX.out])
    go_ret
    exact ⟨ret_bool (by rw [HX.out]), (by go_grown : Ext W (W.alloc _)).trans (hB1.mono (by simp))⟩
  clear hS
  go_enter Tryz.func140, Tryz.ntmps140
  go_wp2_with (go_at_call 153; refine (wom_con S n sc xs w.heap.size (fun i => !P i) _ (KS.out.ext (by go_grown)) hn hclo).mono ?_; rintro e w1 ⟨rfl, hB1⟩)
  go_ret
  exact ⟨ret_bool (allT_not P n), (by go_grown : Ext w (w.alloc _)).trans (hB1.mono (by simp))⟩
set_option maxHeartbeats 1600000 in
set_option maxRecDepth 100000 in
theorem mov_idx (S : Option Addr) (n sc : Nat) (xs : List Mov) (B : Nat) (Q : Nat → Bool) (w : World) (hS : IsMovs w (.slice S n sc) xs) (hn : n ≤ 1000000)
    (hcall : Hid (∀ W, Ext w W → ∀ i, i < n →  Calls Tryz.prog 135 #[.agg #[.int .i64 (mPc xs i), .int .i64 (mSr xs i), .int .i64 (mDs xs i)], .pointer (some ⟨B, 0, none⟩)] W fun e w' => e = .returned (.bool (Q i)) ∧ Ext W w')) :
    Calls Tryz.prog 151 #[.slice S n sc, .func (.func 135) #[] #[.pointer (some ⟨B, 0, none⟩)]] w fun e w' => e = .returned (.int .i64 (idxF Q n)) ∧ Ext w w' := by
  have KS := hid hS
  clear hS
  go_enter Tryz.func151, Tryz.ntmps151
  go_wp2
  go_loopw [8] (fun i wr => ∃ k : Nat, k ≤ n ∧ i = .int .i64 k ∧ (∀ j, j < k → Q j = false) ∧ Ext w wr) (fun i _ => n - (intOf i).toNat)
  case atStart => exact ⟨0, Nat.zero_le _, rfl, fun j hj => absurd hj (Nat.not_lt_zero j), ext_refl _⟩
  case round =>
    obtain ⟨k, hk, rfl, hno, hE⟩ := hrel
    have HN := hid hno
    clear hno
    by_cases hlt : k < n
    · obtain ⟨b, o, hV, hcell⟩ := KS.out.at (by omega)
      subst hV
      have c1 := cell_ext hE (hcell k hlt).1; have c2 := cell_ext hE (hcell k hlt).2.1; have c3 := cell_ext hE (hcell k hlt).2.2
      obtain ⟨x, hx⟩ : ∃ x, Q k = x := ⟨_, rfl⟩
      have HX := hid hx
      clear hcell hx
      cases x
      · go_wp2_with (go_at_call 135; refine (hcall.out wr hE k hlt ).mono ?_; rintro e w1 ⟨rfl, hB1⟩; rw [HX.out])
        go_roundw
        case rel => exact ⟨k + 1, hlt, by go_num, lt_or_eq_all HN.out HX.out, ext_trans hE hB1⟩
        case measure => simp [intOf]; omega
      · go_wp2_with (go_at_call 135; refine (hcall.out wr hE k hlt ).mono ?_; rintro e w1 ⟨rfl, hB1⟩; rw [HX.out])
        go_ret
        exact ⟨ret_int (idxF_at hlt HX.out HN.out).symm, ext_trans hE hB1⟩
    · obtain rfl : k = n := by omega
      go_wp2
      go_ret
      exact ⟨ret_int (idxF_none HN.out).symm, hE⟩
set_option maxHeartbeats 800000 in
theorem mov_con (S : Option Addr) (n sc : Nat) (xs : List Mov) (B : Nat) (Q : Nat → Bool) (w : World) (hS : IsMovs w (.slice S n sc) xs) (hn : n ≤ 1000000)
    (hcall : Hid (∀ W, Ext w W → ∀ i, i < n →  Calls Tryz.prog 135 #[.agg #[.int .i64 (mPc xs i), .int .i64 (mSr xs i), .int .i64 (mDs xs i)], .pointer (some ⟨B, 0, none⟩)] W fun e w' => e = .returned (.bool (Q i)) ∧ Ext W w')) :
    Calls Tryz.prog 134 #[.slice S n sc, .func (.func 135) #[] #[.pointer (some ⟨B, 0, none⟩)]] w fun e w' => e = .returned (.bool (decide (0 ≤ idxF Q n))) ∧ Ext w w' := by
  have KS := hid hS
  clear hS
  go_enter Tryz.func134, Tryz.ntmps134
  go_wp2_with (go_at_call 151; refine (mov_idx S n sc xs B Q _ KS.out hn hcall).mono ?_; rintro e w1 ⟨rfl, hB1⟩)
  go_ret
  exact ⟨rfl, hB1⟩
set_option maxHeartbeats 1600000 in
theorem mov_all (S : Option Addr) (n sc : Nat) (xs : List Mov) (pa pb : Addr) (P : Nat → Bool) (w : World) (hS : IsMovs w (.slice S n sc) xs) (hn : n ≤ 1000000)
    (hcall : Hid (∀ W, Ext w W → ∀ i, i < n →  Calls Tryz.prog 120 #[ .agg #[.int .i64 (mPc xs i), .int .i64 (mSr xs i), .int .i64 (mDs xs i)] , .pointer (some pa), .pointer (some pb)] W fun e w' => e = .returned (.bool (P i)) ∧ Ext W w')) :
    Calls Tryz.prog 119 #[.slice S n sc, .func (.func 120) #[] #[.pointer (some pa), .pointer (some pb)]] w fun e w' => e = .returned (.bool (allT P n)) ∧ Ext w w' := by
  have KS := hid hS
  have hclo : Hid (∀ W, Ext (w.alloc (.cells #[.func (.func 120) #[] #[.pointer (some pa), .pointer (some pb)]] 164)) W → ∀ i, i < n →  Calls Tryz.prog 135 #[.agg #[.int .i64 (mPc xs i), .int .i64 (mSr xs i), .int .i64 (mDs xs i)], .pointer (some ⟨w.heap.size, 0, none⟩)] W fun e w' => e = .returned (.bool (!P i)) ∧ Ext W w') := by
    intro W hW i hi 
    have hc := (ext_blk (heap_alloc_new w (.cells #[.func (.func 120) #[] #[.pointer (some pa), .pointer (some pb)]] 164))) W hW 0
    have hc' : W.cell? ⟨w.heap.size, 0, none⟩ = some (.func (.func 120) #[] #[.pointer (some pa), .pointer (some pb)]) := hc
    have hlt := cell_lt hc'
    obtain ⟨x, hx⟩ : ∃ x, P i = x := ⟨_, rfl⟩
    have HX := hid hx
    have HW := hid hW
    have hE : Ext w W := (by go_grown : Ext w (w.alloc _)).trans (hW.mono (by simp))
    clear hx hW hc hS
    go_enter Tryz.func135, Tryz.ntmps135
    go_wp2_with (go_at_call 120; refine (hcall.out _ (hE.alloc hE.size _) i hi ).mono ?_; rintro e w1 ⟨rfl, hB1⟩; rw [HX.out])
    go_ret
    exact ⟨ret_bool (by rw [HX.out]), (by go_grown : Ext W (W.alloc _)).trans (hB1.mono (by simp))⟩
  clear hS
  go_enter Tryz.func119, Tryz.ntmps119
  go_wp2_with (go_at_call 134; refine (mov_con S n sc xs w.heap.size (fun i => !P i) _ (KS.out.ext (by go_grown)) hn hclo).mono ?_; rintro e w1 ⟨rfl, hB1⟩)
  go_ret
  exact ⟨ret_bool (allT_not P n), (by go_grown : Ext w (w.alloc _)).trans (hB1.mono (by simp))⟩
set_option maxHeartbeats 1600000 in
set_option maxRecDepth 100000 in
theorem pce_idx (S : Option Addr) (n sc : Nat) (xs : List Pce) (B : Nat) (Q : Nat → Bool) (w : World) (hS : IsPces w (.slice S n sc) xs) (hn : n ≤ 1000000)
    (hcall : Hid (∀ W, Ext w W → ∀ i, i < n → ∀ mv, IsInts W mv (pMs xs i) → Calls Tryz.prog 156 #[.agg #[mv, .int .i64 (pBd xs i)], .pointer (some ⟨B, 0, none⟩)] W fun e w' => e = .returned (.bool (Q i)) ∧ Ext W w')) :
    Calls Tryz.prog 159 #[.slice S n sc, .func (.func 156) #[] #[.pointer (some ⟨B, 0, none⟩)]] w fun e w' => e = .returned (.int .i64 (idxF Q n)) ∧ Ext w w' := by
  have KS := hid hS
  clear hS
  go_enter Tryz.func159, Tryz.ntmps159
  go_wp2
  go_loopw [8] (fun i wr => ∃ k : Nat, k ≤ n ∧ i = .int .i64 k ∧ (∀ j, j < k → Q j = false) ∧ Ext w wr) (fun i _ => n - (intOf i).toNat)
  case atStart => exact ⟨0, Nat.zero_le _, rfl, fun j hj => absurd hj (Nat.not_lt_zero j), ext_refl _⟩
  case round =>
    obtain ⟨k, hk, rfl, hno, hE⟩ := hrel
    have HN := hid hno
    clear hno
    by_cases hlt : k < n
    · obtain ⟨b, o, hV, hcell⟩ := KS.out.at (by omega)
      subst hV
      obtain ⟨mv, c1, c2, c3⟩ := hcell k hlt; replace c1 := cell_ext hE c1; replace c2 := c2.ext hE; replace c3 := cell_ext hE c3
      obtain ⟨x, hx⟩ : ∃ x, Q k = x := ⟨_, rfl⟩
      have HX := hid hx
      clear hcell hx
      cases x
      · go_wp2_with (go_at_call 156; refine (hcall.out wr hE k hlt mv c2).mono ?_; rintro e w1 ⟨rfl, hB1⟩; rw [HX.out])
        go_roundw
        case rel => exact ⟨k + 1, hlt, by go_num, lt_or_eq_all HN.out HX.out, ext_trans hE hB1⟩
        case measure => simp [intOf]; omega
      · go_wp2_with (go_at_call 156; refine (hcall.out wr hE k hlt mv c2).mono ?_; rintro e w1 ⟨rfl, hB1⟩; rw [HX.out])
        go_ret
        exact ⟨ret_int (idxF_at hlt HX.out HN.out).symm, ext_trans hE hB1⟩
    · obtain rfl : k = n := by omega
      go_wp2
      go_ret
      exact ⟨ret_int (idxF_none HN.out).symm, hE⟩
set_option maxHeartbeats 800000 in
theorem pce_con (S : Option Addr) (n sc : Nat) (xs : List Pce) (B : Nat) (Q : Nat → Bool) (w : World) (hS : IsPces w (.slice S n sc) xs) (hn : n ≤ 1000000)
    (hcall : Hid (∀ W, Ext w W → ∀ i, i < n → ∀ mv, IsInts W mv (pMs xs i) → Calls Tryz.prog 156 #[.agg #[mv, .int .i64 (pBd xs i)], .pointer (some ⟨B, 0, none⟩)] W fun e w' => e = .returned (.bool (Q i)) ∧ Ext W w')) :
    Calls Tryz.prog 155 #[.slice S n sc, .func (.func 156) #[] #[.pointer (some ⟨B, 0, none⟩)]] w fun e w' => e = .returned (.bool (decide (0 ≤ idxF Q n))) ∧ Ext w w' := by
  have KS := hid hS
  clear hS
  go_enter Tryz.func155, Tryz.ntmps155
  go_wp2_with (go_at_call 159; refine (pce_idx S n sc xs B Q _ KS.out hn hcall).mono ?_; rintro e w1 ⟨rfl, hB1⟩)
  go_ret
  exact ⟨rfl, hB1⟩
set_option maxHeartbeats 1600000 in
theorem pce_all (S : Option Addr) (n sc : Nat) (xs : List Pce) (wv pv : Value) (wrong : Int) (P : Nat → Bool) (w : World) (hS : IsPces w (.slice S n sc) xs) (hn : n ≤ 1000000)
    (hcall : Hid (∀ W, Ext w W → ∀ i, i < n → ∀ mv, IsInts W mv (pMs xs i) → Calls Tryz.prog 138 #[.agg #[wv, pv, .int .i64 wrong], .agg #[mv, .int .i64 (pBd xs i)] ] W fun e w' => e = .returned (.bool (P i)) ∧ Ext W w')) :
    Calls Tryz.prog 142 #[.slice S n sc, .func (.func 138) #[.agg #[wv, pv, .int .i64 wrong]] #[]] w fun e w' => e = .returned (.bool (allT P n)) ∧ Ext w w' := by
  have KS := hid hS
  have hclo : Hid (∀ W, Ext (w.alloc (.cells #[.func (.func 138) #[.agg #[wv, pv, .int .i64 wrong]] #[]] 177)) W → ∀ i, i < n → ∀ mv, IsInts W mv (pMs xs i) → Calls Tryz.prog 156 #[.agg #[mv, .int .i64 (pBd xs i)], .pointer (some ⟨w.heap.size, 0, none⟩)] W fun e w' => e = .returned (.bool (!P i)) ∧ Ext W w') := by
    intro W hW i hi mv hmv
    have hc := (ext_blk (heap_alloc_new w (.cells #[.func (.func 138) #[.agg #[wv, pv, .int .i64 wrong]] #[]] 177))) W hW 0
    have hc' : W.cell? ⟨w.heap.size, 0, none⟩ = some (.func (.func 138) #[.agg #[wv, pv, .int .i64 wrong]] #[]) := hc
    have hlt := cell_lt hc'
    obtain ⟨x, hx⟩ : ∃ x, P i = x := ⟨_, rfl⟩
    have HX := hid hx
    have HW := hid hW
    have hE : Ext w W := (by go_grown : Ext w (w.alloc _)).trans (hW.mono (by simp))
    clear hx hW hc hS
    go_enter Tryz.func156, Tryz.ntmps156
    go_wp2_with (go_at_call 138; refine (hcall.out _ (hE.alloc hE.size _) i hi mv (hmv.ext (by go_grown))).mono ?_; rintro e w1 ⟨rfl, hB1⟩; rw [HX.out])
    go_ret
    exact ⟨ret_bool (by rw [HX.out]), (by go_grown : Ext W (W.alloc _)).trans (hB1.mono (by simp))⟩
  clear hS
  go_enter Tryz.func142, Tryz.ntmps142
  go_wp2_with (go_at_call 155; refine (pce_con S n sc xs w.heap.size (fun i => !P i) _ (KS.out.ext (by go_grown)) hn hclo).mono ?_; rintro e w1 ⟨rfl, hB1⟩)
  go_ret
  exact ⟨ret_bool (allT_not P n), (by go_grown : Ext w (w.alloc _)).trans (hB1.mono (by simp))⟩
end Go.Proofs.YtlcakmbejjlmeaaGreat
/- The contracts of bundle's 'valid', 'piece', 'CheckTable' and errand's 'bounds'. -/
set_option linter.unusedVariables false
set_option linter.unusedSimpArgs false
namespace Go.Proofs.YtlcakmbejjlmeaaGreat
open Go.RowKit

def bndOk (lim lo hi : Int) : Bool := decide (0 ≤ lo) && decide (lo ≤ hi) && decide (hi ≤ lim)
set_option maxHeartbeats 800000 in
theorem bounds_c (lim lo hi : Int) (w : World) : Calls Tryz.prog 73 #[.int .i64 lim, .agg #[.int .i64 lo, .int .i64 hi]] w fun e w' => e = .returned (.bool (bndOk lim lo hi)) ∧ Ext w w' := by
  by_cases h1 : 0 ≤ lo <;> by_cases h2 : lo ≤ hi <;> by_cases h3 : hi ≤ lim
  all_goals
    go_enter Tryz.func73, Tryz.ntmps73
    go_wp2
    go_ret
    exact ⟨ret_bool (by unfold bndOk; simp <;> omega), by go_grown⟩
set_option maxHeartbeats 400000 in
theorem bwithin_c (n lo hi : Int) (w : World) : Calls Tryz.prog 139 #[.int .i64 n, .int .i64 lo, .int .i64 hi] w fun e w' => e = .returned (.bool (decide (lo ≤ n) && decide (n ≤ hi))) ∧ w = w' := by
  by_cases h1 : lo ≤ n
  all_goals
    go_enter Tryz.func139, Tryz.ntmps139
    go_wp2
    go_ret
    exact ⟨ret_bool (by simp <;> omega), rfl⟩
set_option maxHeartbeats 400000 in
theorem within_c (n lo hi : Int) (w : World) : Calls Tryz.prog 75 #[.int .i64 n, .int .i64 lo, .int .i64 hi] w fun e w' => e = .returned (.bool (decide (lo ≤ n) && decide (n ≤ hi))) ∧ w = w' := by
  by_cases h1 : lo ≤ n
  all_goals
    go_enter Tryz.func75, Tryz.ntmps75
    go_wp2
    go_ret
    exact ⟨ret_bool (by simp <;> omega), rfl⟩
def markOk (n : Int) : Bool := decide (0 ≤ n) && decide (n ≤ 9)
set_option maxHeartbeats 800000 in
theorem mark_c (n : Int) (w : World) : Calls Tryz.prog 152 #[.int .i64 n] w fun e w' => e = .returned (.bool (markOk n)) ∧ w = w' := by
  by_cases h1 : 0 ≤ n
  all_goals
    go_enter Tryz.func152, Tryz.ntmps152
    go_wp2
    go_ret
    exact ⟨ret_bool (by unfold markOk; simp <;> omega), rfl⟩
def womOk (mk lo hi : Int) : Bool := markOk mk && decide (0 ≤ lo) && decide (lo ≤ hi) && decide (hi ≤ 7)
set_option maxHeartbeats 1600000 in
theorem valid_c (mk lo hi : Int) (w : World) : Calls Tryz.prog 141 #[.agg #[.int .i64 mk, .int .i64 lo, .int .i64 hi]] w fun e w' => e = .returned (.bool (womOk mk lo hi)) ∧ Ext w w' := by
  obtain ⟨x, hx⟩ : ∃ x, markOk mk = x := ⟨_, rfl⟩
  have HX := hid hx
  clear hx
  cases x
  · go_enter Tryz.func141, Tryz.ntmps141
    go_wp2_with (go_at_call 152; refine (mark_c _ _).mono ?_; rintro e w1 ⟨rfl, rfl⟩; rw [HX.out])
    go_ret
    exact ⟨ret_bool (by rw [womOk, HX.out]; simp), by go_grown⟩
  · by_cases h1 : 0 ≤ lo
    · by_cases h2 : lo ≤ hi
      · by_cases h3 : hi ≤ 7
        · go_enter Tryz.func141, Tryz.ntmps141
          go_wp2_with (go_at_call 152; refine (mark_c _ _).mono ?_; rintro e w1 ⟨rfl, rfl⟩; rw [HX.out])
          go_ret
          exact ⟨ret_bool (by rw [womOk, HX.out]; simp <;> omega), by go_grown⟩
        · go_enter Tryz.func141, Tryz.ntmps141
          go_wp2_with (go_at_call 152; refine (mark_c _ _).mono ?_; rintro e w1 ⟨rfl, rfl⟩; rw [HX.out])
          go_ret
          exact ⟨ret_bool (by rw [womOk, HX.out]; simp <;> omega), by go_grown⟩
      · go_enter Tryz.func141, Tryz.ntmps141
        go_wp2_with (go_at_call 152; refine (mark_c _ _).mono ?_; rintro e w1 ⟨rfl, rfl⟩; rw [HX.out])
        go_ret
        exact ⟨ret_bool (by rw [womOk, HX.out]; simp <;> omega), by go_grown⟩
    · go_enter Tryz.func141, Tryz.ntmps141
      go_wp2_with (go_at_call 152; refine (mark_c _ _).mono ?_; rintro e w1 ⟨rfl, rfl⟩; rw [HX.out])
      go_ret
      exact ⟨ret_bool (by rw [womOk, HX.out]; simp <;> omega), by go_grown⟩

/-- Is the reading k of a piece's mark wrong, or out of order? -/
def badM (marks : List Int) (k : Nat) : Bool := !markOk (at0 marks k) || decide (0 < k) && decide (at0 marks k ≤ at0 marks (k - 1))
def pceOk (women : List Wom) (marks : List Int) (bd : Int) : Bool := decide (firstT (badM marks) marks.length = marks.length) && (decide (0 ≤ bd) && decide (bd ≤ (women.length : Int) - 1)) && decide (0 < (ofF women marks).length)
theorem pceOk_false {women : List Wom} {marks : List Int} {bd : Int} {k : Nat} (hk : k < marks.length) (hb : badM marks k = true) (h : ∀ j, j < k → badM marks j = false) : pceOk women marks bd = false := by
  rw [pceOk, firstT_at hb h hk, decide_eq_false (show ¬ k = marks.length by omega)]; rfl
set_option maxHeartbeats 3200000 in
set_option maxRecDepth 100000 in
theorem piece_c (W : Option Addr) (n wc : Nat) (women : List Wom) (pv : Value) (wrong : Int) (mv : Value) (marks : List Int) (bd : Int) (w : World) (hW : IsWoms w (.slice W n wc) women) (hwl : women.length = n) (hn : n ≤ 1000) (hM : IsInts w mv marks) :
    Calls Tryz.prog 138 #[.agg #[.slice W n wc, pv, .int .i64 wrong], .agg #[mv, .int .i64 bd]] w
      fun e w' => e = .returned (.bool (pceOk women marks bd)) ∧ Ext w w' := by
  have KW := hid hW
  have KM := hid hM
  have HL := hid hwl
  obtain ⟨M, mc, rfl⟩ := hM.val
  have hml := hM.1
  clear hW hM hwl
  go_enter Tryz.func138, Tryz.ntmps138
  go_wp2
  go_loopw [10] (fun i wr => ∃ k : Nat, k ≤ marks.length ∧ i = .int .i64 k ∧ (∀ j, j < k → badM marks j = false) ∧ Ext w wr ∧ wr.heap[w.heap.size]? = some (.cells #[.slice W n wc, pv, .int .i64 wrong] 38 (0, 0)) ∧ wr.heap[w.heap.size + 1]? = some (.cells #[.slice M marks.length mc, .int .i64 bd] 143 (0, 0))) (fun i _ => marks.length - (intOf i).toNat)
  case atStart => exact ⟨0, Nat.zero_le _, rfl, fun j hj => absurd hj (Nat.not_lt_zero j), by go_grown, (by repeat (first | exact heap_alloc_at _ _ (by simp) | refine heap_alloc_keep ?_)), (by repeat (first | exact heap_alloc_at _ _ (by simp) | refine heap_alloc_keep ?_))⟩
  case round =>
    obtain ⟨k, hk, rfl, hno, hE, b1, b2⟩ := hrel
    have HN := hid hno
    clear hno
    have hc1 := blk_cell b1
    have hc2 := blk_cell b2
    by_cases hlt : k < marks.length
    · obtain ⟨b, o, hV, hcell⟩ := KM.out.at (by omega)
      subst hV
      have hcw := cell_ext hE (hcell k hlt)
      have hprev : 0 < k → wr.cell? ⟨b, o + (k - 1), none⟩ = some (.int .i64 (at0 marks (k - 1))) := fun _ => cell_ext hE (hcell (k - 1) (by omega))
      obtain ⟨x, hx⟩ : ∃ x, at0 marks k = x := ⟨_, rfl⟩
      rw [hx] at hcw
      have hbad : Hid (badM marks k = (!markOk x || decide (0 < k) && decide (x ≤ at0 marks (k - 1)))) := hid (by rw [badM, hx])
      clear hcell hx
      obtain ⟨y, hy⟩ : ∃ y, markOk x = y := ⟨_, rfl⟩
      have HY := hid hy
      clear hy
      cases y
      · go_wp2_with (go_at_call 152; refine (mark_c _ _).mono ?_; rintro e w1 ⟨rfl, rfl⟩; rw [HY.out])
        go_ret
        exact ⟨ret_bool (pceOk_false hlt (by rw [hbad.out, HY.out]; rfl) HN.out).symm, hE⟩
      · by_cases h3 : 0 < k
        · have hp := hprev h3
          obtain ⟨z, hz⟩ : ∃ z, at0 marks (k - 1) = z := ⟨_, rfl⟩
          rw [hz] at hp
          have HZ := hid hz
          clear hz hprev
          have hk1 : (0 : Int) ≤ (k : Int) - 1 := by omega
          have hkn : ((k : Int) - 1).toNat = k - 1 := by omega
          by_cases h4 : x ≤ z
          · go_wp2_with (go_at_call 152; refine (mark_c _ _).mono ?_; rintro e w1 ⟨rfl, rfl⟩; rw [HY.out])
            go_ret
            exact ⟨ret_bool (pceOk_false hlt (by rw [hbad.out, HY.out, HZ.out, decide_eq_true h4, decide_eq_true h3]; rfl) HN.out).symm, hE⟩
          · go_wp2_with (go_at_call 152; refine (mark_c _ _).mono ?_; rintro e w1 ⟨rfl, rfl⟩; rw [HY.out])
            go_roundw
            case rel => exact ⟨k + 1, hlt, by go_num, lt_or_eq_all HN.out (by rw [hbad.out, HY.out, HZ.out, decide_eq_false (show ¬ x ≤ z by omega)]; simp), hE, b1, b2⟩
            case measure => simp [intOf]; omega
        · go_wp2_with (go_at_call 152; refine (mark_c _ _).mono ?_; rintro e w1 ⟨rfl, rfl⟩; rw [HY.out])
          go_roundw
          case rel => exact ⟨k + 1, hlt, by go_num, lt_or_eq_all HN.out (by rw [hbad.out, HY.out, decide_eq_false (by omega)]; simp), hE, b1, b2⟩
          case measure => simp [intOf]; omega
    · obtain rfl : k = marks.length := by omega
      by_cases h1 : 0 ≤ bd ∧ bd ≤ (n : Int) - 1
      · obtain ⟨h1, h2⟩ := h1
        go_wp2_with (first | (go_at_call 139; refine (bwithin_c _ _ _ _).mono ?_; rintro e w1 ⟨rfl, rfl⟩; rw [decide_eq_true h1, decide_eq_true h2]) | (go_at_call 144; refine (of_c W n wc women pv wrong _ marks bd _ (KW.out.ext hE) HL.out hn (KM.out.ext hE)).mono ?_; rintro e w2 ⟨v, rfl, hv, hB2⟩; obtain ⟨V2, c2, rfl⟩ := hv.val))
        go_ret
        exact ⟨ret_bool (by rw [pceOk, firstT_none HN.out, HL.out, decide_eq_true h1, decide_eq_true h2]; simp), ext_trans hE hB2⟩
      · replace h1 := Decidable.not_and_iff_not_or_not.1 h1
        have hbd : Hid (pceOk women marks bd = false) := hid (by
          rw [pceOk, HL.out]
          rcases h1 with h | h
          · rw [decide_eq_false h]; simp
          · rw [decide_eq_false (show ¬ bd ≤ (n : Int) - 1 from h)]; simp)
        rcases h1 with h1 | h1
        · go_wp2
          go_ret
          exact ⟨ret_bool hbd.out.symm, hE⟩
        · by_cases h0 : 0 ≤ bd
          · go_wp2
            go_ret
            exact ⟨ret_bool hbd.out.symm, hE⟩
          · exact absurd h1 (by omega)

/-- How many owners there are, of the first k pieces; 2001 for more than 2000. -/
def manyK (women : List Wom) (pieces : List Pce) : Nat → Int
  | 0 => 1
  | k + 1 => min (manyK women pieces k * ((ofF women (pMs pieces k)).length : Int)) 2001
def tabFault (women : List Wom) (pieces : List Pce) (wrong : Int) : Int :=
  if 5 < women.length ∨ 7 < pieces.length then 3
  else if (decide (0 ≤ wrong) && decide (wrong ≤ 5)) && allT (fun i => womOk (wMk women i) (wLo women i) (wHi women i)) women.length && allT (fun i => pceOk women (pMs pieces i) (pBd pieces i)) pieces.length then
    (if 2000 < manyK women pieces pieces.length then 3 else 0)
  else 1
theorem manyK_bd (women : List Wom) (pieces : List Pce) (hn : women.length ≤ 1000) : ∀ k, 0 ≤ manyK women pieces k ∧ manyK women pieces k ≤ 2001
  | 0 => by simp [manyK]
  | k + 1 => by
    have ih := manyK_bd women pieces hn k
    have := Int.mul_nonneg ih.1 (Int.natCast_nonneg (ofF women (pMs pieces k)).length)
    simp only [manyK]
    omega
set_option maxHeartbeats 3200000 in
set_option maxRecDepth 100000 in
theorem checkTable_c (W : Option Addr) (n wc : Nat) (women : List Wom) (S : Option Addr) (pn pc : Nat) (pieces : List Pce) (wrong : Int) (w : World) (hW : IsWoms w (.slice W n wc) women) (hwl : women.length = n) (hP : IsPces w (.slice S pn pc) pieces) (hpl : pieces.length = pn) (hn : n ≤ 1000) (hpn : pn ≤ 1000) :
    Calls Tryz.prog 123 #[.agg #[.slice W n wc, .slice S pn pc, .int .i64 wrong]] w
      fun e w' => e = .returned (.int .i64 (tabFault women pieces wrong)) ∧ Ext w w' := by
  have KW := hid hW
  have KP := hid hP
  have HL := hid hwl
  have HP := hid hpl
  clear hW hP hwl hpl
  by_cases h5 : 5 < n
  · have hf : Hid (tabFault women pieces wrong = 3) := hid (by rw [tabFault, if_pos (by rw [HL.out]; exact .inl h5)])
    go_enter Tryz.func123, Tryz.ntmps123
    go_wp2
    go_ret
    exact ⟨ret_int hf.out.symm, by go_grown⟩
  by_cases h7 : 7 < pn
  · have hf : Hid (tabFault women pieces wrong = 3) := hid (by rw [tabFault, if_pos (by rw [HP.out]; exact .inr h7)])
    go_enter Tryz.func123, Tryz.ntmps123
    go_wp2
    go_ret
    exact ⟨ret_int hf.out.symm, by go_grown⟩
  obtain ⟨x, hx⟩ : ∃ x, (decide (0 ≤ wrong) && decide (wrong ≤ 5)) = x := ⟨_, rfl⟩
  obtain ⟨y, hy⟩ : ∃ y, allT (fun i => womOk (wMk women i) (wLo women i) (wHi women i)) n = y := ⟨_, rfl⟩
  obtain ⟨z, hz⟩ : ∃ z, allT (fun i => pceOk women (pMs pieces i) (pBd pieces i)) pn = z := ⟨_, rfl⟩
  have HX := hid hx
  have HY := hid hy
  have HZ := hid hz
  have hf0 : Hid (tabFault women pieces wrong = if (x && y && z) = true then (if 2000 < manyK women pieces pn then 3 else 0) else 1) := hid (by
    rw [tabFault, if_neg (by rw [HL.out, HP.out]; omega), HL.out, HP.out, hx, hy, hz])
  clear hx hy hz
  cases x
  · go_enter Tryz.func123, Tryz.ntmps123
    go_wp2_with (first | (go_at_call 139; refine (bwithin_c _ _ _ _).mono ?_; rintro e w1 ⟨rfl, rfl⟩; rw [HX.out]) | (go_at_call 140; refine (wom_all W n wc women (fun i => womOk (wMk women i) (wLo women i) (wHi women i)) _ (KW.out.ext (by go_grown)) (by omega) (hid fun W' _ i _ => valid_c _ _ _ W')).mono ?_; rintro e w2 ⟨rfl, hB2⟩; have hc2 := blk_cell (ext_blk_keep hB2 (heap_alloc_new w _)); rw [HY.out]) | (go_at_call 142; refine (pce_all S pn pc pieces (.slice W n wc) (.slice S pn pc) wrong (fun i => pceOk women (pMs pieces i) (pBd pieces i)) _ (KP.out.ext (ext_trans (by go_grown) hB2)) (by omega) (hid fun W' hW' i hi mv hmv => piece_c W n wc women _ wrong mv _ _ W' (KW.out.ext (ext_trans (ext_trans (by go_grown) hB2) hW')) HL.out hn hmv)).mono ?_; rintro e w3 ⟨rfl, hB3⟩; have hc3 := blk_cell (ext_blk_keep hB3 (ext_blk_keep hB2 (heap_alloc_new w _))); rw [HZ.out]))
    go_ret
    exact ⟨ret_int (by rw [hf0.out]; simp), by go_grown⟩
  cases y
  · go_enter Tryz.func123, Tryz.ntmps123
    go_wp2_with (first | (go_at_call 139; refine (bwithin_c _ _ _ _).mono ?_; rintro e w1 ⟨rfl, rfl⟩; rw [HX.out]) | (go_at_call 140; refine (wom_all W n wc women (fun i => womOk (wMk women i) (wLo women i) (wHi women i)) _ (KW.out.ext (by go_grown)) (by omega) (hid fun W' _ i _ => valid_c _ _ _ W')).mono ?_; rintro e w2 ⟨rfl, hB2⟩; have hc2 := blk_cell (ext_blk_keep hB2 (heap_alloc_new w _)); rw [HY.out]) | (go_at_call 142; refine (pce_all S pn pc pieces (.slice W n wc) (.slice S pn pc) wrong (fun i => pceOk women (pMs pieces i) (pBd pieces i)) _ (KP.out.ext (ext_trans (by go_grown) hB2)) (by omega) (hid fun W' hW' i hi mv hmv => piece_c W n wc women _ wrong mv _ _ W' (KW.out.ext (ext_trans (ext_trans (by go_grown) hB2) hW')) HL.out hn hmv)).mono ?_; rintro e w3 ⟨rfl, hB3⟩; have hc3 := blk_cell (ext_blk_keep hB3 (ext_blk_keep hB2 (heap_alloc_new w _))); rw [HZ.out]))
    go_ret
    exact ⟨ret_int (by rw [hf0.out]; simp), ext_trans (by go_grown) hB2⟩
  cases z
  · go_enter Tryz.func123, Tryz.ntmps123
    go_wp2_with (first | (go_at_call 139; refine (bwithin_c _ _ _ _).mono ?_; rintro e w1 ⟨rfl, rfl⟩; rw [HX.out]) | (go_at_call 140; refine (wom_all W n wc women (fun i => womOk (wMk women i) (wLo women i) (wHi women i)) _ (KW.out.ext (by go_grown)) (by omega) (hid fun W' _ i _ => valid_c _ _ _ W')).mono ?_; rintro e w2 ⟨rfl, hB2⟩; have hc2 := blk_cell (ext_blk_keep hB2 (heap_alloc_new w _)); rw [HY.out]) | (go_at_call 142; refine (pce_all S pn pc pieces (.slice W n wc) (.slice S pn pc) wrong (fun i => pceOk women (pMs pieces i) (pBd pieces i)) _ (KP.out.ext (ext_trans (by go_grown) hB2)) (by omega) (hid fun W' hW' i hi mv hmv => piece_c W n wc women _ wrong mv _ _ W' (KW.out.ext (ext_trans (ext_trans (by go_grown) hB2) hW')) HL.out hn hmv)).mono ?_; rintro e w3 ⟨rfl, hB3⟩; have hc3 := blk_cell (ext_blk_keep hB3 (ext_blk_keep hB2 (heap_alloc_new w _))); rw [HZ.out]))
    go_ret
    exact ⟨ret_int (by rw [hf0.out]; simp), ext_trans (ext_trans (by go_grown) hB2) hB3⟩
  go_enter Tryz.func123, Tryz.ntmps123
  go_wp2_with (first | (go_at_call 139; refine (bwithin_c _ _ _ _).mono ?_; rintro e w1 ⟨rfl, rfl⟩; rw [HX.out]) | (go_at_call 140; refine (wom_all W n wc women (fun i => womOk (wMk women i) (wLo women i) (wHi women i)) _ (KW.out.ext (by go_grown)) (by omega) (hid fun W' _ i _ => valid_c _ _ _ W')).mono ?_; rintro e w2 ⟨rfl, hB2⟩; have hc2 := blk_cell (ext_blk_keep hB2 (heap_alloc_new w _)); rw [HY.out]) | (go_at_call 142; refine (pce_all S pn pc pieces (.slice W n wc) (.slice S pn pc) wrong (fun i => pceOk women (pMs pieces i) (pBd pieces i)) _ (KP.out.ext (ext_trans (by go_grown) hB2)) (by omega) (hid fun W' hW' i hi mv hmv => piece_c W n wc women _ wrong mv _ _ W' (KW.out.ext (ext_trans (ext_trans (by go_grown) hB2) hW')) HL.out hn hmv)).mono ?_; rintro e w3 ⟨rfl, hB3⟩; have hc3 := blk_cell (ext_blk_keep hB3 (ext_blk_keep hB2 (heap_alloc_new w _))); rw [HZ.out]))
  have b3 : w3.heap[w.heap.size]? = some (.cells #[.slice W n wc, .slice S pn pc, .int .i64 wrong] 38 (0, 0)) := ext_blk_keep hB3 (ext_blk_keep hB2 (heap_alloc_new w _))
  have e3 : Ext w w3 := ext_trans (ext_trans (by go_grown) hB2) hB3
  go_loopw [4, 41] (fun m i wr => ∃ k : Nat, k ≤ pn ∧ i = .int .i64 k ∧ m = .int .i64 (manyK women pieces k) ∧ Ext w3 wr) (fun _ i _ => pn - (intOf i).toNat)
  case atStart => exact ⟨0, Nat.zero_le _, rfl, rfl, ext_refl _⟩
  case round =>
    obtain ⟨k, hk, rfl, rfl, hE⟩ := hrel
    have b1 := ext_blk_keep hE b3
    have hc1 := blk_cell b1
    have hlt0 : w.heap.size < wr.heap.size := (Array.getElem?_eq_some_iff.1 b1).1
    have hm := manyK_bd women pieces (by have := HL.out; omega) k
    by_cases hlt : k < pn
    · obtain ⟨b, o, hV, hcell⟩ := KP.out.at (by omega)
      subst hV
      obtain ⟨mv, c1, c2, c3⟩ := hcell k hlt
      obtain ⟨MA, Mc, rfl⟩ := c2.val
      replace c1 := cell_ext (ext_trans e3 hE) c1
      replace c3 := cell_ext (ext_trans e3 hE) c3
      have C2 := hid (c2.ext (ext_trans e3 hE))
      have hol := ofK_len women (pMs pieces k) women.length
      have hL5 := HL.out
      have hmm : Hid (min (manyK women pieces k * ((ofF women (pMs pieces k)).length : Int)) 2001 = manyK women pieces (k + 1)) := hid rfl
      have hmul : 0 ≤ manyK women pieces k * ((ofF women (pMs pieces k)).length : Int) := Int.mul_nonneg hm.1 (Int.natCast_nonneg _)
      have hmul2 : manyK women pieces k * ((ofF women (pMs pieces k)).length : Int) ≤ 2001 * 1000 := Int.mul_le_mul hm.2 (by unfold ofF; omega) (Int.natCast_nonneg _) (by decide)
      clear hcell c2 hL5 hc2 hc3
      go_wp2_with (first | (go_at_call 144; refine (of_c W n wc women _ wrong _ (pMs pieces k) _ _ (KW.out.ext (ext_trans (ext_trans e3 hE) (by go_grown))) HL.out hn (C2.out.ext (by go_grown))).mono ?_; rintro e w4 ⟨v, rfl, hv, hB4⟩; obtain ⟨V4, c4, rfl⟩ := hv.val) | (go_at_call 143; refine (bminimum_c _ _ _ hmm _ _ (by go_cell) (by go_cell)).mono ?_; rintro e w5 ⟨rfl, rfl⟩))
      go_roundw
      case rel => exact ⟨k + 1, hlt, by go_num, rfl, (ext_trans hE (by go_grown : Ext wr (wr.alloc _))).trans ((hB4.alloc hB4.size _).mono (by have := hE.size; simp; omega))⟩
      case measure => simp [intOf]; omega
    · obtain rfl : k = pn := by omega
      by_cases h2 : 2000 < manyK women pieces k
      · go_wp2
        go_ret
        exact ⟨ret_int (by rw [hf0.out, if_pos (show (true && true && true) = true from rfl), if_pos h2]), ext_trans e3 hE⟩
      · go_wp2
        go_ret
        exact ⟨ret_int (by rw [hf0.out, if_pos (show (true && true && true) = true from rfl), if_neg (by omega)]), ext_trans e3 hE⟩
end Go.Proofs.YtlcakmbejjlmeaaGreat
/- The contracts of bundle's 'own', 'wrong', 'astray', 'lost'. -/
set_option linter.unusedVariables false
set_option linter.unusedSimpArgs false
namespace Go.Proofs.YtlcakmbejjlmeaaGreat
open Go.RowKit

/-- How many of the first k pieces a woman owns. -/
def cntK (o : Nat → Int) : Nat → Nat → Int
  | 0, _ => 0
  | k + 1, j => cntK o k j + if o k = (j : Int) then 1 else 0
theorem cntK_bd (o : Nat → Int) (j : Nat) : ∀ k, 0 ≤ cntK o k j ∧ cntK o k j ≤ k
  | 0 => by simp [cntK]
  | k + 1 => by have := cntK_bd o j k; simp only [cntK]; split <;> omega
def rowArr (f : Nat → Int) (n : Nat) : Array Value := ((List.range n).map fun j => Value.int .i64 (f j)).toArray
theorem rowArr_at (f : Nat → Int) {n j : Nat} (h : j < n) : (rowArr f n)[j]? = some (.int .i64 (f j)) := by simp [rowArr, h]
theorem rowArr_size (f : Nat → Int) (n : Nat) : (rowArr f n).size = n := by simp [rowArr]
theorem rowArr_made (n : Nat) : madeCells #[Value.int .i64 0] n = rowArr (fun _ => 0) n := by
  apply Array.ext_getElem?
  intro i
  by_cases h : i < n
  · rw [rowArr_at _ h]
    simp [madeCells, h, Nat.mod_one]
  · rw [Array.getElem?_eq_none (by simp [size_madeCells]; omega), Array.getElem?_eq_none (by rw [rowArr_size]; omega)]
theorem rowArr_set (f : Nat → Int) (n j : Nat) (x : Int) (g : Nat → Int) (hg : ∀ i, g i = if i = j then x else f i) : (rowArr f n).setIfInBounds j (.int .i64 x) = rowArr g n := by
  apply Array.ext_getElem?
  intro i
  rw [Array.getElem?_setIfInBounds, rowArr_size]
  by_cases h : i < n
  · rw [rowArr_at g h, hg i]
    by_cases e : j = i
    · subst e; rw [if_pos rfl, if_pos h, if_pos rfl]
    · rw [if_neg e, rowArr_at f h, if_neg (fun h => e h.symm)]
  · rw [Array.getElem?_eq_none (by rw [rowArr_size]; omega : (rowArr g n).size ≤ i)]
    by_cases e : j = i
    · subst e; rw [if_pos rfl, if_neg h]
    · rw [if_neg e, Array.getElem?_eq_none (by rw [rowArr_size]; omega)]
def ownL (o : Nat → Int) (pn n : Nat) : List Int := (List.range n).map fun j => cntK o pn j
theorem ownL_len (o : Nat → Int) (pn n : Nat) : (ownL o pn n).length = n := by simp [ownL]
theorem ownL_at (o : Nat → Int) (pn : Nat) {n j : Nat} (h : j < n) : at0 (ownL o pn n) j = cntK o pn j := by simp [ownL, at0, h]

set_option maxHeartbeats 3200000 in
set_option maxRecDepth 100000 in
theorem own_c (W : Option Addr) (n wc : Nat) (S : Option Addr) (pn pc : Nat) (wrong : Int) (o : Nat → Int) (w : World) (hn : n ≤ 1000) (hpn : pn ≤ 7) (ho : ∀ i, i < pn → 0 ≤ o i ∧ o i < n) :
    Calls Tryz.prog 147 #[.agg #[.slice W n wc, .slice S pn pc, .int .i64 wrong], .agg #[.int .i64 (o 0), .int .i64 (o 1), .int .i64 (o 2), .int .i64 (o 3), .int .i64 (o 4), .int .i64 (o 5), .int .i64 (o 6)]] w
      fun e w' => ∃ v, e = .returned v ∧ IsInts w' v (ownL o pn n) ∧ Ext w w' := by
  have HO := hid ho
  clear ho
  have hmk : ∀ W : World, (Instr.makeSlice 29 (.int .i64 (n : Int)) (.int .i64 (n : Int))).run Tryz.prog W = .ok (.slice (some ⟨W.heap.size, 0, none⟩) n n) (W.alloc (.cells (madeCells #[.int .i64 0] n) 3)) := fun W =>
    run_make_row' 29 3 (.int .i64 0) 8 Tryz.underlying29 info_int rfl .i64 .i64 n (by omega) (by omega) W
  rw [rowArr_made] at hmk
  go_enter Tryz.func147, Tryz.ntmps147
  go_wp2
  go_loopw [14] (fun i wr => ∃ k : Nat, k ≤ pn ∧ i = .int .i64 k ∧ Ext w wr ∧ wr.heap[w.heap.size]? = some (.cells #[.slice W n wc, .slice S pn pc, .int .i64 wrong] 38 (0, 0)) ∧ wr.heap[w.heap.size + 1]? = some (.cells #[.int .i64 (o 0), .int .i64 (o 1), .int .i64 (o 2), .int .i64 (o 3), .int .i64 (o 4), .int .i64 (o 5), .int .i64 (o 6)] 136 (0, 0)) ∧ wr.heap[w.heap.size + 1 + 1]? = some (.cells (rowArr (cntK o k) n) 3 (0, 0))) (fun i _ => pn - (intOf i).toNat)
  case atStart => exact ⟨0, Nat.zero_le _, rfl, by go_grown, (by repeat (first | exact heap_alloc_at _ _ (by simp) | refine heap_alloc_keep ?_)), (by repeat (first | exact heap_alloc_at _ _ (by simp) | refine heap_alloc_keep ?_)), (by repeat (first | exact heap_alloc_at _ _ (by simp) | refine heap_alloc_keep ?_))⟩
  case round =>
    obtain ⟨k, hk, rfl, hE, b1, b2, b3⟩ := hrel
    have hc1 := blk_cell b1
    have hc2 := blk_cell b2
    have hlt0 : w.heap.size + 1 + 1 < wr.heap.size := (Array.getElem?_eq_some_iff.1 b3).1
    by_cases hlt : k < pn
    · have ho := HO.out k hlt
      obtain ⟨q, hq⟩ : ∃ q : Nat, o k = q := ⟨_, (Int.toNat_of_nonneg ho.1).symm⟩
      have hqn : q < n := by omega
      have h7 := m7_at o k (by omega)
      rw [hq] at h7
      rw [← hc2 k] at h7
      have hk7 : (k : Int) < 7 := by omega
      have hcb := cntK_bd o q k
      have hc3 : wr.cell? ⟨w.heap.size + 1 + 1, q, none⟩ = some (.int .i64 (cntK o k q)) := by rw [blk_cell b3 q, rowArr_at _ hqn]
      have hf3 : wr.frozen? ⟨w.heap.size + 1 + 1, q, none⟩ = false := frozen_of_row wr _ _ _ _ b3
      have hset : Hid ((rowArr (cntK o k) n).setIfInBounds q (.int .i64 (cntK o k q + 1)) = rowArr (cntK o (k + 1)) n) := hid (rowArr_set _ _ _ _ _ (fun i => by
        simp only [cntK, hq]
        by_cases e : i = q
        · subst e; simp
        · rw [if_neg (by omega), if_neg e]; omega))
      clear hc2 hq ho
      go_wp2
      go_roundw
      case rel => exact ⟨k + 1, hlt, by go_num, by go_grown, (by repeat (first | with_reducible exact b1 | (with_reducible refine heap_set_keep (by omega) ?_) | exact heap_alloc_at _ _ (by simp) | with_reducible refine heap_alloc_keep ?_ | with_reducible refine heap_drew_keep ?_)), (by repeat (first | with_reducible exact b2 | (with_reducible refine heap_set_keep (by omega) ?_) | exact heap_alloc_at _ _ (by simp) | with_reducible refine heap_alloc_keep ?_ | with_reducible refine heap_drew_keep ?_)), heap_set_at b3 hset.out⟩
      case measure => simp [intOf]; omega
    · obtain rfl : k = pn := by omega
      go_wp2
      go_ret
      refine ⟨.slice (some ⟨w.heap.size + 1 + 1, 0, none⟩) n n, rfl, ⟨by rw [ownL_len]; omega, some ⟨w.heap.size + 1 + 1, 0, none⟩, n, by rw [ownL_len], fun _ => ⟨_, 0, rfl, fun i hi => ?_⟩⟩, hE⟩
      rw [ownL_len] at hi
      rw [ownL_at _ _ hi, blk_cell b3, Nat.zero_add, rowArr_at _ hi]

/-- The indexes below k of which it is so, as whole numbers. -/
def selK (P : Nat → Bool) (k : Nat) : List Int := ((List.range k).filter P).map fun i : Nat => (i : Int)
theorem selK_succ (P : Nat → Bool) (k : Nat) : selK P (k + 1) = selK P k ++ if P k then [(k : Int)] else [] := by
  unfold selK
  rw [List.range_succ, List.filter_append, List.map_append]
  by_cases h : P k = true <;> simp [h]
theorem selK_len (P : Nat → Bool) (k : Nat) : (selK P k).length ≤ k := by
  unfold selK; rw [List.length_map]; exact Nat.le_trans (List.length_filter_le _ _) (by simp)
theorem selK_zero (P : Nat → Bool) : selK P 0 = [] := rfl
theorem mem_selK (P : Nat → Bool) (k : Nat) (x : Int) : x ∈ selK P k ↔ ∃ i : Nat, i < k ∧ P i = true ∧ x = i := by
  simp only [selK, List.mem_map, List.mem_filter, List.mem_range]
  constructor
  · rintro ⟨i, ⟨h1, h2⟩, rfl⟩; exact ⟨i, h1, h2, rfl⟩
  · rintro ⟨i, h1, h2, rfl⟩; exact ⟨i, ⟨h1, h2⟩, rfl⟩
/-- Did the woman j miscount? -/
def misP (women : List Wom) (o : Nat → Int) (pn : Nat) (j : Nat) : Bool := !(decide (wLo women j ≤ cntK o pn j) && decide (cntK o pn j ≤ wHi women j))
def wrongF (women : List Wom) (o : Nat → Int) (pn : Nat) : List Int := selK (misP women o pn) women.length
/-- Is the piece i astray? -/
def astP (pieces : List Pce) (o : Nat → Int) (i : Nat) : Bool := decide (pBd pieces i ≠ o i)
def astrayF (pieces : List Pce) (o : Nat → Int) : List Int := selK (astP pieces o) pieces.length
set_option maxHeartbeats 800000 in
theorem bhas_b (n lo hi : Int) (x : Bool) (hx : Hid ((!(decide (lo ≤ n) && decide (n ≤ hi))) = x)) (w : World) : Calls Tryz.prog 148 #[.agg #[.int .i64 lo, .int .i64 hi], .int .i64 n] w fun e w' => e = .returned (.bool (!x)) ∧ Ext w w' := by
  have h : Calls Tryz.prog 148 #[.agg #[.int .i64 lo, .int .i64 hi], .int .i64 n] w fun e w' => e = .returned (.bool (decide (lo ≤ n) && decide (n ≤ hi))) ∧ Ext w w' := by
    go_enter Tryz.func148, Tryz.ntmps148
    go_wp2_with (go_at_call 139; refine (bwithin_c _ _ _ _).mono ?_; rintro e w1 ⟨rfl, rfl⟩)
    go_ret
    exact ⟨rfl, by go_grown⟩
  exact h.mono fun e w' ⟨h1, h2⟩ => ⟨by rw [h1, ← hx.out, Bool.not_not], h2⟩
set_option maxHeartbeats 3200000 in
set_option maxRecDepth 100000 in
theorem wrong_c (W : Option Addr) (n wc : Nat) (women : List Wom) (S : Option Addr) (pn pc : Nat) (wrong : Int) (o : Nat → Int) (w : World) (hW : IsWoms w (.slice W n wc) women) (hwl : women.length = n) (hn : n ≤ 1000) (hpn : pn ≤ 7) (ho : ∀ i, i < pn → 0 ≤ o i ∧ o i < n) :
    Calls Tryz.prog 125 #[.agg #[.slice W n wc, .slice S pn pc, .int .i64 wrong], .agg #[.int .i64 (o 0), .int .i64 (o 1), .int .i64 (o 2), .int .i64 (o 3), .int .i64 (o 4), .int .i64 (o 5), .int .i64 (o 6)]] w
      fun e w' => ∃ v, e = .returned v ∧ IsInts w' v (wrongF women o pn) ∧ Ext w w' := by
  have KW := hid hW
  have HL := hid hwl
  have HO := hid ho
  clear hW hwl ho
  go_enter Tryz.func125, Tryz.ntmps125
  go_wp2_with (go_at_call 147; refine (own_c W n wc S pn pc wrong o _ hn hpn HO.out).mono ?_; rintro e w1 ⟨v, rfl, hv, hB1⟩; obtain ⟨hvl, V, vc, hve, hvc⟩ := hv; rw [ownL_len] at hve hvc; subst hve)
  have b1 : w1.heap[w.heap.size]? = some (.cells #[.slice W n wc, .slice S pn pc, .int .i64 wrong] 38 (0, 0)) := ext_blk_keep hB1 (by repeat (first | exact heap_alloc_at _ _ (by simp) | refine heap_alloc_keep ?_))
  have e1 : Ext w w1 := ext_trans (by go_grown) hB1
  have KV := hid hvc
  clear hvc hvl
  go_loopw [4, 11] (fun out i wr => ∃ k : Nat, k ≤ n ∧ i = .int .i64 k ∧ wr.ownsRow w1.heap.size 3 1 out (selK (misP women o pn) k).length ((selK (misP women o pn) k).map (Value.int .i64)) ∧ Ext w1 wr) (fun _ i _ => n - (intOf i).toNat)
  case atStart => exact ⟨0, Nat.zero_le _, rfl, own_nil _ _ _ _, ext_refl _⟩
  case round =>
    obtain ⟨k, hk, rfl, hown, hE⟩ := hrel
    have HOW := hid hown
    have hc1 := blk_cell (ext_blk_keep hE b1)
    have hsz := hE.size
    clear hown
    by_cases hlt : k < n
    · obtain ⟨b, o', hV, hcell⟩ := KW.out.at (by omega)
      subst hV
      obtain ⟨vb, vo, hVV, hvcell⟩ := KV.out (by omega)
      subst hVV
      have c2 := cell_ext (ext_trans e1 hE) (hcell k hlt).2.1
      have c3 := cell_ext (ext_trans e1 hE) (hcell k hlt).2.2
      have c4 := cell_ext hE (hvcell k hlt)
      rw [ownL_at _ _ hlt] at c4
      have hs := selK_succ (misP women o pn) k
      have hol := selK_len (misP women o pn) k
      obtain ⟨x, hx⟩ : ∃ x, misP women o pn k = x := ⟨_, rfl⟩
      rw [hx] at hs
      have HX := hid hx
      have HS := hid hs
      have hxx : Hid ((!(decide (wLo women k ≤ cntK o pn k) && decide (cntK o pn k ≤ wHi women k))) = x) := hid hx
      clear hcell hvcell hx hs
      cases x
      · go_wp2_with (go_at_call 148; refine (bhas_b _ _ _ _ hxx _).mono ?_; rintro e w2 ⟨rfl, hB2⟩)
        go_roundw
        case rel => exact ⟨k + 1, hlt, by go_num, by rw [HS.out]; simpa using own_ext HOW.out hB2, ext_trans hE hB2⟩
        case measure => simp [intOf]; omega
      · go_wp2_with (first | (go_at_call 148; refine (bhas_b _ _ _ _ hxx _).mono ?_; rintro e w2 ⟨rfl, hB2⟩) | (at_builtin; refine app_intH rfl _ _ 29 3 rfl Tryz.underlying29 info_int w1.heap.size _ (selK (misP women o pn) k).length (selK (misP women o pn) k) (k : Int) _ rfl rfl rfl (own_ext HOW.out hB2) (Nat.le_trans hsz hB2.size) (by omega) ?_; intro g cap w3 hown3 hB3 hg3 hlt3 hbg3))
        go_roundw
        case rel => exact ⟨k + 1, hlt, by go_num, by rw [HS.out]; simpa using hown3, (ext_trans hE hB2).trans hB3⟩
        case measure => simp [intOf]; omega
    · obtain rfl : k = n := by omega
      go_wp2
      go_ret
      refine ⟨_, rfl, ?_, ext_trans e1 hE⟩
      have := HL.out
      subst this
      exact own_ints (xs := wrongF women o pn) HOW.out (by have := selK_len (misP women o pn) women.length; unfold wrongF; omega)
set_option maxHeartbeats 3200000 in
set_option maxRecDepth 100000 in
theorem astray_c (wv : Value) (S : Option Addr) (pn pc : Nat) (pieces : List Pce) (wrong : Int) (o : Nat → Int) (w : World) (hP : IsPces w (.slice S pn pc) pieces) (hpl : pieces.length = pn) (hpn : pn ≤ 7) :
    Calls Tryz.prog 97 #[.agg #[wv, .slice S pn pc, .int .i64 wrong], .agg #[.int .i64 (o 0), .int .i64 (o 1), .int .i64 (o 2), .int .i64 (o 3), .int .i64 (o 4), .int .i64 (o 5), .int .i64 (o 6)]] w
      fun e w' => ∃ v, e = .returned v ∧ IsInts w' v (astrayF pieces o) ∧ Ext w w' := by
  have KP := hid hP
  have HL := hid hpl
  clear hP hpl
  go_enter Tryz.func97, Tryz.ntmps97
  go_wp2
  go_loopw [4, 10] (fun out i wr => ∃ k : Nat, k ≤ pn ∧ i = .int .i64 k ∧ wr.ownsRow (w.heap.size + 2) 3 1 out (selK (astP pieces o) k).length ((selK (astP pieces o) k).map (Value.int .i64)) ∧ Ext w wr ∧ w.heap.size + 2 ≤ wr.heap.size ∧ wr.heap[w.heap.size]? = some (.cells #[wv, .slice S pn pc, .int .i64 wrong] 38 (0, 0)) ∧ wr.heap[w.heap.size + 1]? = some (.cells #[.int .i64 (o 0), .int .i64 (o 1), .int .i64 (o 2), .int .i64 (o 3), .int .i64 (o 4), .int .i64 (o 5), .int .i64 (o 6)] 136 (0, 0))) (fun _ i _ => pn - (intOf i).toNat)
  case atStart => exact ⟨0, Nat.zero_le _, rfl, own_nil _ _ _ _, by go_grown, by simp, (by repeat (first | exact heap_alloc_at _ _ (by simp) | refine heap_alloc_keep ?_)), (by repeat (first | exact heap_alloc_at _ _ (by simp) | refine heap_alloc_keep ?_))⟩
  case round =>
    obtain ⟨k, hk, rfl, hown, hE, hsz, b1, b2⟩ := hrel
    have HOW := hid hown
    have hn1 : w.heap.size + 1 < wr.heap.size := by omega
    clear hown
    by_cases hlt : k < pn
    · obtain ⟨b, o', hV, hcell⟩ := KP.out.at (by omega)
      subst hV
      obtain ⟨mv, c1, c2, c3⟩ := hcell k hlt
      obtain ⟨MA, Mc, rfl⟩ := c2.val
      replace c1 := cell_ext hE c1
      replace c3 := cell_ext hE c3
      have h7 := m7_at o k (by omega)
      rw [← blk_cell b2 k] at h7
      have hk7 : (k : Int) < 7 := by omega
      have hs := selK_succ (astP pieces o) k
      have hol := selK_len (astP pieces o) k
      clear hcell c2
      by_cases he : pBd pieces k = o k
      · have hx : astP pieces o k = false := by simp [astP, he]
        rw [hx] at hs
        have HS := hid hs
        have e1 : (pBd pieces k != o k) = false := by rw [bne_eq_false_iff_eq]; exact he
        clear hs hx he
        go_wp2
        go_quiet (fail)
        obtain ⟨W1, hW1⟩ : ∃ W1, W1 = (wr.alloc (.cells #[.slice MA (pMs pieces k).length Mc, .int .i64 (pBd pieces k)] 143)).drewN nq := ⟨_, rfl⟩
        rw [← hW1]
        have eW : Ext wr W1 := by rw [hW1]; exact ext_drewN (by go_grown) nq
        clear hW1
        go_wp2
        go_roundw
        case rel => exact ⟨k + 1, hlt, by go_num, by rw [HS.out]; simpa using own_ext HOW.out eW, ext_trans hE eW, Nat.le_trans hsz eW.size, ext_blk_keep eW b1, ext_blk_keep eW b2⟩
        case measure => simp [intOf]; omega
      · have hx : astP pieces o k = true := by simp [astP, he]
        rw [hx] at hs
        have HS := hid hs
        have e1 : (pBd pieces k != o k) = true := by rw [bne_iff_ne]; exact he
        clear hs hx he
        go_wp2
        go_quiet (fail)
        obtain ⟨W1, hW1⟩ : ∃ W1, W1 = (wr.alloc (.cells #[.slice MA (pMs pieces k).length Mc, .int .i64 (pBd pieces k)] 143)).drewN nq := ⟨_, rfl⟩
        rw [← hW1]
        have eW : Ext wr W1 := by rw [hW1]; exact ext_drewN (by go_grown) nq
        clear hW1
        go_wp2_with (at_builtin; refine app_intH rfl _ _ 29 3 rfl Tryz.underlying29 info_int (w.heap.size + 2) _ (selK (astP pieces o) k).length (selK (astP pieces o) k) (k : Int) _ rfl rfl rfl (own_ext HOW.out eW) (Nat.le_trans hsz eW.size) (by omega) ?_; intro g cap w3 hown3 hB3 hg3 hlt3 hbg3)
        go_roundw
        case rel => exact ⟨k + 1, hlt, by go_num, by rw [HS.out]; simpa using hown3, (ext_trans hE eW).trans (hB3.mono (by omega)), Nat.le_trans (Nat.le_trans hsz eW.size) hB3.size, by rw [hB3.block _ (by omega)]; exact ext_blk_keep eW b1, by rw [hB3.block _ (by omega)]; exact ext_blk_keep eW b2⟩
        case measure => simp [intOf]; omega
    · obtain rfl : k = pn := by omega
      go_wp2
      go_ret
      refine ⟨_, rfl, ?_, hE⟩
      have := HL.out
      subst this
      exact own_ints (xs := astrayF pieces o) HOW.out (by have := selK_len (astP pieces o) pieces.length; unfold astrayF; omega)
end Go.Proofs.YtlcakmbejjlmeaaGreat
/- The contracts of bundle's 'lost' and 'best'. -/
set_option linter.unusedVariables false
set_option linter.unusedSimpArgs false
namespace Go.Proofs.YtlcakmbejjlmeaaGreat
open Go.RowKit

def ow (os : List (Nat → Int)) (i : Nat) : Nat → Int := os.getD i fun _ => 0
/-- 'v' reads as a list of owners. -/
def IsOwns (w : World) (v : Value) (os : List (Nat → Int)) : Prop :=
  os.length ≤ 1000000 ∧ ∃ A c, v = .slice A os.length c ∧ (0 < os.length → ∃ b o, A = some ⟨b, o, none⟩ ∧ ∀ i, i < os.length → ∀ j, j < 7 → w.cell? ⟨b, o + i * 7 + j, none⟩ = some (.int .i64 (ow os i j)))
theorem IsOwns.ext {w w' : World} {v : Value} {xs : List (Nat → Int)} (h : IsOwns w v xs) (e : Ext w w') : IsOwns w' v xs := by
  obtain ⟨h0, A, c, hv, h1⟩ := h
  refine ⟨h0, A, c, hv, fun hn => ?_⟩
  obtain ⟨b, o, ha, hc⟩ := h1 hn
  exact ⟨b, o, ha, fun i hi j hj => cell_ext e (hc i hi j hj)⟩
theorem IsOwns.val {w : World} {v : Value} {xs : List (Nat → Int)} (h : IsOwns w v xs) : ∃ A c, v = .slice A xs.length c := let ⟨_, A, c, hv, _⟩ := h; ⟨A, c, hv⟩
theorem IsOwns.at {w : World} {A : Option Addr} {n c : Nat} {xs : List (Nat → Int)} (h : IsOwns w (.slice A n c) xs) (hp : 0 < n) : ∃ b o, A = some ⟨b, o, none⟩ ∧ ∀ i, i < n → ∀ j, j < 7 → w.cell? ⟨b, o + i * 7 + j, none⟩ = some (.int .i64 (ow xs i j)) := by
  obtain ⟨_, A', c', hv, h1⟩ := h
  injection hv with h2 h3 h4
  subst h2; subst h3
  exact h1 hp
def lostF (pieces : List Pce) (o : Nat → Int) : Nat := (astrayF pieces o).length
theorem lostF_le (pieces : List Pce) (o : Nat → Int) : lostF pieces o ≤ pieces.length := selK_len _ _
set_option maxHeartbeats 1600000 in
set_option maxRecDepth 100000 in
theorem lost_c (p : Nat) (wv tv mv : Value) (S : Option Addr) (pn pc : Nat) (pieces : List Pce) (wrong : Int) (o : Nat → Int) (z : Int) (w : World) (hp : w.heap[p]? = some (.cells #[wv, .slice S pn pc, .int .i64 wrong, tv, mv] 142 (0, 0))) (hP : IsPces w (.slice S pn pc) pieces) (hpl : pieces.length = pn) (hpn : pn ≤ 7) :
    Calls Tryz.prog 126 #[.pointer (some ⟨p, 0, none⟩), .agg #[.int .i64 (o 0), .int .i64 (o 1), .int .i64 (o 2), .int .i64 (o 3), .int .i64 (o 4), .int .i64 (o 5), .int .i64 (o 6)], .int .i64 z] w
      fun e w' => e = .returned (.int .i64 ((lostF pieces o : Nat) : Int)) ∧ Ext w w' := by
  have KP := hid hP
  have HL := hid hpl
  clear hP hpl
  go_enter Tryz.func126, Tryz.ntmps126
  go_wp2
  refine wp_gen ?_
  intro W0 hW0
  have hB0 : Ext w W0 := by rw [hW0]; go_grown
  have b1 : W0.heap[w.heap.size]? = some (.cells #[.int .i64 (o 0), .int .i64 (o 1), .int .i64 (o 2), .int .i64 (o 3), .int .i64 (o 4), .int .i64 (o 5), .int .i64 (o 6)] 136 (0, 0)) := by rw [hW0]; exact (by repeat (first | exact heap_alloc_at _ _ (by simp) | refine heap_alloc_keep ?_))
  clear hW0
  have f1 := ext_blk b1
  have f2 := ext_blk (ext_blk_keep hB0 hp)
  have e0 : Ext W0 W0 := ext_refl W0
  go_region_held3 (fun W => Ext W0 W)
    (first | exact Below.drew (by assumption) | assumption | exact ext_trans (by assumption) (by assumption))
    ((go_at_call 97; refine (astray_c wv S pn pc pieces wrong o _ (KP.out.ext (ext_trans hB0 (by assumption))) HL.out hpn).mono ?_; rintro e w1 ⟨v, rfl, hv, hB1⟩; obtain ⟨hvl, V, vc, hve, hvc⟩ := hv; subst hve))
  all_goals go_wp2
  all_goals go_ret
  all_goals exact ⟨rfl, ext_trans hB0 (by assumption)⟩
def bestK (pieces : List Pce) (os : List (Nat → Int)) : Nat → (Nat → Int)
  | 0 => ow os 0
  | k + 1 => if lostF pieces (ow os k) < lostF pieces (bestK pieces os k) then ow os k else bestK pieces os k
def bestF (pieces : List Pce) (os : List (Nat → Int)) : Nat → Int := bestK pieces os os.length
set_option maxHeartbeats 3200000 in
set_option maxRecDepth 100000 in
theorem best_c (p : Nat) (wv mv : Value) (T : Option Addr) (tn tc : Nat) (os : List (Nat → Int)) (S : Option Addr) (pn pc : Nat) (pieces : List Pce) (wrong : Int) (w : World) (hp : w.heap[p]? = some (.cells #[wv, .slice S pn pc, .int .i64 wrong, .slice T tn tc, mv] 142 (0, 0))) (hP : IsPces w (.slice S pn pc) pieces) (hpl : pieces.length = pn) (hpn : pn ≤ 7)
    (hT : IsOwns w (.slice T tn tc) os) (htl : os.length = tn) (htn : 0 < tn) (htn2 : tn ≤ 1000000) :
    Calls Tryz.prog 96 #[.pointer (some ⟨p, 0, none⟩)] w
      fun e w' => e = .returned (.agg #[.int .i64 (bestF pieces os 0), .int .i64 (bestF pieces os 1), .int .i64 (bestF pieces os 2), .int .i64 (bestF pieces os 3), .int .i64 (bestF pieces os 4), .int .i64 (bestF pieces os 5), .int .i64 (bestF pieces os 6)]) ∧ Ext w w' := by
  have KP := hid hP
  have HL := hid hpl
  have KT := hid hT
  have HT := hid htl
  have KB := hid hp
  have hplt := (Array.getElem?_eq_some_iff.1 hp).1
  have hcp := blk_cell hp
  obtain ⟨tb, to, hTT, htc⟩ := hT.at htn
  subst hTT
  have z0 := htc 0 htn 0 (by omega)
  have z1 := htc 0 htn 1 (by omega)
  have z2 := htc 0 htn 2 (by omega)
  have z3 := htc 0 htn 3 (by omega)
  have z4 := htc 0 htn 4 (by omega)
  have z5 := htc 0 htn 5 (by omega)
  have z6 := htc 0 htn 6 (by omega)
  simp only [Nat.zero_mul, Nat.add_zero] at z0 z1 z2 z3 z4 z5 z6
  have HC := hid htc
  have htblt := cell_lt z0
  have htn' : (0 : Int) < (tn : Int) := by omega
  clear hP hpl hT htl hp htc
  go_enter Tryz.func96, Tryz.ntmps96
  go_wp2
  go_loopw [17] (fun i wr => ∃ k : Nat, k ≤ tn ∧ i = .int .i64 k ∧ Ext w wr ∧ wr.heap[w.heap.size]? = some (.cells #[.int .i64 0, .int .i64 0, .int .i64 0, .int .i64 0, .int .i64 0, .int .i64 0, .int .i64 0] 136 (0, 0)) ∧ wr.heap[w.heap.size + 1]? = some (.cells #[.int .i64 (bestK pieces os k 0), .int .i64 (bestK pieces os k 1), .int .i64 (bestK pieces os k 2), .int .i64 (bestK pieces os k 3), .int .i64 (bestK pieces os k 4), .int .i64 (bestK pieces os k 5), .int .i64 (bestK pieces os k 6)] 136 (0, 0))) (fun i _ => tn - (intOf i).toNat)
  case atStart => exact ⟨0, Nat.zero_le _, rfl, by go_grown, (by repeat (first | exact heap_alloc_at _ _ (by simp) | refine heap_alloc_keep ?_)), (by repeat (first | exact heap_alloc_at _ _ (by simp) | refine heap_alloc_keep ?_))⟩
  case round =>
    obtain ⟨k, hk, rfl, hE, b1, b2⟩ := hrel
    have hlt0 : w.heap.size + 1 < wr.heap.size := (Array.getElem?_eq_some_iff.1 b2).1
    clear z0 z1 z2 z3 z4 z5 z6
    by_cases hlt : k < tn
    · have cc := fun j hj => cell_ext hE (HC.out k hlt j hj)
      have y0 := cc 0 (by omega)
      have y1 := cc 1 (by omega)
      have y2 := cc 2 (by omega)
      have y3 := cc 3 (by omega)
      have y4 := cc 4 (by omega)
      have y5 := cc 5 (by omega)
      have y6 := cc 6 (by omega)
      simp only [Nat.add_zero] at y0
      have hlo := lostF_le pieces (ow os k)
      have hlb := lostF_le pieces (bestK pieces os k)
      have hL7 : pieces.length ≤ 7 := by have := HL.out; omega
      have bp := ext_blk_keep hE KB.out
      clear cc hcp
      go_wp2
      refine wp_gen ?_
      intro W0 hW0
      have hB0 : Ext wr W0 := by rw [hW0]; go_grown
      have b5 : W0.heap[wr.heap.size]? = some (.cells #[.int .i64 (ow os k 0), .int .i64 (ow os k 1), .int .i64 (ow os k 2), .int .i64 (ow os k 3), .int .i64 (ow os k 4), .int .i64 (ow os k 5), .int .i64 (ow os k 6)] 136 (0, 0)) := by rw [hW0]; exact (by repeat (first | exact heap_alloc_at _ _ (by simp) | refine heap_alloc_keep ?_))
      clear hW0 y0 y1 y2 y3 y4 y5 y6
      have b2' := ext_blk_keep hB0 b2
      have f1 := ext_blk b5
      have f2 := ext_blk b2'
      have e0 : Ext W0 W0 := ext_refl W0
      go_region_held3 (fun W => Ext W0 W)
        (first | exact Below.drew (by assumption) | assumption | exact ext_trans (by assumption) (by assumption))
        ((go_at_call 126; refine (lost_c p wv _ mv S pn pc pieces wrong _ _ _ (ext_blk_keep (ext_trans hB0 (by assumption)) bp) (KP.out.ext (ext_trans hE (ext_trans hB0 (by assumption)))) HL.out hpn).mono ?_; rintro e w1 ⟨rfl, hB1⟩))
      have e1 : Ext W0 w1 := by assumption
      have eW : Ext wr w1 := ext_trans hB0 e1
      have b5' := ext_blk_keep e1 b5
      have b2'' := ext_blk_keep eW b2
      have hc5 := blk_cell b5'
      have hc2 := blk_cell b2''
      have hf2 : ∀ j, w1.frozen? ⟨w.heap.size + 1, j, none⟩ = false := fun j => frozen_of_row w1 _ j _ _ b2''
      have bb1 := ext_blk_keep eW b1
      have eE := ext_trans hE eW
      clear f1 f2
      by_cases hb : lostF pieces (ow os k) < lostF pieces (bestK pieces os k)
      · have hk1 : Hid (bestK pieces os (k + 1) = ow os k) := hid (by rw [bestK, if_pos hb])
        go_wp2
        go_roundw
        case rel => exact ⟨k + 1, hlt, by go_num, by go_grown, (by repeat (first | with_reducible exact bb1 | (with_reducible refine heap_set_keep (by omega) ?_) | exact heap_alloc_at _ _ (by simp) | with_reducible refine heap_alloc_keep ?_ | with_reducible refine heap_drew_keep ?_)), by rw [hk1.out]; exact set7 b2'' rfl _ _ _ _ _ _ _⟩
        case measure => simp [intOf]; omega
      · have hk1 : Hid (bestK pieces os (k + 1) = bestK pieces os k) := hid (by rw [bestK, if_neg hb])
        go_wp2
        go_roundw
        case rel => exact ⟨k + 1, hlt, by go_num, eE, bb1, by rw [hk1.out]; exact b2''⟩
        case measure => simp [intOf]; omega
    · obtain rfl : k = tn := by omega
      have hc2 := blk_cell b2
      have hc1 := blk_cell b1
      have hf1 : ∀ j, wr.frozen? ⟨w.heap.size, j, none⟩ = false := fun j => frozen_of_row wr _ j _ _ b1
      go_wp2
      refine bodyPost_ret (v := .agg #[.int .i64 (bestK pieces os k 0), .int .i64 (bestK pieces os k 1), .int .i64 (bestK pieces os k 2), .int .i64 (bestK pieces os k 3), .int .i64 (bestK pieces os k 4), .int .i64 (bestK pieces os k 5), .int .i64 (bestK pieces os k 6)]) (results_cell_row (fn := Tryz.f96) (p := 2) (ty := 136) rfl _ _ w.heap.size 136 _ (0, 0) _ rfl (set7 b1 rfl _ _ _ _ _ _ _) Tryz.underlying136 rfl (by kernel_rfl)) rfl ⟨by rw [bestF, HT.out], by go_grown⟩
end Go.Proofs.YtlcakmbejjlmeaaGreat
