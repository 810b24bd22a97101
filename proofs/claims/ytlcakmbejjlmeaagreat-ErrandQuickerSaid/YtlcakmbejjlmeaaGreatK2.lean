/- My own law of a range over a function: an iterator that keeps state of its own in memory, and a body that writes blocks of its own. -/
import Derived.Test.YtlcakmbejjlmeaaGreatK1
import Derived.RangeFuncNested
import Derived.RangeFuncBound
import Derived.RangeFuncCalls
import Derived.RangeFuncLeaves
import Derived.OwnWalkIn
import Derived.TacticsInMore
import Derived.LoopNIn
import Derived.LoopIn
import Derived.OrdersIn
import Derived.Lib.SliceRun
import Derived.Laws.EntriesVeiled
import Derived.MapKept
import Derived.Carry
import Derived.WideLaws
import Derived.OrdersHeld
import Derived.Deep.RegionHeld3
import Derived.Maps.OwnOps
import Derived.WideKeyEntry
import Derived.DeepKeys4
import Derived.OpenShut
import Derived.ChangeKeysEq
set_option linter.unusedVariables false
set_option linter.unusedSimpArgs false
namespace Go.Proofs.YtlcakmbejjlmeaaGreat
open Go.RowKit

/-- The blocks that are not 'ow' stand. -/
structure Kept (ow : Nat → Prop) (W W' : World) : Prop where
  os : W'.os = W.os
  tape : W'.tape = W.tape
  output : W'.output = W.output
  size : W.heap.size ≤ W'.heap.size
  blk : ∀ b, b < W.heap.size → ¬ ow b → W'.heap[b]? = W.heap[b]?
theorem Kept.refl (ow : Nat → Prop) (W : World) : Kept ow W W := ⟨rfl, rfl, rfl, Nat.le_refl _, fun _ _ _ => rfl⟩
theorem Kept.trans {ow : Nat → Prop} {A B C : World} (h : Kept ow A B) (k : Kept ow B C) : Kept ow A C :=
  ⟨k.os.trans h.os, k.tape.trans h.tape, k.output.trans h.output, Nat.le_trans h.size k.size, fun b hb ho => (k.blk b (Nat.lt_of_lt_of_le hb h.size) ho).trans (h.blk b hb ho)⟩
theorem Kept.mono {ow ow' : Nat → Prop} {A B : World} (h : Kept ow A B) (hm : ∀ b, ow b → ow' b) : Kept ow' A B :=
  ⟨h.os, h.tape, h.output, h.size, fun b hb ho => h.blk b hb fun h' => ho (hm b h')⟩
theorem Kept.of_ext {ow : Nat → Prop} {A B : World} (h : Ext A B) : Kept ow A B := ⟨h.os, h.tape, h.output, h.size, fun b hb _ => h.block b hb⟩
theorem Kept.keep {ow : Nat → Prop} {A B : World} (h : Kept ow A B) {b : Nat} {o : Obj} (hb : A.heap[b]? = some o) (ho : ¬ ow b) : B.heap[b]? = some o := by
  rw [h.blk b (Array.getElem?_eq_some_iff.1 hb).1 ho]; exact hb
theorem Kept.set {ow : Nat → Prop} {A B : World} (h : Kept ow A B) {b j : Nat} (v : Value) (ho : ow b) : Kept ow A (B.setCell ⟨b, j, none⟩ v) :=
  ⟨h.os, h.tape, h.output, by simpa using h.size, fun c hc hoc => by rw [heap_setCell_other B ⟨b, j, none⟩ c v (fun e => hoc (by rw [e]; exact ho))]; exact h.blk c hc hoc⟩
theorem Kept.alloc {ow : Nat → Prop} {A B : World} (h : Kept ow A B) (o : Obj) : Kept ow A (B.alloc o) := h.trans (Kept.of_ext ((ext_refl B).alloc (Nat.le_refl _) o))
theorem Kept.ext {ow : Nat → Prop} {A B C : World} (h : Kept ow A B) (k : Ext B C) : Kept ow A C := h.trans (Kept.of_ext k)
theorem Kept.putObj {ow : Nat → Prop} {A B : World} (h : Kept ow A B) {b : Nat} (o : Obj) (ho : ow b) : Kept ow A (B.putObj b o) :=
  ⟨h.os, h.tape, h.output, by simpa using h.size, fun c hc hoc => by rw [World.putObj_heap_other (fun e : c = b => hoc (by rw [e]; exact ho))]; exact h.blk c hc hoc⟩

/-- **What an iterator keeps to**: it calls yield at the elements of 'xs' one after the other, until yield says no; between the calls it changes memory as 'Fr' says; what it captured lies in the blocks 'cb'. -/
def IterOk {α : Type} (P : Program) (gf : FuncId) (lb : Array Value) (Rep : World → Value → α → Prop) (xs : List α) (Fr : Nat → (Nat → Prop) → World → World → Prop) (cb : Nat → Prop) (w0 : World) : Prop :=
  ∀ (l : Nat) (ow0 : Nat → Prop) (J : (Nat → Prop) → List α → World → Prop) (Jx : List α → World → Prop) (W : World), Ext w0 W →
    (∀ ow pre W1 b, J ow pre W1 → ow b → b < W1.heap.size) →
    (∀ ow pre W1 W2, J ow pre W1 → Fr W.heap.size ow W1 W2 → J ow pre W2) →
    (∀ ow pre x W1 v, J ow pre W1 → (pre ++ [x]) <+: xs → Rep W1 v x → YieldAt Fence.wide 0 P l #[v] W1 fun e W2 =>
      Kept ow W1 W2 ∧ ((e = .returned (.bool true) ∧ ∃ ow', J ow' (pre ++ [x]) W2 ∧ ∀ b, ow' b → ow b ∨ W1.heap.size ≤ b) ∨ (e = .returned (.bool false) ∧ Jx (pre ++ [x]) W2))) →
    J ow0 [] W → (∀ b, cb b → b < W.heap.size ∧ ¬ ow0 b) →
    Calls P gf (#[.func (.yield l) #[] #[]] ++ lb) W fun e W' => (∃ v, e = .returned v) ∧ ((∃ ow', J ow' xs W') ∨ ∃ pre, pre <+: xs ∧ Jx pre W')

/-- How a round's body may be left. -/
def roundOk {α : Type} (I : (Nat → Prop) → List α → World → Prop) (Ix : Code → List α → World → Prop) (ow : Nat → Prop) (pre : List α) (W : World) : Exit → Act → World → Prop
  | .normal, _, W' => Kept ow W W' ∧ ∃ ow', I ow' pre W' ∧ ∀ b, ow' b → ow b ∨ W.heap.size ≤ b
  | .ret, _, W' => Kept ow W W' ∧ Ix .ret pre W'
  | .exit id, _, W' => Kept ow W W' ∧ Ix (.exit id) pre W'
  | .goto t, _, W' => Kept ow W W' ∧ Ix (.goto t) pre W'
  | .panic _, _, _ => False
  | .outgrown, _, _ => False

theorem wp_range {α : Type} {P : Program} {g : Operand} {p : Tmp} {assign body : Code} {Q : Exit → Act → World → Prop} {a : Act} {w : World}
    {gf : FuncId} {lb : Array Value} (hg : a.eval g = .func (.func gf) #[] lb) (eg : ∀ args w, (callFunc gf args).run P w = .ok (.enter gf args) w)
    {Rep : World → Value → α → Prop} {xs : List α} {Fr : Nat → (Nat → Prop) → World → World → Prop} {cb : Nat → Prop} {w0 : World} (hseq : IterOk P gf lb Rep xs Fr cb w0) (hb0 : Ext w0 w)
    (hFr : ∀ D ow W1 W2, Fr D ow W1 W2 → W1.heap.size ≤ W2.heap.size ∧ ∀ b, b < D → b < W1.heap.size → W2.heap[b]? = W1.heap[b]?)
    (ow0 : Nat → Prop) (hcb : ∀ b, cb b → b < w.heap.size ∧ ¬ ow0 b)
    (I : (Nat → Prop) → List α → World → Prop) (Ix : Code → List α → World → Prop)
    (hIb : ∀ ow pre W b, I ow pre W → ow b → b < W.heap.size ∧ b ≠ w.heap.size + 1 ∧ b ≠ w.heap.size)
    (hIst : ∀ ow pre W1 W2, I ow pre W1 → Fr (w.heap.size + 2) (fun b => ow b ∨ b = w.heap.size + 1) W1 W2 → I ow pre W2)
    (hIl : ∀ ow pre W o, I ow pre W → I ow pre (W.putObj (w.heap.size + 1) o))
    (hIxl : ∀ c pre W o, Ix c pre W → Ix c pre (W.putObj (w.heap.size + 1) o))
    (h0 : ∀ W1, Ext w W1 → W1.heap.size = w.heap.size + 2 → I ow0 [] W1)
    (hround : ∀ ow pre x v W, I ow pre W → (pre ++ [x]) <+: xs → Rep W v x → (∃ r, W.heap[w.heap.size + 1]? = some (.loop r)) →
      assign.wpIn (Fence.wide.inRound (w.heap.size + 1)) 0 P (Exit.then (fun a₁ W₁ => Ext W W₁ ∧ ∀ W₂, (∃ o, W₂ = W₁.putObj (w.heap.size + 1) o) →
        body.wpIn (Fence.wide.inRound (w.heap.size + 1)) 0 P (roundOk I Ix ow (pre ++ [x]) W₂) a₁ W₂) (fun _ _ _ => False))
        { tmps := a.tmps.setIfInBounds p v, defers := [] } W)
    (hdone : ∀ ow W, I ow xs W → W.heap[w.heap.size]? = some (.deferred (some [])) → Q .normal { a with defers := { target := .collected w.heap.size, args := #[] } :: a.defers } W)
    (hstop : ∀ c pre W, pre <+: xs → Ix c pre W → W.heap[w.heap.size]? = some (.deferred (some [])) → c.wp P Q { a with defers := { target := .collected w.heap.size, args := #[] } :: a.defers } W) :
    (Code.rangeFunc g #[p] assign body).wp P Q a w := by
  refine (wpIn_wide (n := 1)).1 ?_
  refine wpIn_rangeFunc ?_
  intro fn hfn
  have hro : Fence.wide.round = none := rfl
  rw [hro]
  obtain ⟨rec, hrec⟩ : ∃ rec : LoopState → Option Code → Loop, rec = fun st pe => { state := st, pending := pe, fn, tmps := a.tmps, params := #[p], assign, body, defers := w.heap.size } := ⟨_, rfl⟩
  obtain ⟨W1, hW1⟩ : ∃ W1, (w.alloc (.deferred (some []))).alloc (.loop (rec .ready none)) = W1 := ⟨_, rfl⟩
  have hL1 : W1.heap[w.heap.size + 1]? = some (.loop (rec .ready none)) := by rw [← hW1]; exact heap_alloc_at _ _ (by simp)
  have hK1 : W1.heap[w.heap.size]? = some (.deferred (some [])) := by rw [← hW1]; exact heap_alloc_keep (heap_alloc_new w _)
  have hE1 : Ext w W1 := by rw [← hW1]; go_grown
  have hS1 : W1.heap.size = w.heap.size + 2 := by rw [← hW1]; simp
  refine ⟨w.heap.size + 1, [{ target := .collected w.heap.size, args := #[] }], W1, { target := .fn (.func gf) lb, args := #[.func (.yield (w.heap.size + 1)) #[] #[]] }, W1, gf,
    #[.func (.yield (w.heap.size + 1)) #[] #[]] ++ lb, W1, ?_, ?_, ?_, ?_, fun _ => Nat.le_refl _, ?_⟩
  · rw [← hW1, hrec]; exact run_enterLoop_outer _ _ _ _ _
  · simp only [resolve, hg]
    simp [go_sem]
  · intro f' hf'; exact trivial
  · simp [invoke, go_sem, eg]
  · refine callsIn_wide.2 ?_
    refine (hseq (w.heap.size + 1) (fun b => ow0 b ∨ b = w.heap.size + 1)
      (fun ow pre W => ∃ ow1, (∀ b, ow b ↔ ow1 b ∨ b = w.heap.size + 1) ∧ I ow1 pre W ∧ W.heap[w.heap.size + 1]? = some (.loop (rec .ready none)) ∧ W.heap[w.heap.size]? = some (.deferred (some [])))
      (fun pre W => ∃ c, Ix c pre W ∧ W.heap[w.heap.size + 1]? = some (.loop (rec .done (some c))) ∧ W.heap[w.heap.size]? = some (.deferred (some [])))
      W1 (ext_trans hb0 hE1) ?_ ?_ ?_ ⟨ow0, fun b => Iff.rfl, h0 W1 hE1 hS1, hL1, hK1⟩ ?_).mono ?_
    · rintro ow pre W b ⟨ow1, hiff, hi, hl, hk⟩ hob
      rcases (hiff b).1 hob with h | rfl
      · exact (hIb _ _ _ _ hi h).1
      · exact (Array.getElem?_eq_some_iff.1 hl).1
    · rintro ow pre A B ⟨ow1, hiff, hi, hl, hk⟩ hfr
      rw [hS1] at hfr
      have he : ow = fun b => ow1 b ∨ b = w.heap.size + 1 := funext fun b => propext (hiff b)
      have h2 := (hFr _ _ _ _ hfr).2
      refine ⟨ow1, hiff, hIst _ _ _ _ hi (he ▸ hfr), ?_, ?_⟩
      · rw [h2 _ (by omega) (Array.getElem?_eq_some_iff.1 hl).1]; exact hl
      · rw [h2 _ (by omega) (Array.getElem?_eq_some_iff.1 hk).1]; exact hk
    · -- ONE ROUND
      rintro ow pre x W v ⟨ow1, hiff, hi, hl, hk⟩ hpre hrep
      have hlt : w.heap.size + 1 < W.heap.size := (Array.getElem?_eq_some_iff.1 hl).1
      have hy := run_yield (P := P) (args := #[v]) hl (by rw [hrec]; rfl)
      rw [hrec] at hy
      refine ⟨fn, _, assign, body, hy, roundIn_of_wpIn hfn ?_⟩
      have hta : (Array.zip #[p] #[v]).foldl (fun tmps (x : Tmp × Value) => tmps.setIfInBounds x.1 x.2) a.tmps = a.tmps.setIfInBounds p v := by simp
      have hasg := hround ow1 pre x v W hi hpre hrep ⟨_, hl⟩
      refine wpIn_mono (Q := Exit.then (fun a₁ W₁ => Ext W W₁ ∧ ∀ W₂, (∃ o, W₂ = W₁.putObj (w.heap.size + 1) o) → body.wpIn (Fence.wide.inRound (w.heap.size + 1)) 0 P (roundOk I Ix ow1 (pre ++ [x]) W₂) a₁ W₂) (fun _ _ _ => False)) ?_ ?_
      · simpa using hasg
      · rintro e a₁ W₁ he
        cases e with
        | normal =>
          obtain ⟨hext, hbd⟩ := he
          have hl1 := ext_blk_keep hext hl
          have hk1 := ext_blk_keep hext hk
          refine ⟨_, run_beginRound hl1 (by rw [hrec]), ?_⟩
          obtain ⟨W₂, hW₂⟩ : ∃ W₂, W₂ = W₁.putObj (w.heap.size + 1) (.loop { rec .ready none with state := .busy }) := ⟨_, rfl⟩
          have hl2 : W₂.heap[w.heap.size + 1]? = some (.loop { rec .ready none with state := .busy }) := by rw [hW₂]; exact World.putObj_heap_same (Array.getElem?_eq_some_iff.1 hl1).1
          have hk2 : W₂.heap[w.heap.size]? = some (.deferred (some [])) := by rw [hW₂]; exact (World.putObj_heap_other (by omega)).trans hk1
          have hkept2 : Kept ow W W₂ := by rw [hW₂]; exact (Kept.of_ext hext).putObj _ ((hiff _).2 (.inr rfl))
          have hnl : ¬ ow1 (w.heap.size + 1) := fun h => (hIb _ _ _ _ hi h).2.1 rfl
          have hnk : ¬ ow1 w.heap.size := fun h => (hIb _ _ _ _ hi h).2.2 rfl
          rw [← hW₂]
          refine wpIn_mono (hbd W₂ ⟨_, hW₂⟩) ?_
          have fin : ∀ (jump : Option Code) (W3 : World), Kept ow1 W₂ W3 →
              (Instr.endRound (w.heap.size + 1) jump).run P W3 = .ok (.bool jump.isNone) (W3.putObj (w.heap.size + 1) (.loop (rec (if jump.isNone then .ready else .done) jump))) ∧
              (W3.putObj (w.heap.size + 1) (.loop (rec (if jump.isNone then .ready else .done) jump))).heap[w.heap.size + 1]? = some (.loop (rec (if jump.isNone then .ready else .done) jump)) ∧
              (W3.putObj (w.heap.size + 1) (.loop (rec (if jump.isNone then .ready else .done) jump))).heap[w.heap.size]? = some (.deferred (some [])) := fun jump W3 hk3 => by
            have hl3 := hk3.keep hl2 hnl
            have hr := run_endRound (P := P) jump hl3
            rw [hrec] at hr ⊢
            exact ⟨hr, World.putObj_heap_same (Array.getElem?_eq_some_iff.1 hl3).1, (World.putObj_heap_other (by omega)).trans (hk3.keep hk2 hnk)⟩
          rintro e a3 W3 hp
          cases e with
          | normal =>
            obtain ⟨hk3, ow', hi3, hsub⟩ := hp
            obtain ⟨hr, hl4, hk4⟩ := fin none W3 hk3
            refine ⟨_, _, hr, (hkept2.trans (hk3.mono fun b h => (hiff b).2 (.inl h))).putObj _ ((hiff _).2 (.inr rfl)), .inl ⟨rfl, (fun b => ow' b ∨ b = w.heap.size + 1), ⟨ow', fun b => Iff.rfl, hIl _ _ _ _ hi3, hl4, hk4⟩, ?_⟩⟩
            rintro b (h | h)
            · rcases hsub b h with h | h
              · exact .inl ((hiff b).2 (.inl h))
              · exact .inr (Nat.le_trans hkept2.size h)
            · exact .inl ((hiff b).2 (.inr h))
          | ret =>
            obtain ⟨hk3, hi3⟩ := hp
            obtain ⟨hr, hl4, hk4⟩ := fin (some .ret) W3 hk3
            exact ⟨_, _, hr, (hkept2.trans (hk3.mono fun b h => (hiff b).2 (.inl h))).putObj _ ((hiff _).2 (.inr rfl)), .inr ⟨rfl, .ret, hIxl _ _ _ _ hi3, hl4, hk4⟩⟩
          | exit id =>
            obtain ⟨hk3, hi3⟩ := hp
            obtain ⟨hr, hl4, hk4⟩ := fin (some (.exit id)) W3 hk3
            exact ⟨_, _, hr, (hkept2.trans (hk3.mono fun b h => (hiff b).2 (.inl h))).putObj _ ((hiff _).2 (.inr rfl)), .inr ⟨rfl, .exit id, hIxl _ _ _ _ hi3, hl4, hk4⟩⟩
          | goto t =>
            obtain ⟨hk3, hi3⟩ := hp
            obtain ⟨hr, hl4, hk4⟩ := fin (some (.goto t)) W3 hk3
            exact ⟨_, _, hr, (hkept2.trans (hk3.mono fun b h => (hiff b).2 (.inl h))).putObj _ ((hiff _).2 (.inr rfl)), .inr ⟨rfl, .goto t, hIxl _ _ _ _ hi3, hl4, hk4⟩⟩
          | panic ch => exact hp.elim
          | outgrown => exact hp.elim
        | ret => exact he.elim
        | exit id => exact he.elim
        | goto t => exact he.elim
        | panic ch => exact he.elim
        | outgrown => exact he.elim
    · intro b hb
      obtain ⟨h1, h2⟩ := hcb b hb
      exact ⟨by omega, fun h => h.elim h2 (fun h => by omega)⟩
    · -- BEHIND THE ITERATOR
      rintro e W2 ⟨⟨v, rfl⟩, (⟨ow', ow1, _, hi, hl, hk⟩ | ⟨pre, hpre, c, hi, hl, hk⟩)⟩
      · exact ⟨none, _, by have := run_endLoop (P := P) hl (by rw [hrec]; simp); rw [hrec] at this; exact this, hdone _ _ (hIl _ _ _ _ hi) ((World.putObj_heap_other (by omega)).trans hk)⟩
      · exact ⟨some c, _, by have := run_endLoop (P := P) hl (by rw [hrec]; simp); rw [hrec] at this; exact this, wpIn_wide.2 (hstop c pre _ hpre (hIxl _ _ _ _ hi) ((World.putObj_heap_other (by omega)).trans hk))⟩
end Go.Proofs.YtlcakmbejjlmeaaGreat
/- The contracts of slices.Clone and of errand's iterator 'walks'. -/
set_option linter.unusedVariables false
set_option linter.unusedSimpArgs false
namespace Go.Proofs.YtlcakmbejjlmeaaGreat
open Go.RowKit

section
variable {P : Program} {ops : Array Oper} {rest : List Oper} {o : Oper} {a : Act} {Q : Exit → Act → World → Prop}
theorem app_ints {w : World} (hgd : o.guard = none) (s x : Operand) (t e : TypeId)
    (ho : o.op = .call { callee := .builtin .append, args := #[s, x], argTypes := #[t, t] }) (ht : P.underlying t = some (.slice e))
    (hinfo : (P.info? e).map (fun i => (i.zero, i.size, i.bytes)) = some (some (.int .i64 0), 1, 8))
    (base : Nat) (v : Value) (n : Nat) (xs : List Int) (hs : a.eval s = v) (hown : w.ownsRow base e 1 v n (xs.map (Value.int .i64))) (xv : Value) (ys : List Int) (m : Nat) (hm : ys.length = m) (hx : a.eval x = xv) (hys : IsInts w xv ys) (hbase : base ≤ w.heap.size) (hl : n + m ≤ 1000000)
    (h : ∀ A cap w', w'.ownsRow base e 1 (.slice A (n + m) cap) (n + m) ((xs ++ ys).map (Value.int .i64)) → Below base w w' → w.grownBy w' v.ownBlock → wpList P ops Q rest (a.put o.dst (.slice A (n + m) cap)) w') :
    wpList P ops Q (o :: rest) a w := by
  refine wpList_plain hgd fun K hK => ?_
  have := step_app_ints (P := P) (ops := ops) (o := o) (a := a) (K := K) (Q := Q) (E := False) hgd s x t e ho ht hinfo base v n xs hs hown xv ys m hm hx hys hbase hl (fun A cap w' h1 h2 h3 => hK _ _ (h A cap w' h1 h2 h3))
  rwa [if_pos (by simp [Region.wanted, hgd])] at this
end

set_option maxHeartbeats 800000 in
theorem own_empty (w : World) (e : TypeId) : (w.alloc (.cells #[] e)).ownsRow w.heap.size e 1 (.slice (some ⟨w.heap.size, 0, none⟩) 0 0) 0 (([] : List Int).map (Value.int .i64)) := by
  have := World.ownsRow_lit (base := w.heap.size) (e := e) (size := 1) w #[] 0 (Nat.le_refl _) (by decide) (by simp)
  simpa using this
set_option maxRecDepth 100000 in
theorem clone_c (v : Value) (xs : List Int) (w : World) (hv : IsInts w v xs) (hl : xs.length ≤ 1000) :
    Calls Tryz.prog 118 #[v] w fun e w' => ∃ v', e = .returned v' ∧ w'.ownsRow w.heap.size 3 1 v' xs.length (xs.map (Value.int .i64)) ∧ Ext w w' := by
  have KV := hid hv
  obtain ⟨V, vc, rfl⟩ := hv.val
  clear hv
  rcases V with _ | ad
  · have h0 : xs = [] := by
      rcases Nat.eq_zero_or_pos xs.length with h | h
      · exact List.eq_nil_of_length_eq_zero h
      · obtain ⟨b, o, h', _⟩ := KV.out.at h; cases h'
    subst h0
    have hcmp : ∀ W : World, (binOp .eql 29 (.slice none 0 vc) (.slice none 0 0)).run Tryz.prog W = .ok (.bool true) W := fun W => Lib.run_eql_slice_nil (P := Tryz.prog) W 29 3 none 0 vc 0 0 Tryz.underlying29
    go_enter Tryz.func118, Tryz.ntmps118
    go_wp2
    go_ret
    exact ⟨_, rfl, own_nil _ _ _ _, ext_refl _⟩
  · have hcmp : ∀ W : World, (binOp .eql 29 (.slice (some ad) xs.length vc) (.slice none 0 0)).run Tryz.prog W = .ok (.bool false) W := fun W => Lib.run_eql_slice_nil (P := Tryz.prog) W 29 3 (some ad) xs.length vc 0 0 Tryz.underlying29
    go_enter Tryz.func118, Tryz.ntmps118
    go_wp2_with (at_builtin; (refine app_ints rfl _ _ 29 3 rfl Tryz.underlying29 info_int w.heap.size _ 0 [] rfl (own_empty w 3) _ xs xs.length rfl rfl (KV.out.ext (by go_grown)) (by simp) (by omega) ?_); intro A cap w1 hown hB hg)
    go_ret
    exact ⟨_, rfl, by simpa using hown, (by go_grown : Ext w (w.alloc _)).trans hB⟩
end Go.Proofs.YtlcakmbejjlmeaaGreat
/- The contract of errand's iterator 'walks': it yields all walks of at most so many calls, in lexicographic order. -/
set_option linter.unusedVariables false
set_option linter.unusedSimpArgs false
namespace Go.Proofs.YtlcakmbejjlmeaaGreat
open Go.RowKit

/-- Does the walk end at this woman? -/
def endsAt (walk : List Int) (w : Nat) : Bool := decide (0 < walk.length) && decide (at0 walk (walk.length - 1) = (w : Int))
/-- All walks that begin so, with at most so many calls more, in lexicographic order. -/
def walksFrom (n : Nat) : Nat → List Int → List (List Int)
  | 0, walk => [walk]
  | f + 1, walk => walk :: (List.range n).flatMap fun w => if endsAt walk w then [] else walksFrom n f (walk ++ [(w : Int)])
/-- The same, of the first k women that come next. -/
def walksK (n f : Nat) (walk : List Int) (k : Nat) : List (List Int) := walk :: (List.range k).flatMap fun w => if endsAt walk w then [] else walksFrom n f (walk ++ [(w : Int)])
theorem walksK_succ (n f : Nat) (walk : List Int) (k : Nat) : walksK n f walk (k + 1) = walksK n f walk k ++ if endsAt walk k then [] else walksFrom n f (walk ++ [(k : Int)]) := by
  simp [walksK, List.range_succ]
theorem walksFrom_succ (n f : Nat) (walk : List Int) : walksFrom n (f + 1) walk = walksK n f walk n := rfl
theorem walksK_prefix (n f : Nat) (walk : List Int) {k k' : Nat} (h : k ≤ k') : walksK n f walk k <+: walksK n f walk k' := by
  induction k' with
  | zero => obtain rfl : k = 0 := by omega
            exact List.prefix_refl _
  | succ k' ih =>
    by_cases e : k = k' + 1
    · subst e; exact List.prefix_refl _
    · rw [walksK_succ]; exact (ih (by omega)).trans (List.prefix_append _ _)

set_option maxHeartbeats 800000 in
theorem walks_c (ec : Array Value) (many : Int) (w : World) :
    Calls Tryz.prog 91 #[.agg ec, .int .i64 many] w fun e w' => e = .returned (.func (.func 116) #[] #[.pointer (some ⟨w.heap.size, 0, none⟩), .pointer (some ⟨w.heap.size + 1, 0, none⟩)]) ∧ w' = (w.alloc (.cells ec 41)).alloc (.cells #[.int .i64 many] 3) := by
  go_enter Tryz.func91, Tryz.ntmps91
  go_wp2
  go_ret
  exact ⟨rfl, rfl⟩

/-- A slice that the iterator handed on, none of whose cells lie in blocks of the body's. -/
def Clear (ow : Nat → Prop) (v : Value) : Prop := ∀ b, v.ownBlock = some b → ¬ ow b
/-- What the iterator's blocks hold. -/
structure WalksAt (W : World) (ow : Nat → Prop) (l D b1 b2 : Nat) (ec : Array Value) (many : Nat) : Prop where
  h0 : W.heap[D]? = some (.cells #[.func (.yield l) #[] #[]] 105 (0, 0))
  h1 : W.heap[D + 1]? = some (.cells #[.func (.func 117) #[] #[.pointer (some ⟨D, 0, none⟩), .pointer (some ⟨b1, 0, none⟩), .pointer (some ⟨b2, 0, none⟩), .pointer (some ⟨D + 1, 0, none⟩)]] 105 (0, 0))
  h2 : W.heap[b1]? = some (.cells ec 41 (0, 0))
  h3 : W.heap[b2]? = some (.cells #[.int .i64 (many : Int)] 3 (0, 0))
  o0 : ¬ ow D
  o1 : ¬ ow (D + 1)
  o2 : ¬ ow b1
  o3 : ¬ ow b2
theorem WalksAt.kept {W W' : World} {ow ow' : Nat → Prop} {l D b1 b2 : Nat} {ec : Array Value} {many : Nat} (h : WalksAt W ow l D b1 b2 ec many) (hk : Kept ow W W') (hs : ∀ b, ow' b → ow b ∨ W.heap.size ≤ b) : WalksAt W' ow' l D b1 b2 ec many := by
  have hlt : ∀ {b : Nat} {o : Obj}, W.heap[b]? = some o → b < W.heap.size := fun h => (Array.getElem?_eq_some_iff.1 h).1
  exact ⟨hk.keep h.h0 h.o0, hk.keep h.h1 h.o1, hk.keep h.h2 h.o2, hk.keep h.h3 h.o3, fun h' => (hs _ h').elim h.o0 (fun h' => by have := hlt h.h0; omega),
    fun h' => (hs _ h').elim h.o1 (fun h' => by have := hlt h.h1; omega), fun h' => (hs _ h').elim h.o2 (fun h' => by have := hlt h.h2; omega), fun h' => (hs _ h').elim h.o3 (fun h' => by have := hlt h.h3; omega)⟩
theorem IsInts.kept {W W' : World} {v : Value} {xs : List Int} {ow : Nat → Prop} (h : IsInts W v xs) (hc : Clear ow v) (hk : Kept ow W W') : IsInts W' v xs := by
  obtain ⟨h0, A, c, rfl, h1⟩ := h
  refine ⟨h0, A, c, rfl, fun hn => ?_⟩
  obtain ⟨b, o, rfl, hcell⟩ := h1 hn
  refine ⟨b, o, rfl, fun i hi => ?_⟩
  have hb := hk.blk b (cell_lt (hcell i hi)) (hc b rfl)
  rw [World.cell?_of_block (w := W) hb]
  exact hcell i hi
theorem Clear.more {W : World} {v : Value} {ow ow' : Nat → Prop} (h : Clear ow v) (hlt : ∀ b, v.ownBlock = some b → b < W.heap.size) (hs : ∀ b, ow' b → ow b ∨ W.heap.size ≤ b) : Clear ow' v := fun b hb h' => (hs b h').elim (h b hb) (fun h' => by have := hlt b hb; omega)

/-- How a call of the iterator's closure ends: true: all has come; false: yield has said no. -/
def ExtPost {α : Type} (J : (Nat → Prop) → List α → World → Prop) (Jx : List α → World → Prop) (xs : List α) (ow : Nat → Prop) (pre : List α) (W : World) (e : Ending) (W' : World) : Prop :=
  ∃ bb : Bool, e = .returned (.bool bb) ∧ Kept ow W W' ∧ (bb = true → ∃ ow', J ow' pre W' ∧ ∀ b, ow' b → ow b ∨ W.heap.size ≤ b) ∧ (bb = false → ∃ p, p <+: xs ∧ Jx p W')
theorem Kept.drew {ow : Nat → Prop} {A B : World} (h : Kept ow A B) : Kept ow A B.drew := ⟨h.os, h.tape, h.output, h.size, h.blk⟩
theorem Kept.below {ow : Nat → Prop} {A B C : World} (h : Kept ow A B) (k : Below A.heap.size B C) : Kept ow A C := ⟨k.os.trans h.os, k.tape.trans h.tape, k.output.trans h.output, Nat.le_trans h.size k.size, fun b hb ho => (k.block b hb).trans (h.blk b hb ho)⟩
theorem ints_one {W : World} {B : Nat} {x : Int} {t : TypeId} {fr : Nat × Nat} (h : W.heap[B]? = some (.cells #[.int .i64 x] t fr)) : IsInts W (.slice (some ⟨B, 0, none⟩) 1 1) [x] :=
  ⟨by simp, _, 1, rfl, fun _ => ⟨B, 0, rfl, fun i hi => by
    obtain rfl : i = 0 := by simpa using hi
    simp [World.cell?, h, at0]⟩⟩
theorem Kept.trans_sub {ow ow' : Nat → Prop} {A B C : World} (h : Kept ow A B) (hs : ∀ b, ow' b → ow b ∨ A.heap.size ≤ b) (k : Kept ow' B C) : Kept ow A C :=
  ⟨k.os.trans h.os, k.tape.trans h.tape, k.output.trans h.output, Nat.le_trans h.size k.size, fun b hb ho => (k.blk b (Nat.lt_of_lt_of_le hb h.size) (fun h' => (hs b h').elim ho (fun h' => by omega))).trans (h.blk b hb ho)⟩
theorem own_mono {w : World} {base base' : Nat} {e : TypeId} {size n : Nat} {v : Value} {xs : List Value} (h : w.ownsRow base e size v n xs) (hb : base' ≤ base) : w.ownsRow base' e size v n xs := by
  obtain ⟨h1, h2⟩ := h
  refine ⟨h1, ?_⟩
  rcases h2 with h2 | ⟨g, cap, cur, hv, hg, r⟩
  · exact .inl h2
  · exact .inr ⟨g, cap, cur, hv, Nat.le_trans hb hg, r⟩
theorem own_slice {w : World} {base : Nat} {e : TypeId} {size n : Nat} {v : Value} {xs : List Value} (h : w.ownsRow base e size v n xs) : ∃ A cap, v = .slice A n cap := by
  rcases h.2 with ⟨rfl, h0⟩ | ⟨g, cap, cur, rfl, _⟩
  · exact ⟨none, 0, by rw [h0]⟩
  · exact ⟨_, cap, rfl⟩
set_option maxHeartbeats 6400000 in
set_option maxRecDepth 100000 in
theorem extend_c (l D b1 b2 : Nat) (A : Option Addr) (n c : Nat) (pv hv sv : Value) (wrong start calls : Int) (many : Nat) (hmany : many ≤ 1000) (hn : n ≤ 1000) (B : Nat) (hBD : B ≤ D)
    (J : (Nat → Prop) → List (List Int) → World → Prop) (Jx : List (List Int) → World → Prop) (xs : List (List Int))
    (hJb : ∀ ow pre W1 b, J ow pre W1 → ow b → b < W1.heap.size)
    (hJs : ∀ ow pre W1 W2, J ow pre W1 → Ext W1 W2 → J ow pre W2)
    (hY : ∀ ow pre x W1 v, J ow pre W1 → (pre ++ [x]) <+: xs → (IsInts W1 v x ∧ ∀ b, v.ownBlock = some b → B ≤ b) → YieldAt Fence.wide 0 Tryz.prog l #[v] W1 fun e W2 =>
      Kept ow W1 W2 ∧ ((e = .returned (.bool true) ∧ ∃ ow', J ow' (pre ++ [x]) W2 ∧ ∀ b, ow' b → ow b ∨ W1.heap.size ≤ b) ∨ (e = .returned (.bool false) ∧ Jx (pre ++ [x]) W2))) :
    ∀ (f : Nat) (walk : List Int) (v : Value) (W : World) (ow : Nat → Prop) (pre : List (List Int)), walk.length + f = many → J ow pre W → (pre ++ walksFrom n f walk) <+: xs → IsInts W v walk → Clear ow v → (∀ b, v.ownBlock = some b → b < W.heap.size) → (∀ b, v.ownBlock = some b → B ≤ b) →
      WalksAt W ow l D b1 b2 #[.slice A n c, pv, .int .i64 wrong, hv, sv, .int .i64 start, .int .i64 calls] many →
      Calls Tryz.prog 117 #[v, .pointer (some ⟨D, 0, none⟩), .pointer (some ⟨b1, 0, none⟩), .pointer (some ⟨b2, 0, none⟩), .pointer (some ⟨D + 1, 0, none⟩)] W (ExtPost J Jx xs ow (pre ++ walksFrom n f walk) W) := by
  intro f
  induction f with
  | zero =>
    intro walk v W ow pre hlen hJ hpre hv hcl hvb hvB hat
    have hat' := hid hat
    have KV := hid hv
    obtain ⟨V, vc, rfl⟩ := hv.val
    obtain ⟨fn, tmps, assign, body, hy, hR⟩ := hY ow pre walk W _ hJ hpre ⟨hv, hvB⟩
    have c0 := blk_cell hat.h0 0
    have HR := hid hR
    have HP := hid hpre
    have HJ := hid hJ
    have HCL := hid hcl
    have HVB := hid hvb
    have HB := hid hJb
    have HS := hid hJs
    have HY := hid hY
    obtain rfl : many = walk.length := by omega
    simp only [List.getElem?_toArray, List.getElem?_cons_zero] at c0
    clear hvB hv hJ hpre hcl hvb hat hR hJb hJs hY hlen
    refine (callsIn_wide (n := 0)).1 (callsIn_of_wp Tryz.func117 rfl trivial ?_ rfl)
    simp only [Tryz.ntmps117, List.size_toArray, List.length_cons, List.length_nil, Nat.reduceAdd, Nat.reduceSub, Array.replicate_succ, Array.replicate_zero, List.push_toArray, List.append_toArray, List.nil_append, List.cons_append]
    gi_wp2_with fail
    refine ⟨rfl, HR.out.mono ?_⟩
    rintro e W2 ⟨hk', (⟨rfl, ow', hJ', hs'⟩ | ⟨rfl, hJx⟩)⟩
    · have hat2 := hat'.out.kept hk' hs'
      have c2 := blk_cell hat2.h2
      have c3 := blk_cell hat2.h3 0
      simp only [List.getElem?_toArray, List.getElem?_cons_zero] at c3
      have KJ := hid hJ'
      have KK := hid hk'
      have KS := hid hs'
      have KA := hid hat2
      clear hJ' hk' hs' hat2 c0
      gi_wp2_with fail
      refine ⟨trivial, rfl, (callsIn_wide.2 (women_c n pv hv sv wrong start calls A c _)).mono ?_⟩
      rintro e W3 ⟨rfl, hE3⟩
      have c33 := cell_ext hE3 c3
      clear c2 c3
      gi_wp2_with fail
      gi_loop [15] (fun i => ∃ k : Nat, k ≤ n ∧ i = .int .i64 k) (fun i => n - (intOf i).toNat)
      case atStart => exact ⟨0, Nat.zero_le _, rfl⟩
      case round =>
        obtain ⟨k, hk, rfl⟩ := hrel
        by_cases hlt : k < n
        · gi_wp2
          go_round
          case rel => exact ⟨k + 1, hlt, by go_num⟩
          case measure => simp [intOf]; omega
        · gi_wp2
          refine bodyPost_ret (results_tmp rfl _ _ _) rfl ?_
          exact ⟨true, rfl, KK.out.ext hE3, fun _ => ⟨ow', HS.out _ _ _ _ KJ.out hE3, KS.out⟩, (fun h => by cases h)⟩
    · have KK := hid hk'
      have KX := hid hJx
      clear hk' hJx
      gi_wp2
      refine bodyPost_ret (results_tmp rfl _ _ _) rfl ?_
      exact ⟨false, rfl, KK.out, (fun h => by cases h), fun _ => ⟨_, HP.out, KX.out⟩⟩
  | succ f ih =>
    intro walk v W ow pre hlen hJ hpre hv hcl hvb hvB hat
    have IH := hid ih
    have hat' := hid hat
    have KV := hid hv
    obtain ⟨V, vc, rfl⟩ := hv.val
    have hpre0 : (pre ++ [walk]) <+: xs := by
      refine List.IsPrefix.trans ?_ hpre
      rw [walksFrom_succ]
      exact (List.prefix_append_right_inj pre).2 (by simp [walksK])
    obtain ⟨fn, tmps, assign, body, hy, hR⟩ := hY ow pre walk W _ hJ hpre0 ⟨hv, hvB⟩
    have c0 := blk_cell hat.h0 0
    have HR := hid hR
    have HP := hid hpre
    have HP0 := hid hpre0
    have HJ := hid hJ
    have HCL := hid hcl
    have HVB := hid hvb
    have HB := hid hJb
    have HS := hid hJs
    have HY := hid hY
    have hneq : ((walk.length : Int) == (many : Int)) = false := by rw [beq_eq_false_iff_ne]; omega
    have hlen2 : walk.length + 1 + f = many := by omega
    have HLEN := hid hlen2
    have hl1000 : walk.length + 1 ≤ 1000 := by omega
    simp only [List.getElem?_toArray, List.getElem?_cons_zero] at c0
    clear hvB hv hJ hpre hpre0 hcl hvb hat hR hJb hJs hY hlen ih hlen2
    refine (callsIn_wide (n := 0)).1 (callsIn_of_wp Tryz.func117 rfl trivial ?_ rfl)
    simp only [Tryz.ntmps117, List.size_toArray, List.length_cons, List.length_nil, Nat.reduceAdd, Nat.reduceSub, Array.replicate_succ, Array.replicate_zero, List.push_toArray, List.append_toArray, List.nil_append, List.cons_append]
    gi_wp2_with fail
    refine ⟨rfl, HR.out.mono ?_⟩
    rintro e W2 ⟨hk', (⟨rfl, ow', hJ', hs'⟩ | ⟨rfl, hJx⟩)⟩
    · have hat2 := hat'.out.kept hk' hs'
      have c2 := blk_cell hat2.h2
      have KJ := hid hJ'
      have KK := hid hk'
      have KS := hid hs'
      clear hJ' hk' hs' hat2 c0
      gi_wp2_with fail
      refine ⟨trivial, rfl, (callsIn_wide.2 (women_c n pv hv sv wrong start calls A c _)).mono ?_⟩
      rintro e W3 ⟨rfl, hE3⟩
      clear c2
      gi_wp2_with fail
      gi_loopw [15] (fun i wr => ∃ k : Nat, k ≤ n ∧ i = .int .i64 k ∧ ∃ ow', J ow' (pre ++ walksK n f walk k) wr ∧ Kept ow W wr ∧ ∀ b, ow' b → ow b ∨ W.heap.size ≤ b) (fun i _ => n - (intOf i).toNat)
      case atStart => exact ⟨0, Nat.zero_le _, rfl, ow', by simpa [walksK] using HS.out _ _ _ _ KJ.out hE3, KK.out.ext hE3, KS.out⟩
      case round =>
        obtain ⟨k, hk, rfl, owk, hJk, hKk, hsk⟩ := hrel
        have hatk := hat'.out.kept hKk hsk
        have d1 := blk_cell hatk.h1 0
        have d3 := blk_cell hatk.h3 0
        simp only [List.getElem?_toArray, List.getElem?_cons_zero] at d1 d3
        have hvk := KV.out.kept HCL.out hKk
        have KVK := hid hvk
        have KJK := hid hJk
        have KKK := hid hKk
        have KSK := hid hsk
        have KAK := hid hatk
        clear hatk hvk hJk hKk hsk
        by_cases hlt : k < n
        · have hwk := walksK_succ n f walk k
          have hpk : (pre ++ walksK n f walk (k + 1)) <+: xs := ((List.prefix_append_right_inj pre).2 (walksK_prefix n f walk hlt)).trans (by have := HP.out; rwa [walksFrom_succ] at this)
          have HWK := hid hwk
          have HPK := hid hpk
          clear hwk hpk
          by_cases h0 : 0 < walk.length
          · obtain ⟨b, o, hV, hcell⟩ := KVK.out.at h0
            subst hV
            have hcl := hcell (walk.length - 1) (by omega)
            obtain ⟨y, hyy⟩ : ∃ y, at0 walk (walk.length - 1) = y := ⟨_, rfl⟩
            rw [hyy] at hcl
            have HYY := hid hyy
            have hk1 : (0 : Int) ≤ (walk.length : Int) - 1 := by omega
            have hkn : ((walk.length : Int) - 1).toNat = walk.length - 1 := by omega
            clear hcell hyy
            by_cases he : y = (k : Int)
            · subst he
              have hend : Hid (endsAt walk k = true) := hid (by rw [endsAt, HYY.out]; simp [h0])
              gi_wp2
              go_roundw
              case rel => exact ⟨k + 1, hlt, by go_num, owk, by rw [HWK.out, hend.out]; simpa using KJK.out, KKK.out, KSK.out⟩
              case measure => simp [intOf]; omega
            · have hne2 : (y == (k : Int)) = false := beq_eq_false_iff_ne.2 he
              have hend : Hid (endsAt walk k = false) := hid (by rw [endsAt, HYY.out]; simp [he])
              gi_wp2
              refine (wpIn_wide (n := 0)).2 ?_
              have HCK := hid (HCL.out.more HVB.out KSK.out)
              have hD1 := (Array.getElem?_eq_some_iff.1 KAK.out.h1).1
              have f1 : ∀ W', Kept owk wr W' → W'.cell? ⟨D + 1, 0, none⟩ = some (.func (.func 117) #[] #[.pointer (some ⟨D, 0, none⟩), .pointer (some ⟨b1, 0, none⟩), .pointer (some ⟨b2, 0, none⟩), .pointer (some ⟨D + 1, 0, none⟩)]) := fun W' h => (World.cell?_of_block (w := wr) (h.blk (D + 1) hD1 KAK.out.o1)).trans d1
              have e0 : Kept owk wr wr := Kept.refl _ _
              go_region_held3 (fun W' => Kept owk wr W')
                (first | assumption | exact Kept.drew (by assumption) | exact Kept.alloc (by assumption) _ | exact Kept.ext (by assumption) (by assumption) | exact Kept.below (by assumption) (by assumption) | exact Kept.trans (by assumption) (by assumption))
                (first
                  | (go_at_call 118; refine (clone_c _ walk _ (KVK.out.kept HCK.out (by assumption)) (by omega)).mono ?_; rintro e w1 ⟨v1, rfl, hown1, hB1⟩; obtain ⟨A1, cap1, rfl⟩ := own_slice hown1)
                  | (refine step_app_ints (by rfl) _ _ 29 3 (by rfl) Tryz.underlying29 info_int wr.heap.size _ walk.length walk (by rfl) ?c1 _ [(k : Int)] 1 rfl (by rfl) ?c2 ?c3 ?c4 ?_
                     case c1 => first | exact own_mono hown1 (by simp) | exact (own_mono hown1 (by simp)).alloc _ | exact own_drew ((own_mono hown1 (by simp)).alloc _)
                     case c2 => first | exact ints_one (heap_alloc_new w1 _) | exact ints_one (ext_blk_keep hB1 (heap_drew_keep (heap_alloc_new wr _)))
                     case c3 =>
                       have h1 := hB1.size
                       simp at h1 ⊢; omega
                     case c4 => omega
                     intro A3 cap3 w3 hown3 hB3 hg3
                     have e3 : Ext wr w3 := by
                       have h1 := hB1.size
                       first
                         | exact Below.trans (ext_alloc (show Ext wr w1 from hB1) _) hB3
                         | exact Below.trans (ext_alloc (show Ext wr w1 from Below.trans (ext_refl wr).drew hB1) _) hB3
                         | exact Below.trans (ext_alloc (show Ext wr w1 from Below.trans (ext_refl wr).drew hB1) _).drew hB3
                         | exact Below.trans (ext_alloc (show Ext wr w1 from hB1) _).drew hB3
                         | exact Below.trans (Below.trans (show Ext wr (wr.alloc (.cells #[.int .i64 (k : Int)] 3)).drew from ((ext_refl wr).alloc (Nat.le_refl _) _).drew) (hB1.mono (by simp))) hB3)
                  | (go_at_call 117; refine (IH.out (walk ++ [(k : Int)]) _ _ owk (pre ++ walksK n f walk k) (by rw [List.length_append]; exact HLEN.out) (HS.out _ _ _ _ KJK.out e3) (by have := HPK.out; rw [HWK.out, hend.out] at this; simpa [List.append_assoc] using this)
                       (own_ints (xs := walk ++ [(k : Int)]) hown3 (by rw [List.length_append]; simp; omega)) (fun b hb ho => by have h1 := (own_block hown3 b hb).1; have h2 := HB.out _ _ _ _ KJK.out ho; omega) (fun b hb => (own_block hown3 b hb).2) (fun b hb => by have h1 := (own_block hown3 b hb).1; omega)
                       (KAK.out.kept (Kept.of_ext e3) (fun b h => .inl h))).mono ?_; unfold ExtPost; rintro e w4 ⟨bb, rfl, hK4, ht, hf⟩))
              all_goals
                have hK5 : Kept owk wr w4 := by assumption
                have hK6 : Kept ow W w4 := KKK.out.trans_sub KSK.out hK5
                have HT := hid ht
                have HF := hid hf
                have he3 := e3.size
                have hKs := KKK.out.size
                clear ht hf f1
                cases bb
                · gi_wp2
                  refine bodyPost_ret (results_tmp rfl _ _ _) rfl ?_
                  exact ⟨false, rfl, hK6, (fun h => by cases h), fun _ => HF.out trivial⟩
                · obtain ⟨ow5, hJ5, hs5⟩ := HT.out rfl
                  gi_wp2
                  go_roundw
                  case rel => exact ⟨k + 1, hlt, by go_num, ow5, by rw [HWK.out, hend.out]; simpa [List.append_assoc] using hJ5, hK6, fun b hb => by
                    rcases hs5 b hb with h | h
                    · exact KSK.out b h
                    · exact .inr (by omega)⟩
                  case measure => simp [intOf]; omega
          · have hend : Hid (endsAt walk k = false) := hid (by rw [endsAt, decide_eq_false h0]; rfl)
            gi_wp2
            refine (wpIn_wide (n := 0)).2 ?_
            have HCK := hid (HCL.out.more HVB.out KSK.out)
            have hD1 := (Array.getElem?_eq_some_iff.1 KAK.out.h1).1
            have f1 : ∀ W', Kept owk wr W' → W'.cell? ⟨D + 1, 0, none⟩ = some (.func (.func 117) #[] #[.pointer (some ⟨D, 0, none⟩), .pointer (some ⟨b1, 0, none⟩), .pointer (some ⟨b2, 0, none⟩), .pointer (some ⟨D + 1, 0, none⟩)]) := fun W' h => (World.cell?_of_block (w := wr) (h.blk (D + 1) hD1 KAK.out.o1)).trans d1
            have e0 : Kept owk wr wr := Kept.refl _ _
            go_region_held3 (fun W' => Kept owk wr W')
              (first | assumption | exact Kept.drew (by assumption) | exact Kept.alloc (by assumption) _ | exact Kept.ext (by assumption) (by assumption) | exact Kept.below (by assumption) (by assumption) | exact Kept.trans (by assumption) (by assumption))
              (first
                | (go_at_call 118; refine (clone_c _ walk _ (KVK.out.kept HCK.out (by assumption)) (by omega)).mono ?_; rintro e w1 ⟨v1, rfl, hown1, hB1⟩; obtain ⟨A1, cap1, rfl⟩ := own_slice hown1)
                | (refine step_app_ints (by rfl) _ _ 29 3 (by rfl) Tryz.underlying29 info_int wr.heap.size _ walk.length walk (by rfl) ?c1 _ [(k : Int)] 1 rfl (by rfl) ?c2 ?c3 ?c4 ?_
                   case c1 => first | exact own_mono hown1 (by simp) | exact (own_mono hown1 (by simp)).alloc _ | exact own_drew ((own_mono hown1 (by simp)).alloc _)
                   case c2 => first | exact ints_one (heap_alloc_new w1 _) | exact ints_one (ext_blk_keep hB1 (heap_drew_keep (heap_alloc_new wr _)))
                   case c3 =>
                     have h1 := hB1.size
                     simp at h1 ⊢; omega
                   case c4 => omega
                   intro A3 cap3 w3 hown3 hB3 hg3
                   have e3 : Ext wr w3 := by
                     have h1 := hB1.size
                     first
                       | exact Below.trans (ext_alloc (show Ext wr w1 from hB1) _) hB3
                       | exact Below.trans (ext_alloc (show Ext wr w1 from Below.trans (ext_refl wr).drew hB1) _) hB3
                       | exact Below.trans (ext_alloc (show Ext wr w1 from Below.trans (ext_refl wr).drew hB1) _).drew hB3
                       | exact Below.trans (ext_alloc (show Ext wr w1 from hB1) _).drew hB3
                       | exact Below.trans (Below.trans (show Ext wr (wr.alloc (.cells #[.int .i64 (k : Int)] 3)).drew from ((ext_refl wr).alloc (Nat.le_refl _) _).drew) (hB1.mono (by simp))) hB3)
                | (go_at_call 117; refine (IH.out (walk ++ [(k : Int)]) _ _ owk (pre ++ walksK n f walk k) (by rw [List.length_append]; exact HLEN.out) (HS.out _ _ _ _ KJK.out e3) (by have := HPK.out; rw [HWK.out, hend.out] at this; simpa [List.append_assoc] using this)
                     (own_ints (xs := walk ++ [(k : Int)]) hown3 (by rw [List.length_append]; simp; omega)) (fun b hb ho => by have h1 := (own_block hown3 b hb).1; have h2 := HB.out _ _ _ _ KJK.out ho; omega) (fun b hb => (own_block hown3 b hb).2) (fun b hb => by have h1 := (own_block hown3 b hb).1; omega)
                     (KAK.out.kept (Kept.of_ext e3) (fun b h => .inl h))).mono ?_; unfold ExtPost; rintro e w4 ⟨bb, rfl, hK4, ht, hf⟩))
            all_goals
              have hK5 : Kept owk wr w4 := by assumption
              have hK6 : Kept ow W w4 := KKK.out.trans_sub KSK.out hK5
              have HT := hid ht
              have HF := hid hf
              have he3 := e3.size
              have hKs := KKK.out.size
              clear ht hf f1
              cases bb
              · gi_wp2
                refine bodyPost_ret (results_tmp rfl _ _ _) rfl ?_
                exact ⟨false, rfl, hK6, (fun h => by cases h), fun _ => HF.out trivial⟩
              · obtain ⟨ow5, hJ5, hs5⟩ := HT.out rfl
                gi_wp2
                go_roundw
                case rel => exact ⟨k + 1, hlt, by go_num, ow5, by rw [HWK.out, hend.out]; simpa [List.append_assoc] using hJ5, hK6, fun b hb => by
                  rcases hs5 b hb with h | h
                  · exact KSK.out b h
                  · exact .inr (by omega)⟩
                case measure => simp [intOf]; omega
        · obtain rfl : k = n := by omega
          gi_wp2
          refine bodyPost_ret (results_tmp rfl _ _ _) rfl ?_
          exact ⟨true, rfl, KKK.out, fun _ => ⟨owk, by rw [walksFrom_succ]; exact KJK.out, KSK.out⟩, (fun h => by cases h)⟩
    · have KK := hid hk'
      have KX := hid hJx
      clear hk' hJx
      gi_wp2
      refine bodyPost_ret (results_tmp rfl _ _ _) rfl ?_
      exact ⟨false, rfl, KK.out, (fun h => by cases h), fun _ => ⟨_, HP0.out, KX.out⟩⟩
end Go.Proofs.YtlcakmbejjlmeaaGreat
/- errand's iterator 'walks' keeps to IterOk. -/
set_option linter.unusedVariables false
set_option linter.unusedSimpArgs false
namespace Go.Proofs.YtlcakmbejjlmeaaGreat
open Go.RowKit

/-- An iterator's slice: the numbers, in blocks younger than the iterator. -/
def IsNew (B : Nat) (W : World) (v : Value) (x : List Int) : Prop := IsInts W v x ∧ ∀ b, v.ownBlock = some b → B ≤ b
theorem ints_nil (W : World) : IsInts W (.slice none 0 0) [] := ⟨by simp, none, 0, rfl, fun h => by simp at h⟩

set_option maxHeartbeats 3200000 in
set_option maxRecDepth 100000 in
theorem walks_iter (b1 b2 : Nat) (A : Option Addr) (n c : Nat) (pv hv sv : Value) (wrong start calls : Int) (many : Nat) (hmany : many ≤ 1000) (hn : n ≤ 1000) (w0 : World)
    (h2 : w0.heap[b1]? = some (.cells #[.slice A n c, pv, .int .i64 wrong, hv, sv, .int .i64 start, .int .i64 calls] 41 (0, 0)))
    (h3 : w0.heap[b2]? = some (.cells #[.int .i64 (many : Int)] 3 (0, 0))) :
    IterOk Tryz.prog 116 #[.pointer (some ⟨b1, 0, none⟩), .pointer (some ⟨b2, 0, none⟩)] (IsNew w0.heap.size) (walksFrom n many []) (fun _ _ W1 W2 => Ext W1 W2) (fun b => b = b1 ∨ b = b2) w0 := by
  intro l ow0 J Jx W hE hJb hJs hY hJ hcb
  have k2 := ext_blk_keep hE h2
  have k3 := ext_blk_keep hE h3
  have n1 := (hcb b1 (.inl rfl)).2
  have n2 := (hcb b2 (.inr rfl)).2
  have n3 : ¬ ow0 W.heap.size := fun h => by have := hJb _ _ _ _ hJ h; omega
  have n4 : ¬ ow0 (W.heap.size + 1) := fun h => by have := hJb _ _ _ _ hJ h; omega
  have HC := hid (fun (W' : World) hat hJ' => extend_c l W.heap.size b1 b2 A n c pv hv sv wrong start calls many hmany hn w0.heap.size hE.size J Jx (walksFrom n many []) hJb hJs hY many [] (.slice none 0 0) W' ow0 []
    (by simp) hJ' (List.prefix_refl _) (ints_nil _) (fun b hb => by simp [Value.ownBlock] at hb) (fun b hb => by simp [Value.ownBlock] at hb) (fun b hb => by simp [Value.ownBlock] at hb) hat)
  have HJ := hid hJ
  have HS := hid hJs
  have K2 := hid k2
  have K3 := hid k3
  have N1 := hid n1
  have N2 := hid n2
  have N3 := hid n3
  have N4 := hid n4
  clear hE hJb hJs hY hJ hcb k2 k3 n1 n2 n3 n4 h2 h3
  simp only [List.append_toArray, List.cons_append, List.nil_append]
  obtain ⟨Wb, hWb⟩ : ∃ Wb, (W.alloc (.cells #[.func (.yield l) #[] #[]] 105)).alloc (.cells #[.nilFunc] 105) = Wb := ⟨_, rfl⟩
  have hb0 : Wb.heap[W.heap.size]? = some (.cells #[.func (.yield l) #[] #[]] 105 (0, 0)) := by rw [← hWb]; exact heap_alloc_keep (heap_alloc_new W _)
  have hb1 : Wb.heap[W.heap.size + 1]? = some (.cells #[.nilFunc] 105 (0, 0)) := by rw [← hWb]; exact heap_alloc_at _ _ (by simp)
  have hbE : Ext W Wb := by rw [← hWb]; go_grown
  have c4 := blk_cell hb1 0
  have f4 : ∀ j, Wb.frozen? ⟨W.heap.size + 1, j, none⟩ = false := fun j => frozen_of_row Wb _ j _ _ hb1
  simp only [List.getElem?_toArray, List.getElem?_cons_zero] at c4
  have hs : ∀ v, Ext W (Wb.setCell ⟨W.heap.size + 1, 0, none⟩ v) := fun v => by go_grown
  have N5 := hid (show W.heap.size + 1 ≠ b1 from by have := (Array.getElem?_eq_some_iff.1 K2.out).1; omega)
  have N6 := hid (show W.heap.size + 1 ≠ b2 from by have := (Array.getElem?_eq_some_iff.1 K3.out).1; omega)
  have N7 := hid (show W.heap.size + 1 ≠ W.heap.size from by omega)
  have HBE := hid hbE
  have HB0 := hid hb0
  have HB1 := hid hb1
  have HSE := hid hs
  clear hbE hb0 hb1 hs
  go_enter Tryz.func116, Tryz.ntmps116
  go_wp2_with (first
    | (go_at_call 117; go_must (refine (HC.out (Wb.setCell ⟨W.heap.size + 1, 0, none⟩ _) ⟨heap_set_keep N7.out.symm HB0.out, heap_set_at HB1.out rfl, heap_set_keep N5.out.symm (ext_blk_keep HBE.out K2.out), heap_set_keep N6.out.symm (ext_blk_keep HBE.out K3.out), N3.out, N4.out, N1.out, N2.out⟩ (HS.out _ _ _ _ HJ.out (HSE.out _))).mono ?_)
       unfold ExtPost
       rintro e W5 ⟨bb, rfl, hK5, ht, hf⟩
       have HT := hid ht
       have HF := hid hf
       clear ht hf))
  refine ⟨rfl, .tuple #[], by simp [results, go_sem], ⟨_, rfl⟩, ?_⟩
  cases bb
  · exact .inr (HF.out rfl)
  · obtain ⟨ow', h1, _⟩ := HT.out rfl
    exact .inl ⟨ow', by simpa using h1⟩
end Go.Proofs.YtlcakmbejjlmeaaGreat
/- The contract of bundle's iterator 'lists': it yields every choice of owners, in lexicographic order. -/
set_option linter.unusedVariables false
set_option linter.unusedSimpArgs false
namespace Go.Proofs.YtlcakmbejjlmeaaGreat
open Go.RowKit

/-- All choices of owners from a piece on. -/
def listsFrom (C : Nat → List Int) : Nat → Nat → (Nat → Int) → List (Nat → Int)
  | 0, _, o => [o]
  | f + 1, p, o => (C p).flatMap fun x => listsFrom C f (p + 1) (upd o p x)
def listsK (C : Nat → List Int) (f p : Nat) (o : Nat → Int) (k : Nat) : List (Nat → Int) := ((C p).take k).flatMap fun x => listsFrom C f (p + 1) (upd o p x)
theorem listsK_succ (C : Nat → List Int) (f p : Nat) (o : Nat → Int) {k : Nat} (hk : k < (C p).length) : listsK C f p o (k + 1) = listsK C f p o k ++ listsFrom C f (p + 1) (upd o p (at0 (C p) k)) := by
  rw [listsK, List.take_succ_eq_append_getElem hk, List.flatMap_append]
  simp [listsK, at0, hk]
theorem listsK_all (C : Nat → List Int) (f p : Nat) (o : Nat → Int) : listsK C f p o (C p).length = listsFrom C (f + 1) p o := by simp [listsK, listsFrom]
theorem listsK_prefix (C : Nat → List Int) (f p : Nat) (o : Nat → Int) {k k' : Nat} (h : k ≤ k') : k' ≤ (C p).length → listsK C f p o k <+: listsK C f p o k' := by
  induction k' with
  | zero => intro _; obtain rfl : k = 0 := by omega
            exact List.prefix_refl _
  | succ k' ih =>
    intro hl
    by_cases e : k = k' + 1
    · subst e; exact List.prefix_refl _
    · rw [listsK_succ C f p o (by omega)]; exact (ih (by omega) (by omega)).trans (List.prefix_append _ _)

/-- What the iterator's own array of owners holds at a piece: the owners chosen so far. -/
def XAt (pn : Nat) (W : World) (D p : Nat) (o : Nat → Int) : Prop := ∃ o' : Nat → Int, W.heap[D + 1]? = some (.cells #[.int .i64 (o' 0), .int .i64 (o' 1), .int .i64 (o' 2), .int .i64 (o' 3), .int .i64 (o' 4), .int .i64 (o' 5), .int .i64 (o' 6)] 136 (0, 0)) ∧ (∀ i, i < p → o' i = o i) ∧ ∀ i, pn ≤ i → o' i = 0
/-- What the iterator's other blocks hold. -/
structure ListsAt (W : World) (ow : Nat → Prop) (l D b0 : Nat) (ec : Array Value) (wB : World) : Prop where
  h0 : W.heap[D]? = some (.cells #[.func (.yield l) #[] #[]] 183 (0, 0))
  h2 : W.heap[D + 2]? = some (.cells #[.func (.func 146) #[] #[.pointer (some ⟨b0, 0, none⟩), .pointer (some ⟨D, 0, none⟩), .pointer (some ⟨D + 1, 0, none⟩), .pointer (some ⟨D + 2, 0, none⟩)]] 153 (0, 0))
  hb : W.heap[b0]? = some (.cells ec 38 (0, 0))
  o0 : ¬ ow D
  o1 : ¬ ow (D + 1)
  o2 : ¬ ow (D + 2)
  ob : ¬ ow b0
  old : ∀ b, b < wB.heap.size → ¬ ow b
  ext : Ext wB W
  bD : b0 < D
  wD : wB.heap.size ≤ D
theorem Kept.extOld {ow : Nat → Prop} {wB W W' : World} (h : Kept ow W W') (e : Ext wB W) (ho : ∀ b, b < wB.heap.size → ¬ ow b) : Ext wB W' :=
  ⟨by rw [h.os]; exact e.os, by rw [h.tape]; exact e.tape, by rw [h.output]; exact e.output, Nat.le_trans e.size h.size, fun b hb => (h.blk b (Nat.lt_of_lt_of_le hb e.size) (ho b hb)).trans (e.block b hb)⟩
theorem ListsAt.kept {W W' : World} {ow ow' ow2 : Nat → Prop} {l D b0 : Nat} {ec : Array Value} {wB : World} (h : ListsAt W ow l D b0 ec wB) (hk : Kept ow2 W W') (h2 : ∀ b, ow2 b → ow b ∨ b = D + 1) (hs : ∀ b, ow' b → ow b ∨ W.heap.size ≤ b) : ListsAt W' ow' l D b0 ec wB := by
  have hlt : ∀ {b : Nat} {o : Obj}, W.heap[b]? = some o → b < W.heap.size := fun h => (Array.getElem?_eq_some_iff.1 h).1
  have hd2 := hlt h.h2
  have hn : ∀ {b}, ¬ ow b → b ≠ D + 1 → ¬ ow2 b := fun h1 h3 h' => (h2 _ h').elim h1 h3
  have hbD := h.bD
  have hwD := h.wD
  refine ⟨hk.keep h.h0 (hn h.o0 (by omega)), hk.keep h.h2 (hn h.o2 (by omega)), hk.keep h.hb (hn h.ob (by omega)), fun h' => (hs _ h').elim h.o0 (fun h' => by omega), fun h' => (hs _ h').elim h.o1 (fun h' => by omega),
    fun h' => (hs _ h').elim h.o2 (fun h' => by omega), fun h' => (hs _ h').elim h.ob (fun h' => by omega), fun b hb h' => (hs _ h').elim (h.old b hb) (fun h' => by have := h.ext.size; omega), ?_, h.bD, h.wD⟩
  exact hk.extOld h.ext fun b hb => hn (h.old b hb) (by omega)
/-- What stands between two calls of yield: one block of the iterator's alone may change. -/
def OneAside (D : Nat) (ow : Nat → Prop) (W1 W2 : World) : Prop := ∃ X, D ≤ X ∧ ¬ ow X ∧ Kept (fun b => b = X) W1 W2
theorem OneAside.of_ext {D : Nat} {ow : Nat → Prop} {W1 W2 : World} (hb : ∀ b, ow b → b < W1.heap.size) (h : Ext W1 W2) : OneAside D ow W1 W2 :=
  ⟨D + W1.heap.size, by omega, fun h' => by have := hb _ h'; omega, Kept.of_ext h⟩
/-- How a call of the iterator's closure ends. -/
def ChoosePost {α : Type} (J : (Nat → Prop) → List α → World → Prop) (Jx : List α → World → Prop) (xs : List α) (ow : Nat → Prop) (pre : List α) (D : Nat) (Y : World → Prop) (W : World) (e : Ending) (W' : World) : Prop :=
  ∃ bb : Bool, e = .returned (.bool bb) ∧ Kept (fun b => ow b ∨ b = D + 1) W W' ∧ (bb = true → ∃ ow', J ow' pre W' ∧ (∀ b, ow' b → ow b ∨ W.heap.size ≤ b) ∧ Y W') ∧ (bb = false → ∃ p, p <+: xs ∧ Jx p W')

set_option maxHeartbeats 6400000 in
set_option maxRecDepth 100000 in
theorem choose_c (l D b0 : Nat) (A : Option Addr) (n wc : Nat) (women : List Wom) (S : Option Addr) (pn pc : Nat) (pieces : List Pce) (wrong : Int) (wB : World) (hn : n ≤ 1000) (hpn : pn ≤ 7)
    (hW : IsWoms wB (.slice A n wc) women) (hwl : women.length = n) (hP : IsPces wB (.slice S pn pc) pieces) (hpl : pieces.length = pn)
    (J : (Nat → Prop) → List (Nat → Int) → World → Prop) (Jx : List (Nat → Int) → World → Prop) (xs : List (Nat → Int))
    (hJb : ∀ ow pre W1 b, J ow pre W1 → ow b → b < W1.heap.size)
    (hJs : ∀ ow pre W1 W2, J ow pre W1 → OneAside D ow W1 W2 → J ow pre W2)
    (hY : ∀ ow pre x W1 v, J ow pre W1 → (pre ++ [x]) <+: xs → v = .agg #[.int .i64 (x 0), .int .i64 (x 1), .int .i64 (x 2), .int .i64 (x 3), .int .i64 (x 4), .int .i64 (x 5), .int .i64 (x 6)] → YieldAt Fence.wide 0 Tryz.prog l #[v] W1 fun e W2 =>
      Kept ow W1 W2 ∧ ((e = .returned (.bool true) ∧ ∃ ow', J ow' (pre ++ [x]) W2 ∧ ∀ b, ow' b → ow b ∨ W1.heap.size ≤ b) ∨ (e = .returned (.bool false) ∧ Jx (pre ++ [x]) W2))) :
    ∀ (f p : Nat) (o : Nat → Int) (W : World) (ow : Nat → Prop) (pre : List (Nat → Int)), p + f = pn → (∀ i, p ≤ i → o i = 0) → J ow pre W → (pre ++ listsFrom (fun i => ofF women (pMs pieces i)) f p o) <+: xs → XAt pn W D p o →
      ListsAt W ow l D b0 #[.slice A n wc, .slice S pn pc, .int .i64 wrong] wB →
      Calls Tryz.prog 146 #[.int .i64 p, .pointer (some ⟨b0, 0, none⟩), .pointer (some ⟨D, 0, none⟩), .pointer (some ⟨D + 1, 0, none⟩), .pointer (some ⟨D + 2, 0, none⟩)] W
        (ChoosePost J Jx xs ow (pre ++ listsFrom (fun i => ofF women (pMs pieces i)) f p o) D (fun W' => XAt pn W' D p o) W) := by
  intro f
  induction f with
  | zero =>
    intro p o W ow pre hpf ho hJ hpre hX hat
    obtain rfl : p = pn := by omega
    obtain ⟨o', hx, hlo, hz⟩ := hX
    obtain rfl : o' = o := funext fun i => by
      by_cases hi : i < p
      · exact hlo i hi
      · rw [hz i (by omega), ho i (by omega)]
    obtain ⟨fn, tmps, assign, body, hy, hR⟩ := hY ow pre o' W _ hJ hpre rfl
    have c0 := blk_cell hat.h0 0
    have cb := blk_cell hat.hb
    have cx := blk_cell hx
    simp only [List.getElem?_toArray, List.getElem?_cons_zero] at c0
    have HR := hid hR
    have HP := hid hpre
    have HX := hid hx
    have HZ := hid hz
    have HA := hid hat
    clear hR hpre hx hz hat hJ ho hlo hJb hJs hY hW hwl hP hpl
    refine (callsIn_wide (n := 0)).1 (callsIn_of_wp Tryz.func146 rfl trivial ?_ rfl)
    simp only [Tryz.ntmps146, List.size_toArray, List.length_cons, List.length_nil, Nat.reduceAdd, Nat.reduceSub, Array.replicate_succ, Array.replicate_zero, List.push_toArray, List.append_toArray, List.nil_append, List.cons_append]
    gi_wp2_with fail
    refine ⟨rfl, HR.out.mono ?_⟩
    rintro e W2 ⟨hk', h⟩
    have KK := hid hk'
    have KH := hid h
    clear h hk' c0 cb cx
    obtain ⟨b, he⟩ : ∃ b : Bool, e = .returned (.bool b) := by
      rcases KH.out with ⟨h, _⟩ | ⟨h, _⟩
      · exact ⟨_, h⟩
      · exact ⟨_, h⟩
    subst he
    gi_wp2
    refine bodyPost_ret (results_tmp rfl _ _ _) rfl ?_
    refine ⟨b, rfl, KK.out.mono fun b h => .inl h, ?_, ?_⟩
    · rintro rfl
      rcases KH.out with ⟨_, ow', h1, h2⟩ | ⟨h, _⟩
      · exact ⟨ow', h1, h2, o', KK.out.keep HX.out HA.out.o1, fun _ _ => rfl, HZ.out⟩
      · simp at h
    · rintro rfl
      rcases KH.out with ⟨h, _⟩ | ⟨_, h1⟩
      · simp at h
      · exact ⟨_, HP.out, h1⟩
  | succ f ih =>
    intro p o W ow pre hpf ho hJ hpre hX hat
    have hp7 : p < pn := by omega
    obtain ⟨pb, po, hS, hcell⟩ := (hP.ext hat.ext).at (by omega)
    subst hS
    obtain ⟨mv, c1, hm, c2⟩ := hcell p hp7
    obtain ⟨M, mc, rfl⟩ := hm.val
    have hpc : p < (7 : Nat) := by omega
    have hxlt := (Array.getElem?_eq_some_iff.1 hX.choose_spec.1).1
    have hblt := (Array.getElem?_eq_some_iff.1 hat.hb).1
    have cb := blk_cell hat.hb
    have f0 := ext_blk hat.hb
    have f1 : ∀ W', Ext W W' → W'.cell? ⟨pb, po + p * 2, none⟩ = some (.slice M (pMs pieces p).length mc) := fun W' h => cell_ext h c1
    have f2 : ∀ W', Ext W W' → W'.cell? ⟨pb, po + p * 2 + 1, none⟩ = some (.int .i64 (pBd pieces p)) := fun W' h => cell_ext h c2
    have e0 : Ext W W := ext_refl W
    have hne : ((p : Int) == (pn : Int)) = false := by rw [beq_eq_false_iff_ne]; omega
    have HM := hid hm
    have HW := hid (hW.ext hat.ext)
    have HL := hid hwl
    have HA := hid hat
    have HX := hid hX
    have HJ := hid hJ
    have HP := hid hpre
    have HO := hid ho
    have HB := hid hJb
    have HS := hid hJs
    have HPF := hid hpf
    have IH := hid ih
    clear hW hwl hat hX hJ hpre ho hJb hJs hpf ih hP hpl hcell hm hY c1 c2
    go_enter Tryz.func146, Tryz.ntmps146
    go_wp2
    go_region_held3 (fun W' => Ext W W')
      (first | exact Below.drew (by assumption) | assumption | exact ext_trans (by assumption) (by assumption))
      ((go_at_call 144; refine (of_c2 A n wc women _ wrong _ (pMs pieces p) _ _ (HW.out.ext (by assumption)) HL.out hn (HM.out.ext (by assumption))).mono ?_; rintro e w1 ⟨cv, rfl, hcv, hB1, hcb⟩; obtain ⟨CA, cc, rfl⟩ := hcv.val))
    all_goals
      have e1 : Ext W w1 := by assumption
      have HCV := hid hcv
      have hcb2 : ∀ b, (Value.slice CA (ofF women (pMs pieces p)).length cc).ownBlock = some b → W.heap.size ≤ b ∧ b < w1.heap.size := hcb
      have HCB := hid hcb2
      clear hcb2
      clear hcv hcb f0 f1 f2 cb
      have hlen := ofK_len women (pMs pieces p) women.length
      obtain ⟨cn, hcn⟩ : ∃ cn, (ofF women (pMs pieces p)).length = cn := ⟨_, rfl⟩
      rw [show ofK women (pMs pieces p) women.length = ofF women (pMs pieces p) from rfl, hcn, HL.out] at hlen
      have hcn1 : cn ≤ 1000 := by omega
      have HCN := hid hcn
      have hw1 := e1.size
      simp only [hcn] at HCV HCB ⊢
      clear hcn hlen
      have HJ1 := hid (HS.out _ _ _ _ HJ.out (OneAside.of_ext (fun b hb => HB.out _ _ _ _ HJ.out hb) e1))
      have HX1 : Hid (XAt pn w1 D p o) := hid (by obtain ⟨o', h1, h2⟩ := HX.out; exact ⟨o', ext_blk_keep e1 h1, h2⟩)
      have HA1 := hid (HA.out.kept (Kept.of_ext e1 : Kept ow W w1) (fun b h => .inl h) (fun b h => .inl h))
      have HLS := hid (fun k (hk : k < cn) => listsK_succ (fun i => ofF women (pMs pieces i)) f p o (k := k) (by show k < (ofF women (pMs pieces p)).length; rw [HCN.out]; exact hk))
      have HLP := hid (fun k (hk : k ≤ cn) => ((List.prefix_append_right_inj pre).2 (by rw [← listsK_all (fun i => ofF women (pMs pieces i)) f p o]; exact listsK_prefix (fun i => ofF women (pMs pieces i)) f p o (by show k ≤ (ofF women (pMs pieces p)).length; rw [HCN.out]; exact hk) (Nat.le_refl _))).trans HP.out)
      go_wp2
      go_loopw [25] (fun i wr => ∃ k : Nat, k ≤ cn ∧ i = .int .i64 k ∧ ∃ ow', J ow' (pre ++ listsK (fun i => ofF women (pMs pieces i)) f p o k) wr ∧ Kept (fun b => ow b ∨ b = D + 1) w1 wr ∧ (∀ b, ow' b → ow b ∨ w1.heap.size ≤ b) ∧ XAt pn wr D p o) (fun i _ => cn - (intOf i).toNat)
      case atStart => exact ⟨0, Nat.zero_le _, rfl, ow, by simpa [listsK] using HJ1.out, Kept.refl _ _, fun b h => .inl h, HX1.out⟩
      case round =>
        obtain ⟨k, hk, rfl, owk, hJk, hKk, hsk, hXk⟩ := hrel
        have HJk := hid hJk
        have HKk := hid hKk
        have HSk := hid hsk
        clear hJk hKk hsk
        by_cases hlt : k < cn
        · have hD1 : D + 1 < W.heap.size := hxlt
          have hcvk := HCV.out.kept (W' := wr) (ow := fun b => ow b ∨ b = D + 1) (fun b hb h => by have h1 := HCB.out b hb; exact h.elim (fun h => by have := HB.out _ _ _ _ HJ.out h; omega) (fun h => by omega)) HKk.out
          obtain ⟨vb, vo, hV, hvc⟩ := hcvk.at (by omega)
          subst hV
          have cv := hvc k hlt
          obtain ⟨x, hx⟩ : ∃ x, at0 (ofF women (pMs pieces p)) k = x := ⟨_, rfl⟩
          rw [hx] at cv
          have HXX := hid hx
          obtain ⟨o2, hx2, hlo2, hz2⟩ := hXk
          have hatk := HA1.out.kept HKk.out (fun b h => h) HSk.out
          have d1 : wr.cell? ⟨D + 1, p, none⟩ = some (.int .i64 (o2 p)) := (blk_cell hx2 p).trans (m7_at o2 p hpc)
          have df : wr.frozen? ⟨D + 1, p, none⟩ = false := frozen_of_row wr _ p _ _ hx2
          have d2 := blk_cell hatk.h2 0
          simp only [List.getElem?_toArray, List.getElem?_cons_zero] at d2
          have hx3 := heap_set_at (j := p) (v := .int .i64 x) hx2 (m7_set o2 p x hpc)
          have hKs : Kept (fun b => b = D + 1) wr (wr.setCell ⟨D + 1, p, none⟩ (.int .i64 x)) := (Kept.refl _ _).set _ rfl
          have HJ3 := hid (HS.out _ _ _ _ HJk.out ⟨D + 1, by omega, hatk.o1, hKs⟩)
          have HA3 := hid (hatk.kept hKs (fun b h => .inr h) (fun b h => .inl h))
          have HX3 : Hid (XAt pn (wr.setCell ⟨D + 1, p, none⟩ (.int .i64 x)) D (p + 1) (upd o p x)) := hid ⟨upd o2 p x, hx3, fun i hi => by
            by_cases h : i = p
            · simp [upd, h]
            · simp [upd, h, hlo2 i (by omega)], fun i hi => by simp [upd, hz2 i hi, show i ≠ p by omega]⟩
          have HPK := hid (by have := HLP.out (k + 1) hlt; rw [HLS.out k hlt, ← List.append_assoc, HXX.out] at this; exact this)
          have HCALL := hid (IH.out (p + 1) (upd o p x) _ owk (pre ++ listsK (fun i => ofF women (pMs pieces i)) f p o k) (by have := HPF.out; omega) (fun i hi => by simp [upd, HO.out i (by omega), show i ≠ p by omega]) HJ3.out HPK.out HX3.out HA3.out)
          have HKS := hid hKs
          have hpi : (p : Int) + 1 ≤ 8 := by omega
          clear hx hx2 hlo2 hz2 hatk hx3 hKs hvc hcvk
          go_wp2_with (go_at_call 146; go_must (refine HCALL.out.mono ?_); unfold ChoosePost; rintro e w4 ⟨bb, rfl, hK4, ht, hf⟩; have HK4 := hid hK4; have HT := hid ht; have HF := hid hf; clear hK4 ht hf; cases bb)
          all_goals
            have hK5 : Kept (fun b => ow b ∨ b = D + 1) w1 w4 := (HKk.out.trans (HKS.out.mono fun b h => .inr h)).trans_sub (fun b hb => hb.elim (fun h => (HSk.out b h).elim (fun h => .inl (.inl h)) .inr) (fun h => .inl (.inr h))) HK4.out
            have hsz1 := HKk.out.size
          · refine bodyPost_ret (results_tmp rfl _ _ _) rfl ?_
            exact ⟨false, rfl, (Kept.of_ext e1).trans_sub (fun b h => .inl h) hK5, (fun h => by cases h), fun _ => HF.out trivial⟩
          · obtain ⟨ow5, hJ5, hs5, o5, hx5, hlo5, hz5⟩ := HT.out trivial
            go_roundw
            case rel => exact ⟨k + 1, hlt, by go_num, ow5, by rw [HLS.out k hlt, ← List.append_assoc, HXX.out]; exact hJ5, hK5, (fun b hb => (hs5 b hb).elim (fun h => HSk.out b h) (fun h => .inr (by simp at h; omega))), o5, hx5, (fun i hi => by have := hlo5 i (by omega); simpa [upd, show i ≠ p by omega] using this), hz5⟩
            case measure => simp [intOf]; omega
        · obtain rfl : k = cn := by omega
          go_wp2
          refine bodyPost_ret (results_tmp rfl _ _ _) rfl ?_
          refine ⟨true, rfl, (Kept.of_ext e1).trans_sub (fun b h => .inl h) HKk.out, (fun _ => ⟨owk, ?_, fun b h => (HSk.out b h).elim .inl (fun h => .inr (by omega)), hXk⟩), (fun h => by cases h)⟩
          have := HJk.out
          rw [← HCN.out] at this
          rw [← listsK_all (fun i => ofF women (pMs pieces i)) f p o]
          exact this
end Go.Proofs.YtlcakmbejjlmeaaGreat
/- bundle's iterator 'lists' keeps to IterOk. -/
set_option linter.unusedVariables false
set_option linter.unusedSimpArgs false
namespace Go.Proofs.YtlcakmbejjlmeaaGreat
open Go.RowKit

set_option maxHeartbeats 800000 in
theorem lists_c (ec : Array Value) (w : World) :
    Calls Tryz.prog 124 #[.agg ec] w fun e w' => e = .returned (.func (.func 145) #[] #[.pointer (some ⟨w.heap.size, 0, none⟩)]) ∧ w' = w.alloc (.cells ec 38) := by
  go_enter Tryz.func124, Tryz.ntmps124
  go_wp2
  go_ret
  exact ⟨rfl, rfl⟩

theorem OneAside.sizes {D : Nat} {ow : Nat → Prop} {W1 W2 : World} (h : OneAside D ow W1 W2) : W1.heap.size ≤ W2.heap.size ∧ ∀ b, b < D → b < W1.heap.size → W2.heap[b]? = W1.heap[b]? := by
  obtain ⟨X, h1, h2, h3⟩ := h
  exact ⟨h3.size, fun b hb hl => h3.blk b hl (fun e => by omega)⟩

/-- All lists of owners, in lexicographic order. -/
def listsF (women : List Wom) (pieces : List Pce) : List (Nat → Int) := listsFrom (fun i => ofF women (pMs pieces i)) pieces.length 0 fun _ => 0

set_option maxHeartbeats 3200000 in
set_option maxRecDepth 100000 in
theorem lists_iter (b0 : Nat) (A : Option Addr) (n wc : Nat) (women : List Wom) (S : Option Addr) (pn pc : Nat) (pieces : List Pce) (wrong : Int) (wB w0 : World) (hn : n ≤ 1000) (hpn : pn ≤ 7)
    (hW : IsWoms wB (.slice A n wc) women) (hwl : women.length = n) (hP : IsPces wB (.slice S pn pc) pieces) (hpl : pieces.length = pn) (hE0 : Ext wB w0)
    (hb : w0.heap[b0]? = some (.cells #[.slice A n wc, .slice S pn pc, .int .i64 wrong] 38 (0, 0))) :
    IterOk Tryz.prog 145 #[.pointer (some ⟨b0, 0, none⟩)] (fun _ v x => v = .agg #[.int .i64 (x 0), .int .i64 (x 1), .int .i64 (x 2), .int .i64 (x 3), .int .i64 (x 4), .int .i64 (x 5), .int .i64 (x 6)]) (listsF women pieces) OneAside (fun b => b < wB.heap.size ∨ b = b0) w0 := by
  intro l ow0 J Jx W hE hJb hJs hY hJ hcb
  have kb := ext_blk_keep hE hb
  have kblt := (Array.getElem?_eq_some_iff.1 kb).1
  have n1 := (hcb b0 (.inr rfl)).2
  have n2 : ∀ b, b < wB.heap.size → ¬ ow0 b := fun b h => (hcb b (.inl h)).2
  have n3 : ¬ ow0 W.heap.size := fun h => by have := hJb _ _ _ _ hJ h; omega
  have n4 : ¬ ow0 (W.heap.size + 1) := fun h => by have := hJb _ _ _ _ hJ h; omega
  have n5 : ¬ ow0 (W.heap.size + 2) := fun h => by have := hJb _ _ _ _ hJ h; omega
  have hWB : wB.heap.size ≤ W.heap.size := Nat.le_trans hE0.size hE.size
  have HC := hid (fun (W' : World) hx hat hJ' => choose_c l W.heap.size b0 A n wc women S pn pc pieces wrong wB hn hpn hW hwl hP hpl J Jx (listsF women pieces) hJb hJs hY pn 0 (fun _ => 0) W' ow0 []
    (by omega) (fun _ _ => rfl) hJ' (by rw [listsF, hpl]; exact List.prefix_refl _) hx hat)
  have HPL := hid hpl
  have HJ := hid hJ
  have HS := hid (fun W' (h : Ext W W') => hJs _ _ _ _ hJ (OneAside.of_ext (fun b hb => hJb _ _ _ _ hJ hb) h))
  have KB := hid kb
  have N1 := hid n1
  have N2 := hid n2
  have N3 := hid n3
  have N4 := hid n4
  have N5 := hid n5
  have HEB := hid (ext_trans hE0 hE)
  clear hE hJb hJs hY hJ hcb kb n1 n2 n3 n4 n5 hb hE0 hW hwl hP hpl
  simp only [List.append_toArray, List.cons_append, List.nil_append]
  obtain ⟨Wb, hWb⟩ : ∃ Wb, ((W.alloc (.cells #[.func (.yield l) #[] #[]] 183)).alloc (.cells #[.int .i64 0, .int .i64 0, .int .i64 0, .int .i64 0, .int .i64 0, .int .i64 0, .int .i64 0] 136)).alloc (.cells #[.nilFunc] 153) = Wb := ⟨_, rfl⟩
  have hb0 : Wb.heap[W.heap.size]? = some (.cells #[.func (.yield l) #[] #[]] 183 (0, 0)) := by rw [← hWb]; exact heap_alloc_keep (heap_alloc_keep (heap_alloc_new W _))
  have hb1 : Wb.heap[W.heap.size + 1]? = some (.cells #[.int .i64 0, .int .i64 0, .int .i64 0, .int .i64 0, .int .i64 0, .int .i64 0, .int .i64 0] 136 (0, 0)) := by rw [← hWb]; exact heap_alloc_keep (heap_alloc_at _ _ (by simp))
  have hb2 : Wb.heap[W.heap.size + 2]? = some (.cells #[.nilFunc] 153 (0, 0)) := by rw [← hWb]; exact heap_alloc_at _ _ (by simp)
  have hbE : Ext W Wb := by rw [← hWb]; go_grown
  have c4 := blk_cell hb2 0
  have f4 : ∀ j, Wb.frozen? ⟨W.heap.size + 2, j, none⟩ = false := fun j => frozen_of_row Wb _ j _ _ hb2
  simp only [List.getElem?_toArray, List.getElem?_cons_zero] at c4
  have hs : ∀ v, Ext W (Wb.setCell ⟨W.heap.size + 2, 0, none⟩ v) := fun v => by go_grown
  have N6 := hid (show b0 ≠ W.heap.size + 2 from by omega)
  have N7 := hid (show W.heap.size ≠ W.heap.size + 2 from by omega)
  have N8 := hid (show W.heap.size + 1 ≠ W.heap.size + 2 from by omega)
  have HBE := hid hbE
  have HB0 := hid hb0
  have HB1 := hid hb1
  have HB2 := hid hb2
  have HSE := hid hs
  clear hbE hb0 hb1 hb2 hs
  go_enter Tryz.func145, Tryz.ntmps145
  go_wp2_with (first
    | (go_at_call 146; go_must (refine (HC.out (Wb.setCell ⟨W.heap.size + 2, 0, none⟩ _) ⟨fun _ => 0, heap_set_keep N8.out HB1.out, fun _ _ => rfl, fun _ _ => rfl⟩ ⟨heap_set_keep N7.out HB0.out, heap_set_at HB2.out rfl, heap_set_keep N6.out (ext_blk_keep HBE.out KB.out), N3.out, N4.out, N5.out, N1.out, N2.out, ext_trans HEB.out (HSE.out _), kblt, hWB⟩ (HS.out _ (HSE.out _))).mono ?_)
       unfold ChoosePost
       rintro e W5 ⟨bb, rfl, hK5, ht, hf⟩
       have HT := hid ht
       have HF := hid hf
       clear ht hf))
  refine ⟨rfl, .tuple #[], by simp [results, go_sem], ⟨_, rfl⟩, ?_⟩
  cases bb
  · exact .inr (HF.out rfl)
  · obtain ⟨ow', h1, _⟩ := HT.out rfl
    exact .inl ⟨ow', by rw [listsF, HPL.out]; exact h1⟩
end Go.Proofs.YtlcakmbejjlmeaaGreat
/- Sets of integers as maps from int to bool. -/
set_option linter.unusedVariables false
set_option linter.unusedSimpArgs false
namespace Go.Proofs.YtlcakmbejjlmeaaGreat
open Go.RowKit
open Go.MapKept

/-- Block B is a map from int to bool that holds true at those numbers, and nothing else. -/
def IsSet (W : World) (B : Nat) (F : Int → Bool) : Prop :=
  ∃ es clock, W.heap[B]? = some (.map es clock) ∧ (∀ e ∈ es.toList, ∃ k, e.key = .int .i64 k ∧ e.val = .bool true) ∧ ∀ k, F k = true ↔ ∃ e ∈ es.toList, e.key = .int .i64 k
theorem IsSet.lt {W : World} {B : Nat} {F : Int → Bool} (h : IsSet W B F) : B < W.heap.size := by
  obtain ⟨es, c, h, _⟩ := h
  exact (Array.getElem?_eq_some_iff.1 h).1
theorem IsSet.keep {W W' : World} {B : Nat} {F : Int → Bool} (h : IsSet W B F) (hb : W'.heap[B]? = W.heap[B]?) : IsSet W' B F := by
  obtain ⟨es, c, h, r⟩ := h
  exact ⟨es, c, hb.trans h, r⟩
theorem IsSet.ext {W W' : World} {B : Nat} {F : Int → Bool} (h : IsSet W B F) (e : Ext W W') : IsSet W' B F := h.keep (e.block B h.lt)
theorem set_made (W W' : World) (B : Nat) (h : W'.heap[B]? = some (.map #[] 0)) : IsSet W' B (fun _ => false) := ⟨#[], 0, h, by simp, by simp⟩
theorem isKey_int (x : Int) : IsKey (.int .i64) (.int .i64 x) := by simp [IsKey]
theorem zero_bool (w : World) : (zeroValue 4).run Tryz.prog w = .ok (.bool false) w := by kernel_rfl
theorem set_look {W : World} {B : Nat} {F : Int → Bool} (h : IsSet W B F) (x : Int) : (Instr.lookup 119 (.map (some B)) (.int .i64 x) false).run Tryz.prog W = .ok (.bool (F x)) W := by
  obtain ⟨es, c, hb, hk, hF⟩ := h
  have hks : ∀ e ∈ es.toList, IsKey (.int .i64) e.key := fun e he => by
    obtain ⟨k, h, _⟩ := hk e he
    rw [h]; exact isKey_int k
  rcases findNow_spec (isKey_int x) es.toList 0 hks with ⟨h1, h2⟩ | ⟨j, e, h1, h2, h3⟩
  · have : F x = false := by
      cases hx : F x
      · rfl
      · obtain ⟨e, he, h⟩ := (hF x).1 hx
        exact absurd h (h2 e he)
    simp [Instr.lookup, run_underlying Tryz.underlying119, MapKept.run_getObj_map hb, run_checkKey Tryz.underlying3 (isKey_int x), run_findKey Tryz.underlying3 h1, Result.andThen, zero_bool, this]
  · have he := List.mem_of_getElem? h2
    obtain ⟨k, h4, h5⟩ := hk e he
    have : F x = true := (hF x).2 ⟨e, he, h3⟩
    simp [Instr.lookup, run_underlying Tryz.underlying119, MapKept.run_getObj_map hb, run_checkKey Tryz.underlying3 (isKey_int x), run_findKey Tryz.underlying3 h1, Result.andThen, this, h5]
def addF (F : Int → Bool) (x : Int) : Int → Bool := fun k => decide (k = x) || F k
theorem set_put {W : World} {B : Nat} {F : Int → Bool} (h : IsSet W B F) (x : Int) : ∃ W', (Instr.mapUpdate 119 (.map (some B)) (.int .i64 x) (.bool true)).run Tryz.prog W = .ok () W' ∧ IsSet W' B (addF F x) ∧ Kept (fun b => b = B) W W' := by
  obtain ⟨es, c, hb, hk, hF⟩ := h
  have hlt := (Array.getElem?_eq_some_iff.1 hb).1
  have hks : ∀ e ∈ es.toList, IsKey (.int .i64) e.key := fun e he => by
    obtain ⟨k, h, _⟩ := hk e he
    rw [h]; exact isKey_int k
  have hkept : ∀ o, Kept (fun b => b = B) W { W with heap := W.heap.setIfInBounds B o } := fun o => ⟨rfl, rfl, rfl, by simp, fun b hb' hne => by simp [Array.getElem?_setIfInBounds, show B ≠ b from fun e => hne e.symm]⟩
  rcases findNow_spec (isKey_int x) es.toList 0 hks with ⟨h1, h2⟩ | ⟨j, e, h1, h2, h3⟩
  · refine ⟨{ W with heap := W.heap.setIfInBounds B (.map (es.push ⟨.int .i64 x, .bool true, c⟩) (c + 1)) }, ?_, ⟨_, _, (heap_set hb).1, ?_, ?_⟩, hkept _⟩
    · simp [Instr.mapUpdate, run_underlying Tryz.underlying119, MapKept.run_getObj_map hb, run_checkKey Tryz.underlying3 (isKey_int x), run_findKey Tryz.underlying3 h1, run_setObj_map _ hb, Result.andThen]
    · intro e he
      simp only [Array.toList_push, List.mem_append, List.mem_singleton] at he
      rcases he with he | rfl
      · exact hk e he
      · exact ⟨x, rfl, rfl⟩
    · intro k
      simp only [addF, Array.toList_push, Bool.or_eq_true, decide_eq_true_eq, hF k]
      constructor
      · rintro (rfl | ⟨e, he, h⟩)
        · exact ⟨_, List.mem_append_right _ (List.mem_singleton.2 rfl), rfl⟩
        · exact ⟨e, List.mem_append_left _ he, h⟩
      · rintro ⟨e, he, h⟩
        rcases List.mem_append.1 he with he | he
        · exact .inr ⟨e, he, h⟩
        · rw [List.mem_singleton.1 he] at h
          injection h with _ h
          exact .inl h.symm
  · have hj : es[j]? = some e := by simpa using h2
    have hmem := List.mem_of_getElem? h2
    obtain ⟨k0, h4, h5⟩ := hk e hmem
    have hmod : es.modify j (fun e' => { e' with key := .int .i64 x, val := .bool true }) = es := by
      apply Array.ext_getElem?
      intro i
      rw [Array.getElem?_modify]
      split
      · rename_i hij
        subst hij
        rw [hj]
        simp only [Option.map_some, Option.some.injEq]
        rw [← h3, ← h5]
      · rfl
    refine ⟨{ W with heap := W.heap.setIfInBounds B (.map es c) }, ?_, ⟨_, _, (heap_set hb).1, hk, ?_⟩, hkept _⟩
    · simp [Instr.mapUpdate, run_underlying Tryz.underlying119, MapKept.run_getObj_map hb, run_checkKey Tryz.underlying3 (isKey_int x), run_findKey Tryz.underlying3 h1, hj, h3, run_keyThatStays (isKey_int x), run_setObj_map _ hb, Result.andThen, hmod]
    · intro k
      simp only [addF, Bool.or_eq_true, decide_eq_true_eq, hF k]
      constructor
      · rintro (rfl | h)
        · exact ⟨e, hmem, h3⟩
        · exact h
      · exact .inr
end Go.Proofs.YtlcakmbejjlmeaaGreat
/- The contract of errand's 'brings'. -/
set_option linter.unusedVariables false
set_option linter.unusedSimpArgs false
namespace Go.Proofs.YtlcakmbejjlmeaaGreat
open Go.RowKit

def brStep (moves : List Mov) (who : Int) (j : Nat) (s : (Int → Bool) × (Int → Bool)) : (Int → Bool) × (Int → Bool) :=
  (if mDs moves j = who ∧ s.2 (mPc moves j) = true then addF s.1 (mPc moves j) else s.1, if mSr moves j = who then addF s.2 (mPc moves j) else s.2)
def brIn (moves : List Mov) (who : Int) (s : (Int → Bool) × (Int → Bool)) : Nat → (Int → Bool) × (Int → Bool)
  | 0 => s
  | j + 1 => brStep moves who j (brIn moves who s j)
def brOut (moves : List Mov) (walk : List Int) : Nat → (Int → Bool) × (Int → Bool)
  | 0 => (fun _ => false, fun _ => false)
  | i + 1 => brIn moves (at0 walk i) (brOut moves walk i) moves.length
/-- Which pieces a walk brings. -/
def bringsF (moves : List Mov) (walk : List Int) : Int → Bool := (brOut moves walk walk.length).1
theorem kept_ext {w W W' : World} {B : Nat} (e : Ext w W) (h : Kept (fun b => b = B) W W') (hB : w.heap.size ≤ B) : Ext w W' := h.extOld e fun b hb e => by omega
theorem IsSet.other {W W' : World} {B C : Nat} {F : Int → Bool} (h : IsSet W B F) (k : Kept (fun b => b = C) W W') (hne : B ≠ C) : IsSet W' B F := h.keep (k.blk B h.lt hne)

set_option maxHeartbeats 6400000 in
set_option maxRecDepth 100000 in
theorem brings_c (p : Nat) (c0 c1 c2 c3 c4 c5 c6 : Value) (S : Option Addr) (mn mc : Nat) (moves : List Mov) (v : Value) (walk : List Int) (w : World)
    (hp : w.heap[p]? = some (.cells #[c0, c1, c2, c3, c4, c5, c6, .slice S mn mc] 122 (0, 0))) (hM : IsMovs w (.slice S mn mc) moves) (hml : moves.length = mn) (hmn : mn ≤ 1000) (hv : IsInts w v walk) (hwn : walk.length ≤ 1000) :
    Calls Tryz.prog 85 #[.pointer (some ⟨p, 0, none⟩), v] w fun e w' => e = .returned (.map (some w.heap.size)) ∧ IsSet w' w.heap.size (bringsF moves walk) ∧ Ext w w' := by
  have KM := hid hM
  have KL := hid hml
  have KV := hid hv
  have KP := hid hp
  obtain ⟨V, vc, rfl⟩ := hv.val
  have hplt := (Array.getElem?_eq_some_iff.1 hp).1
  have hmm := @run_makeMap Tryz.prog
  clear hM hml hv hp
  go_enter Tryz.func85, Tryz.ntmps85
  go_wp2
  clear hmm
  go_loopw [15] (fun i wr => ∃ k : Nat, k ≤ walk.length ∧ i = .int .i64 k ∧ Ext w wr ∧ IsSet wr w.heap.size (brOut moves walk k).1 ∧ IsSet wr (w.heap.size + 1) (brOut moves walk k).2) (fun i _ => walk.length - (intOf i).toNat)
  case atStart =>
    have e1 : Ext w (w.alloc (.map #[] 0)) := by go_grown
    have e2 : Ext w ((w.alloc (.map #[] 0)).alloc (.map #[] 0)) := by go_grown
    exact ⟨0, Nat.zero_le _, rfl, e2, set_made w _ _ (heap_alloc_keep (heap_alloc_new w _)), set_made w _ _ (heap_alloc_at _ _ (by simp))⟩
  case round =>
    obtain ⟨k, hk, rfl, hE, h5, h6⟩ := hrel
    have hlt5 := h5.lt
    have hlt6 := h6.lt
    have H5 := hid h5
    have H6 := hid h6
    clear h5 h6
    by_cases hlt : k < walk.length
    · obtain ⟨vb, vo, hV, hvc⟩ := (KV.out.ext hE).at (by omega)
      subst hV
      have cv := hvc k hlt
      obtain ⟨who, hwho⟩ : ∃ who, at0 walk k = who := ⟨_, rfl⟩
      rw [hwho] at cv
      have HWHO := hid hwho
      have cp := blk_cell (ext_blk_keep hE KP.out)
      clear hvc hwho
      go_wp2
      clear cp cv
      obtain ⟨s0, hs0⟩ : ∃ s0, brOut moves walk k = s0 := ⟨_, rfl⟩
      rw [hs0] at H5 H6
      have HS0 := hid hs0
      clear hs0
      go_loopw [24] (fun i wi => ∃ j : Nat, j ≤ mn ∧ i = .int .i64 j ∧ Ext w wi ∧ IsSet wi w.heap.size (brIn moves who s0 j).1 ∧ IsSet wi (w.heap.size + 1) (brIn moves who s0 j).2) (fun i _ => mn - (intOf i).toNat)
      case atStart => exact ⟨0, Nat.zero_le _, rfl, hE, H5.out, H6.out⟩
      case round =>
        clear hE hlt5 hlt6 H5 H6
        obtain ⟨j, hj, rfl, hE, h5, h6⟩ := hrel
        have hlt5 := h5.lt
        have hlt6 := h6.lt
        have H5 := hid h5
        have H6 := hid h6
        clear h5 h6
        by_cases hjl : j < mn
        · obtain ⟨mb, mo, hS, hmc⟩ := (KM.out.ext hE).at (by omega)
          subst hS
          obtain ⟨m0, m1, m2⟩ := hmc j hjl
          obtain ⟨pc, hpc⟩ : ∃ pc, mPc moves j = pc := ⟨_, rfl⟩
          obtain ⟨sr, hsr⟩ : ∃ sr, mSr moves j = sr := ⟨_, rfl⟩
          obtain ⟨ds, hds⟩ : ∃ ds, mDs moves j = ds := ⟨_, rfl⟩
          have hst : brIn moves who s0 (j + 1) = (if ds = who ∧ (brIn moves who s0 j).2 pc = true then addF (brIn moves who s0 j).1 pc else (brIn moves who s0 j).1, if sr = who then addF (brIn moves who s0 j).2 pc else (brIn moves who s0 j).2) := by
            rw [brIn, brStep, hpc, hsr, hds]
          rw [hpc] at m0
          rw [hsr] at m1
          rw [hds] at m2
          obtain ⟨s1, hs1⟩ : ∃ s1, brIn moves who s0 j = s1 := ⟨_, rfl⟩
          rw [hs1] at H5 H6 hst
          have HST := hid hst
          have hEa : Ext w (wr.alloc (.cells #[.int .i64 pc, .int .i64 sr, .int .i64 ds] 85)) := by go_grown
          have a5 := H5.out.ext (show Ext wr (wr.alloc (.cells #[.int .i64 pc, .int .i64 sr, .int .i64 ds] 85)) from by go_grown)
          have a6 := H6.out.ext (show Ext wr (wr.alloc (.cells #[.int .i64 pc, .int .i64 sr, .int .i64 ds] 85)) from by go_grown)
          have hlk := set_look a6 pc
          have blk : (wr.alloc (.cells #[.int .i64 pc, .int .i64 sr, .int .i64 ds] 85)).heap[wr.heap.size]? = some (.cells #[.int .i64 pc, .int .i64 sr, .int .i64 ds] 85 (0, 0)) := heap_alloc_new wr _
          clear hmc hpc hsr hds hst hs1
          by_cases hC : sr = who
          · subst hC
            by_cases hA : ds = sr
            · subst hA
              cases hT : s1.2 pc
              · rw [hT] at hlk
                obtain ⟨W3, hu, hs6, hk6⟩ := set_put a6 pc
                have hE3 := kept_ext hEa hk6 (by omega)
                have hs5 := a5.other hk6 (by omega)
                go_wp2
                go_roundw
                case rel => exact ⟨j + 1, hjl, by go_num, hE3, by rw [HST.out, if_neg (fun h => by simp [hT] at h)]; exact hs5, by rw [HST.out, if_pos rfl]; exact hs6⟩
                case measure => simp [intOf]; omega
              · rw [hT] at hlk
                obtain ⟨W2, hu5, hs5, hk5⟩ := set_put a5 pc
                have hE2 := kept_ext hEa hk5 (by omega)
                have b6 := a6.other hk5 (by omega)
                have blk2 := hk5.keep blk (by omega)
                have cc := blk_cell blk2
                obtain ⟨W3, hu, hs6, hk6⟩ := set_put b6 pc
                have hE3 := kept_ext hE2 hk6 (by omega)
                have hs7 := hs5.other hk6 (by omega)
                go_wp2
                go_roundw
                case rel => exact ⟨j + 1, hjl, by go_num, hE3, by rw [HST.out, if_pos ⟨rfl, hT⟩]; exact hs7, by rw [HST.out, if_pos rfl]; exact hs6⟩
                case measure => simp [intOf]; omega
            · have hA' : (ds == sr) = false := beq_eq_false_iff_ne.2 hA
              obtain ⟨W3, hu, hs6, hk6⟩ := set_put a6 pc
              have hE3 := kept_ext hEa hk6 (by omega)
              have hs5 := a5.other hk6 (by omega)
              go_wp2
              go_roundw
              case rel => exact ⟨j + 1, hjl, by go_num, hE3, by rw [HST.out, if_neg (fun h => hA h.1)]; exact hs5, by rw [HST.out, if_pos rfl]; exact hs6⟩
              case measure => simp [intOf]; omega
          · have hC' : (sr == who) = false := beq_eq_false_iff_ne.2 hC
            by_cases hA : ds = who
            · subst hA
              cases hT : s1.2 pc
              · rw [hT] at hlk
                go_wp2
                go_roundw
                case rel => exact ⟨j + 1, hjl, by go_num, hEa, by rw [HST.out, if_neg (fun h => by simp [hT] at h)]; exact a5, by rw [HST.out, if_neg hC]; exact a6⟩
                case measure => simp [intOf]; omega
              · rw [hT] at hlk
                obtain ⟨W2, hu5, hs5, hk5⟩ := set_put a5 pc
                have hE2 := kept_ext hEa hk5 (by omega)
                have b6 := a6.other hk5 (by omega)
                have blk2 := hk5.keep blk (by omega)
                have cc := blk_cell blk2
                go_wp2
                go_roundw
                case rel => exact ⟨j + 1, hjl, by go_num, hE2, by rw [HST.out, if_pos ⟨rfl, hT⟩]; exact hs5, by rw [HST.out, if_neg hC]; exact b6⟩
                case measure => simp [intOf]; omega
            · have hA' : (ds == who) = false := beq_eq_false_iff_ne.2 hA
              go_wp2
              go_roundw
              case rel => exact ⟨j + 1, hjl, by go_num, hEa, by rw [HST.out, if_neg (fun h => hA h.1)]; exact a5, by rw [HST.out, if_neg hC]; exact a6⟩
              case measure => simp [intOf]; omega
        · obtain rfl : j = mn := by omega
          go_wp2
          go_roundw
          case rel => exact ⟨k + 1, hlt, by go_num, hE, by rw [brOut, HWHO.out, HS0.out, KL.out]; exact H5.out, by rw [brOut, HWHO.out, HS0.out, KL.out]; exact H6.out⟩
          case measure => simp [intOf]; omega
    · obtain rfl : k = walk.length := by omega
      go_wp2
      go_ret
      exact ⟨rfl, H5.out, hE⟩
end Go.Proofs.YtlcakmbejjlmeaaGreat
/- The contract of errand's 'missing'. -/
set_option linter.unusedVariables false
set_option linter.unusedSimpArgs false
namespace Go.Proofs.YtlcakmbejjlmeaaGreat
open Go.RowKit

/-- Does a walk bring back all pieces but some? -/
def bringsAll (moves : List Mov) (walk wait : List Int) : Bool := allT (fun i => bringsF moves walk (mPc moves i) || hasF wait (mPc moves i)) moves.length

set_option maxHeartbeats 1600000 in
theorem miss1_c (pa pb B : Nat) (F : Int → Bool) (v2 : Value) (wait : List Int) (pc sr ds : Int) (W : World) (ha : W.heap[pa]? = some (.cells #[.map (some B)] 119 (0, 0))) (hb : W.heap[pb]? = some (.cells #[v2] 29 (0, 0)))
    (hF : IsSet W B F) (hv : IsInts W v2 wait) :
    Calls Tryz.prog 120 #[.agg #[.int .i64 pc, .int .i64 sr, .int .i64 ds], .pointer (some ⟨pa, 0, none⟩), .pointer (some ⟨pb, 0, none⟩)] W fun e w' => e = .returned (.bool (F pc || hasF wait pc)) ∧ Ext W w' := by
  have eA : Ext W (W.alloc (.cells #[.int .i64 pc, .int .i64 sr, .int .i64 ds] 85)) := by go_grown
  have hlk := set_look (hF.ext eA) pc
  have KV := hid (hv.ext eA)
  obtain ⟨V, vc, rfl⟩ := hv.val
  have ca := blk_cell (ext_blk_keep eA ha) 0
  have cb := blk_cell (ext_blk_keep eA hb) 0
  have hpa := (Array.getElem?_eq_some_iff.1 ha).1
  have hpb := (Array.getElem?_eq_some_iff.1 hb).1
  simp only [List.getElem?_toArray, List.getElem?_cons_zero] at ca cb
  clear hF hv ha hb
  have HE := hid eA
  clear eA
  obtain ⟨x, hx⟩ : ∃ x, F pc = x := ⟨_, rfl⟩
  rw [hx] at hlk ⊢
  clear hx
  cases x
  · go_enter Tryz.func120, Tryz.ntmps120
    go_wp2_with (go_at_call 121; refine (contains_c _ wait pc _ KV.out).mono ?_; rintro e w1 ⟨rfl, rfl⟩)
    go_ret
    exact ⟨ret_bool (by simp), HE.out⟩
  · go_enter Tryz.func120, Tryz.ntmps120
    go_wp2
    go_ret
    exact ⟨ret_bool (by simp), HE.out⟩

set_option maxHeartbeats 1600000 in
theorem missing_c (p : Nat) (c0 c1 c2 c3 c4 c5 c6 : Value) (S : Option Addr) (mn mc : Nat) (moves : List Mov) (v v2 : Value) (walk wait : List Int) (w : World)
    (hp : w.heap[p]? = some (.cells #[c0, c1, c2, c3, c4, c5, c6, .slice S mn mc] 122 (0, 0))) (hM : IsMovs w (.slice S mn mc) moves) (hml : moves.length = mn) (hmn : mn ≤ 1000) (hv : IsInts w v walk) (hwn : walk.length ≤ 1000) (hv2 : IsInts w v2 wait) :
    Calls Tryz.prog 92 #[.pointer (some ⟨p, 0, none⟩), v, v2] w fun e w' => e = .returned (.bool (!bringsAll moves walk wait)) ∧ Ext w w' := by
  obtain ⟨V2, vc2, rfl⟩ := hv2.val
  have KM := hid hM
  have KL := hid hml
  have KV := hid hv
  have KV2 := hid hv2
  have KP := hid hp
  have hplt := (Array.getElem?_eq_some_iff.1 hp).1
  have e1 : Ext w (w.alloc (.cells #[.slice V2 wait.length vc2] 29)) := by go_grown
  have HBR := hid (brings_c p c0 c1 c2 c3 c4 c5 c6 S mn mc moves v walk (w.alloc (.cells #[.slice V2 wait.length vc2] 29)) (ext_blk_keep e1 hp) (hM.ext e1) hml hmn (hv.ext e1) hwn)
  have HE1 := hid e1
  clear hM hml hv hv2 hp e1
  go_enter Tryz.func92, Tryz.ntmps92
  go_wp2_with (first
    | (go_at_call 85; go_must (refine HBR.out.mono ?_); go_must (rintro e w1 ⟨rfl, hS1, hB1⟩)
       go_must (
         have HS1 := hid hS1
         have HX1 := hid (ext_trans HE1.out hB1)
         have hw1 : w.heap.size < w1.heap.size := by
           have := hB1.size
           simp at this; omega
         have cp := blk_cell (ext_blk_keep (ext_trans HX1.out (show Ext w1 (w1.alloc (.cells #[.map (some (w.heap.size + 1))] 119)) from by go_grown)) KP.out)
         have b5 := ext_blk_keep hB1 (heap_alloc_new w (.cells #[.slice V2 wait.length vc2] 29))
         have B5 := hid b5
         have HB1 := hid hB1
         clear hS1 hB1 b5))
    | (go_at_call 119; go_must (refine (mov_all S mn mc moves ⟨w1.heap.size, 0, none⟩ ⟨w.heap.size, 0, none⟩ (fun i => bringsF moves walk (mPc moves i) || hasF wait (mPc moves i)) _ (KM.out.ext (ext_trans HX1.out (by go_grown))) (by omega)
        (hid fun W hW i hi => miss1_c w1.heap.size w.heap.size (w.heap.size + 1) (bringsF moves walk) _ wait _ _ _ W (ext_blk_keep hW (heap_alloc_new w1 _)) (ext_blk_keep hW (heap_alloc_keep B5.out)) (IsSet.ext (by have := HS1.out; simp at this; exact this.ext (show Ext w1 (w1.alloc (.cells #[.map (some (w.heap.size + 1))] 119)) from by go_grown)) hW) (KV2.out.ext (ext_trans (ext_trans HX1.out (by go_grown)) hW)))).mono ?_); rintro e w2 ⟨rfl, hB2⟩))
  go_ret
  refine ⟨ret_bool (by rw [bringsAll, KL.out]), ?_⟩
  exact ext_trans (ext_trans HX1.out (by go_grown)) hB2
end Go.Proofs.YtlcakmbejjlmeaaGreat
/- A drawn region in a round of a range over a function: from the plain rule on orders. -/
set_option linter.unusedVariables false
set_option linter.unusedSimpArgs false
namespace Go.Proofs.YtlcakmbejjlmeaaGreat
open Go.RowKit

theorem rowsIn_round {l n : Nat} {P : Program} {row : String} {args : Array Value} {w : World} {R : Value → World → Prop} (h : Rows P row args w R) : RowsIn (Fence.wide.inRound l) n P row args w R := fun c cs _ => by
  obtain ⟨v, w', r, s⟩ := h c cs
  exact ⟨v, w', r, stepsIn_wide.2 s⟩
theorem callsIn_round {l n : Nat} {P : Program} {f : FuncId} {args : Array Value} {w : World} {R : Ending → World → Prop} (h : Calls P f args w R) : CallsIn (Fence.wide.inRound l) n P f args w R := CallsIn.inRound l (callsIn_wide.2 h)
theorem operIn_round {l n : Nat} {P : Program} {o : Oper} {a : Act} {w : World} {K : Act → World → Prop} {Q : Exit → Act → World → Prop} (hd : ∀ c, o.op ≠ .defer c) (h : o.wp P a w K Q) : o.wpIn (Fence.wide.inRound l) n P a w K Q := by
  unfold Oper.wp at h
  unfold Oper.wpIn
  rw [Oper.semAt_eq _ _ _ hd]
  refine ⟨fun _ _ => trivial, ?_⟩
  generalize (execOp a.eval o).run P w = r at *
  cases r with
  | ok x w' =>
    cases x <;> simp only [Oper.upon, Oper.uponIn] at h ⊢ <;>
      first
        | exact h
        | exact ⟨fun h' => by simp [Fence.wide] at h', callsIn_round h⟩
        | exact ⟨fun h' => by simp [Fence.wide] at h', rowsIn_round h⟩
  | halt x w' => cases x <;> simp only [Oper.upon, Oper.uponIn] at h ⊢ <;> exact h
theorem opIn_round {l n : Nat} {P : Program} {ops : Array Oper} {Q : Exit → Act → World → Prop} {i : Nat} {a : Act} {w : World} {K : Act → World → Prop} (hd : ∀ (i : Nat) (o : Oper), ops[i]? = some o → ∀ c, o.op ≠ .defer c) (hQ : ¬ LetsOut Q) (h : wpOp P ops Q i K a w) :
    wpOpIn (Fence.wide.inRound l) n P ops Q i K a w := by
  unfold wpOp at h
  unfold wpOpIn
  split
  · rename_i ho
    simpa [ho] using h
  · rename_i o ho
    simp only [ho] at h
    split
    · rename_i hw
      simp only [hw, if_true] at h
      rcases h with h | h
      · exact operIn_round (hd i o ho) h
      · exact absurd h.2 hQ
    · rename_i hw
      simp only [hw] at h
      exact ⟨fun _ _ => trivial, h⟩
theorem anyIn_round {l n : Nat} {P : Program} {md : Region.Mode} {ops : Array Oper} {Q : Exit → Act → World → Prop} (hd : ∀ (i : Nat) (o : Oper), ops[i]? = some o → ∀ c, o.op ≠ .defer c) (hQ : ¬ LetsOut Q) :
    ∀ (fuel : Nat) (listed : Array Bool) (a : Act) (w : World), wpAny P md ops Q fuel listed a w → wpAnyIn (Fence.wide.inRound l) n P md ops Q fuel listed a w
  | 0, _, _, _, h => h
  | fuel + 1, listed, a, w, h => ⟨h.1, fun i hi => opIn_round hd hQ (wpOp_mono (fun a' w' h' => anyIn_round hd hQ fuel _ a' w' h') (h.2 i hi))⟩
/-- No operation defers. -/
def noDefer (ops : Array Oper) : Bool := ops.all fun o => match o.op with | .defer _ => false | _ => true
theorem noDefer_spec {ops : Array Oper} (h : noDefer ops = true) : ∀ (i : Nat) (o : Oper), ops[i]? = some o → ∀ c, o.op ≠ .defer c := fun i o ho c e => by
  have hm := Array.all_eq_true.1 h
  obtain ⟨hi, he⟩ := Array.getElem?_eq_some_iff.1 ho
  have := hm i hi
  rw [he, e] at this
  simp at this
/-- The region must be left in the plain way. -/
def normOnly (Q : Exit → Act → World → Prop) : Exit → Act → World → Prop
  | .normal, a, w => Q .normal a w
  | _, _, _ => False
theorem not_lets (Q : Exit → Act → World → Prop) : ¬ LetsOut (normOnly Q) := by
  rintro ⟨a, w, h⟩
  exact h
/-- The beginning of a drawn region in a round. -/
theorem region_round {l n : Nat} {P : Program} {id : Nat} {ops : Array Oper} {Q : Exit → Act → World → Prop} {S : World → Prop} {a : Act} {w : World} (hm : P.follows .mixedOrders = true) (hd : noDefer ops = true)
    (h : wpAnyH P .any ops (normOnly Q) S ops.size (Array.replicate ops.size false) a w.drew) : (Code.region id ops true).wpIn (Fence.wide.inRound l) n P Q a w :=
  wpIn_mono (wpIn_region_any hm (anyIn_round (noDefer_spec hd) (not_lets Q) _ _ _ _ (wpAny_of_held _ _ _ _ h))) fun e a w h => by
    cases e <;> first | exact h | exact h.elim
/-- The same; what comes behind the region is a letter. -/
def onlyN (R : Act → World → Prop) : Exit → Act → World → Prop
  | .normal, a, w => R a w
  | _, _, _ => False
theorem region_roundR {l n : Nat} {P : Program} {id : Nat} {ops : Array Oper} {Q : Exit → Act → World → Prop} (S : World → Prop) (N : Nat) (ls : Array Bool) {a : Act} {w : World} (hm : P.follows .mixedOrders = true) (hd : noDefer ops = true) (hN : ops.size = N) (hls : Array.replicate N false = ls)
    (h : ∀ R : Act → World → Prop, Hid (∀ a w, Q .normal a w → R a w) → wpAnyH P .any ops (onlyN R) S N ls a w.drew) : (Code.region id ops true).wpIn (Fence.wide.inRound l) n P Q a w := by
  subst hN
  subst hls
  exact wpIn_mono (wpIn_region_any hm (anyIn_round (Q := onlyN (Q .normal)) (noDefer_spec hd) (fun ⟨_, _, h⟩ => h) _ _ _ _ (wpAny_of_held _ _ _ _ (h _ (fun _ _ h => h))))) fun e a w h => by
    cases e <;> first | exact h | exact h.elim
theorem done_R {P : Program} {md : Region.Mode} {ops : Array Oper} {R : Act → World → Prop} {Q : Exit → Act → World → Prop} {S : World → Prop} {listed : Array Bool} {a : Act} {w : World} {fuel : Nat} (HR : Hid (∀ a w, Q .normal a w → R a w)) (hr : Region.ready md ops listed = []) (h : Q .normal a w) :
    wpAnyH P md ops (onlyN R) S fuel listed a w := wpAnyH_done hr (HR.out _ _ h) _
theorem takeR {P : Program} {md : Region.Mode} {ops : Array Oper} {R : Act → World → Prop} {S : World → Prop} {i : Nat} {oi : Oper} {v : Value} {fuel : Nat} {listed : Array Bool} {a : Act} {w : World} (hi : ops[i]? = some oi)
    (hs : Region.noSelect ops = true) (hf : Region.free md ops listed i = true) (hr : (Region.ready md ops listed).contains i = true) (hw : Region.wanted oi (yielded ops a.tmps) = true)
    (hy : ∀ w, S w → (execOp a.eval oi).run P w = .ok (.value v) w) (hS : S w) (h : wpAnyH P md ops (onlyN R) S fuel (listed.setIfInBounds i true) (a.put oi.dst v) w) : wpAnyH P md ops (onlyN R) S (fuel + 1) listed a w :=
  wpAnyH_take hi hs hf hr (fun _ _ _ h => h) (Or.inl ⟨hw, hy⟩) hS h
theorem skipR {P : Program} {md : Region.Mode} {ops : Array Oper} {R : Act → World → Prop} {S : World → Prop} {i : Nat} {oi : Oper} {fuel : Nat} {listed : Array Bool} {a : Act} {w : World} (hi : ops[i]? = some oi)
    (hs : Region.noSelect ops = true) (hf : Region.free md ops listed i = true) (hr : (Region.ready md ops listed).contains i = true) (hw : Region.wanted oi (yielded ops a.tmps) = false)
    (hS : S w) (h : wpAnyH P md ops (onlyN R) S fuel (listed.setIfInBounds i true) (a.put oi.dst undef) w) : wpAnyH P md ops (onlyN R) S (fuel + 1) listed a w :=
  wpAnyH_take hi hs hf hr (fun _ _ _ h => h) (Or.inr ⟨hw, rfl⟩) hS h
end Go.Proofs.YtlcakmbejjlmeaaGreat
/- The map of spots: how many truths have a piece with an owner. It is counted up, and (in this seat) never read again. -/
set_option linter.unusedVariables false
set_option linter.unusedSimpArgs false
namespace Go.Proofs.YtlcakmbejjlmeaaGreat
open Go.RowKit
open Go.Maps (Keyed)

theorem lawSpot_laid : laidOutB Tryz.prog = true := by kernel_rfl
theorem lawSpot_row : (171 : TypeId) < Tryz.prog.types.size := of_decide_eq_true (by kernel_rfl)
theorem lawSpot_cells : Tryz.prog.cellsOf 171 = 2 := by kernel_rfl
theorem lawSpot_cells1 : Tryz.prog.cellsOf 3 = 1 := by kernel_rfl
theorem lawSpot_key : Tryz.prog.keyType 171 = true := by kernel_rfl
theorem lawSpot_wide : (match Tryz.prog.underlying 171 with | some (.array _ _) | some (.struct _) => true | _ => false) = true := by simp only [Tryz.underlying171]
theorem lawSpot_at : Tryz.prog.keyTypeAt 2 171 = true := by kernel_rfl
theorem lawSpot : WideMaps.KeyLaw Tryz.prog 171 := deep_law_laid lawSpot_laid (m := 2) (by omega) lawSpot_row lawSpot_at (by simp only [Tryz.underlying171])
theorem wf_small (a : Int) (ha : 0 ≤ a ∧ a ≤ 1000) : (Lit.int .i64 a).wf = true := by
  have h1 : IntKind.i64.min = -9223372036854775808 := by decide
  have h2 : IntKind.i64.max = 9223372036854775807 := by decide
  simp only [Lit.wf, h1, h2, Bool.and_eq_true, decide_eq_true_eq]
  omega
set_option maxHeartbeats 800000 in
theorem spot_key (a b : Int) (ha : 0 ≤ a ∧ a ≤ 1000) (hb : 0 ≤ b ∧ b ≤ 1000) : ∃ kl, keyOf Tryz.prog 171 (.agg #[.int .i64 a, .int .i64 b]) = some kl := by
  obtain ⟨N, hN⟩ : ∃ N, Tryz.prog.types.size = N := ⟨_, rfl⟩
  have hlt : (171 : Nat) < N := by rw [← hN]; exact lawSpot_row
  obtain ⟨m, rfl⟩ : ∃ m, N = m + 1 := ⟨N - 1, by omega⟩
  have hwa := wf_small a ha
  have hwb := wf_small b hb
  have hf : (Value.agg #[.int .i64 a, .int .i64 b]).formed Tryz.prog 171 = true := by simp [Value.formed, Tryz.underlying171, lawSpot_cells]
  unfold keyOf
  rw [hN]
  simp [Tryz.underlying171, lawSpot_key, hf, Program.keyLits, Value.cells, lawSpot_cells, lawSpot_cells1, Tryz.underlying3, hwa, hwb]
end Go.Proofs.YtlcakmbejjlmeaaGreat
/- Counting up in the map of spots. -/
set_option linter.unusedVariables false
set_option linter.unusedSimpArgs false
namespace Go.Proofs.YtlcakmbejjlmeaaGreat
open Go.RowKit
open Go.Maps (Keyed)
open Go.ChangeMaps (setBlock)

def IsCnt (W : World) (B n : Nat) : Prop := ∃ D : DataW Unit, W.ownsMap Tryz.prog 171 (plainElem Tryz.prog 3) B n D
theorem IsCnt.lt {W : World} {B n : Nat} (h : IsCnt W B n) : B < W.heap.size := by
  obtain ⟨D, es, c, h, _⟩ := h
  exact (Array.getElem?_eq_some_iff.1 h).1
theorem IsCnt.keep {W W' : World} {B n : Nat} (h : IsCnt W B n) (hb : W'.heap[B]? = W.heap[B]?) : IsCnt W' B n := by
  obtain ⟨D, es, c, h, r⟩ := h
  exact ⟨D, es, c, hb.trans h, r⟩
theorem cnt_made (W W' : World) (B : Nat) (hB : B = W.heap.size) (h : W'.heap[B]? = some (.map #[] 0)) : IsCnt W' B 0 := by
  subst hB
  obtain ⟨es, c, h1, r⟩ := World.ownsMap_made (H := Unit) W Tryz.prog 171 (plainElem Tryz.prog 3)
  rw [heap_alloc_new] at h1
  injection h1 with h1
  injection h1 with h1 h2
  subst h1; subst h2
  exact ⟨_, _, _, h, r⟩
theorem zero_int (w : World) : (zeroValue 3).run Tryz.prog w = .ok (.int .i64 0) w := by kernel_rfl
theorem cnt_step {W : World} {B n : Nat} (h : IsCnt W B n) (hn : n < maxLen) (a b : Int) (ha : 0 ≤ a ∧ a ≤ 1000) (hb : 0 ≤ b ∧ b ≤ 1000) :
    ∃ (c : Int) (v0 : Value) (st : Nat) (W1 W2 : World), (Instr.lookup 140 (.map (some B)) (.agg #[.int .i64 a, .int .i64 b]) false).run Tryz.prog W = .ok (.int .i64 c) W ∧
      (Instr.mapEntry 140 (.map (some B)) (.agg #[.int .i64 a, .int .i64 b])).run Tryz.prog W = .ok (.tuple #[v0, goInt st]) W1 ∧
      (Instr.entryStore 140 (.map (some B)) (goInt st) (.int .i64 (IntKind.i64.wrap (c + 1)))).run Tryz.prog W1 = .ok () W2 ∧
      IsCnt W2 B (n + 1) ∧ Kept (fun b => b = B) W W1 ∧ Kept (fun b => b = B) W W2 := by
  obtain ⟨kl, hkl⟩ := spot_key a b ha hb
  obtain ⟨D, hown⟩ := h
  obtain ⟨c, hlk, _, _⟩ := hown.lookup_int (Keyed.of_law lawSpot) Tryz.underlying140 Tryz.underlying3 (zero_int W) hkl
  obtain ⟨W', hup, hown', hg⟩ := hown.update (Keyed.of_law lawSpot) Tryz.underlying140 hn hkl (plainElem_int (H := Unit) Tryz.underlying3 (Go.wf_wrap .i64 (c + 1)))
  obtain ⟨es, clock, hbl, F, hs, hD⟩ := hown
  have hlt := (Array.getElem?_eq_some_iff.1 hbl).1
  obtain ⟨v0, st, es1, clock1, hr1, _, hst⟩ := WideElems.entry_then_store lawSpot Tryz.underlying140 zero_int hbl F hkl
  obtain ⟨es2, clock2, hr2, hup2⟩ := hst (setBlock W B (.map es1 clock1)) (.int .i64 (IntKind.i64.wrap (c + 1))) (ChangeMaps.heap_setBlock_same hbl _)
  rw [hup] at hup2
  injection hup2 with _ hW'
  have h2 : setBlock (setBlock W B (.map es1 clock1)) B (.map es2 clock2) = setBlock W B (.map es2 clock2) := by simp [setBlock]
  have hk : ∀ o, Kept (fun b => b = B) W (setBlock W B o) := fun o => ⟨rfl, rfl, rfl, by simp [setBlock], fun b _ hne => by simp [setBlock, Array.getElem?_setIfInBounds, show B ≠ b from fun e => hne e.symm]⟩
  refine ⟨c, v0, st, _, _, hlk, hr1, hr2, ?_, hk _, ?_⟩
  · rw [h2, ← hW']; exact ⟨_, hown'⟩
  · rw [h2]; exact hk _
end Go.Proofs.YtlcakmbejjlmeaaGreat
/- Appending one element of several cells, as an equation of the run; leaving a function that holds a range over a function. -/
set_option linter.unusedVariables false
set_option linter.unusedSimpArgs false
namespace Go.Proofs.YtlcakmbejjlmeaaGreat
open Go.RowKit

theorem run_app_one {P : Program} {w : World} (t ty e : TypeId) (ht : P.underlying t = some (.slice e)) (z : Value) (bytes : Nat) (cs : Array Value)
    (hinfo : (P.info? e).map (fun i => (i.zero, i.size, i.bytes)) = some (some z, cs.size, bytes)) (hzs : z.cells.size = cs.size) (hsz : 0 < cs.size) (hsz2 : cs.size ≤ 100) (hby : bytes ≤ 100) (h1 : ∀ u ∈ cs.toList, u.oneCell' = true)
    (base : Nat) (v : Value) (n : Nat) (xs : List Value) (hown : w.ownsRow base e cs.size v n xs) (H : Nat) (hH : w.heap[H]? = some (.cells cs e (0, 0))) (hbase : base ≤ w.heap.size) (hl : n ≤ 1000000) :
    ∃ g cap w', (Builtin.append_ #[t, t] ty #[v, .slice (some ⟨H, 0, none⟩) 1 1]).run P w = .ok (.slice (some ⟨g, 0, none⟩) (n + 1) cap) w' ∧ w'.ownsRow base e cs.size (.slice (some ⟨g, 0, none⟩) (n + 1) cap) (n + 1) (xs ++ cs.toList) ∧ w.grownBy w' v.ownBlock ∧ (v.ownBlock = some g ∨ w.heap.size ≤ g) := by
  obtain ⟨i0, hi, hzz⟩ := Option.map_eq_some_iff.1 hinfo
  simp only [Prod.mk.injEq] at hzz
  obtain ⟨hz0, hz1, hz2⟩ := hzz
  have hcells : ∀ j u, (cs.toList)[j]? = some u → w.cell? ((⟨H, 0, none⟩ : Addr).add j) = some u := by
    intro j u hu
    have ha : (⟨H, 0, none⟩ : Addr).add j = ⟨H, j, none⟩ := by unfold Addr.add; split <;> simp_all
    rw [ha, blk_cell hH j]
    simpa using hu
  obtain ⟨v1, w1, hr, h2, h3, _, h5⟩ := run_append_own_at (P := P) w base t ty e i0 z cs.size bytes ht hi hz0 hz1 hz2 hzs hsz v n xs hown ⟨H, 0, none⟩ 1 1 cs.toList (by simp) hcells h1
    (by simp only [maxLen]; omega) (Nat.le_trans (Nat.mul_le_mul (by omega : n + 1 ≤ 1000001) hby) (by decide)) hbase
  rcases h2.2 with ⟨rfl, h0⟩ | ⟨g, cap, cur, rfl, _⟩
  · omega
  · refine ⟨g, cap, w1, hr, h2, h3, ?_⟩
    have e : (Value.slice (some ⟨g, 0, none⟩) (n + 1) cap).ownBlock = some g := rfl
    rw [e] at h5
    rcases h5 with h5 | h5
    · exact .inl h5.symm
    · injection h5 with h5; exact .inr (by omega)

theorem step_run_app {P : Program} {ops : Array Oper} {o : Oper} {a : Act} {K : Act → World → Prop} {Q : Exit → Act → World → Prop} {E : Prop} {w w1 : World} {v0 v1 v2 : Value} (hgd : o.guard = none) (s x : Operand) (t : TypeId)
    (ho : o.op = .call { callee := .builtin .append, args := #[s, x], argTypes := #[t, t] }) (hs : a.eval s = v0) (hx : a.eval x = v2) (hr : (Builtin.append_ #[t, t] o.type #[v0, v2]).run P w = .ok v1 w1) (h : K (a.put o.dst v1) w1) :
    if Region.wanted o (yielded ops a.tmps) = true then Oper.wp P o a w K Q else E := by
  have hw : Region.wanted o (yielded ops a.tmps) = true := by simp [Region.wanted, hgd]
  rw [if_pos hw]
  unfold Oper.wp execOp
  simp only [ho, resolve, invoke, builtin, Sem.run_bind, Sem.run_pure, Result.andThen_ok, List.map_toArray, List.map_cons, List.map_nil, hs, hx, hr]
  exact h

theorem leaves_nil {F : Fence} {n : Nat} {P : Program} {fn : Func} {tmps : Array Value} {R : Ending → World → Prop} {w : World} {v : Value} (hr : (results fn tmps).run P w = .ok v w) (hR : R (.returned v) w) : LeavesInM F n P fn tmps R [] .returning w := by
  show LeavesIn F n P fn tmps R [] .returning w
  exact ⟨v, hr, hR⟩
theorem leaves_mark {F : Fence} {n : Nat} {P : Program} {fn : Func} {tmps : Array Value} {R : Ending → World → Prop} {w : World} {v : Value} {B : Nat} (hk : w.heap[B]? = some (.deferred (some [])))
    (hr : (results fn tmps).run P (w.putObj B (.deferred none)) = .ok v (w.putObj B (.deferred none))) (hR : R (.returned v) (w.putObj B (.deferred none))) : LeavesInM F n P fn tmps R [{ target := .collected B, args := #[] }] .returning w := by
  refine ⟨by simp, .inl ⟨_, _, rfl, run_takeDeferred hk, ?_⟩⟩
  exact leaves_nil hr hR
end Go.Proofs.YtlcakmbejjlmeaaGreat
/- How many lists of owners there are, and what they are. -/
set_option linter.unusedVariables false
set_option linter.unusedSimpArgs false
namespace Go.Proofs.YtlcakmbejjlmeaaGreat
open Go.RowKit

def prodK (C : Nat → List Int) : Nat → Nat → Nat
  | 0, _ => 1
  | f + 1, p => (C p).length * prodK C f (p + 1)
theorem prodK_succ (C : Nat → List Int) : ∀ f p, prodK C (f + 1) p = prodK C f p * (C (p + f)).length
  | 0, p => by simp [prodK]
  | f + 1, p => by
    rw [prodK, prodK_succ C f (p + 1), ← Nat.mul_assoc]
    rw [show p + 1 + f = p + (f + 1) from by omega]
    rfl
theorem length_flatMap_const {α β : Type} (g : α → List β) (k : Nat) : ∀ (l : List α), (∀ x ∈ l, (g x).length = k) → (l.flatMap g).length = l.length * k
  | [], _ => by simp
  | x :: l, h => by
    rw [List.flatMap_cons, List.length_append, length_flatMap_const g k l (fun y hy => h y (List.mem_cons_of_mem _ hy)), h x (List.mem_cons_self ..), List.length_cons, Nat.succ_mul]
    omega
theorem listsFrom_len (C : Nat → List Int) : ∀ f p o, (listsFrom C f p o).length = prodK C f p
  | 0, p, o => rfl
  | f + 1, p, o => by
    rw [listsFrom, prodK]
    exact length_flatMap_const _ _ _ fun x _ => listsFrom_len C f (p + 1) (upd o p x)
theorem manyK_prod (women : List Wom) (pieces : List Pce) : ∀ k, manyK women pieces k = (prodK (fun i => ofF women (pMs pieces i)) k 0 : Int) ∨ (manyK women pieces k = 2001 ∧ 2001 ≤ prodK (fun i => ofF women (pMs pieces i)) k 0)
  | 0 => .inl rfl
  | k + 1 => by
    have ih := manyK_prod women pieces k
    rw [prodK_succ, Nat.zero_add]
    rw [manyK]
    obtain ⟨c, hc⟩ : ∃ c, (ofF women (pMs pieces k)).length = c := ⟨_, rfl⟩
    obtain ⟨q, hq⟩ : ∃ q, prodK (fun i => ofF women (pMs pieces i)) k 0 = q := ⟨_, rfl⟩
    rw [hc]
    rw [hq] at ih ⊢
    obtain ⟨r, hr⟩ : ∃ r, q * c = r := ⟨_, rfl⟩
    rw [hr]
    rcases ih with h | ⟨h, h2⟩
    · have hm : manyK women pieces k * (c : Int) = (r : Int) := by rw [h, ← hr]; simp
      rw [hm]
      omega
    · rw [h]
      rcases Nat.eq_zero_or_pos c with h0 | h0
      · subst h0
        have : r = 0 := by rw [← hr]; simp
        left
        subst this
        decide
      · right
        have h3 : q ≤ r := by rw [← hr]; exact Nat.le_mul_of_pos_right q h0
        refine ⟨?_, by omega⟩
        have : (2001 : Int) * c ≥ 2001 := by omega
        omega
theorem listsF_len {women : List Wom} {pieces : List Pce} {wrong : Int} (h : tabFault women pieces wrong = 0) : (listsF women pieces).length ≤ 2000 := by
  rw [listsF, listsFrom_len]
  rw [tabFault] at h
  split at h
  · simp at h
  · split at h
    · split at h
      · simp at h
      · rename_i h'
        rcases manyK_prod women pieces pieces.length with h1 | ⟨h1, _⟩
        · omega
        · omega
    · simp at h
theorem listsFrom_mem (C : Nat → List Int) (P : Nat → Int → Prop) (hC : ∀ i x, x ∈ C i → P i x) : ∀ f p o, (∀ i, i < p → P i (o i)) → ∀ y ∈ listsFrom C f p o, ∀ i, i < p + f → P i (y i)
  | 0, p, o, h, y, hy, i, hi => by
    rw [listsFrom, List.mem_singleton] at hy
    subst hy
    exact h i (by omega)
  | f + 1, p, o, h, y, hy, i, hi => by
    rw [listsFrom, List.mem_flatMap] at hy
    obtain ⟨x, hx, hy⟩ := hy
    refine listsFrom_mem C P hC f (p + 1) (upd o p x) (fun j hj => ?_) y hy i (by omega)
    by_cases e : j = p
    · subst e; simp only [upd, if_pos]; exact hC j x hx
    · simp only [upd, if_neg e]; exact h j (by omega)
theorem ofF_mem {women : List Wom} {marks : List Int} {x : Int} (h : x ∈ ofF women marks) : 0 ≤ x ∧ x < women.length := by
  rw [ofF, ofK, List.mem_map] at h
  obtain ⟨i, hi, rfl⟩ := h
  have := List.mem_range.1 (List.mem_filter.1 hi).1
  omega
theorem listsF_mem {women : List Wom} {pieces : List Pce} {y : Nat → Int} (h : y ∈ listsF women pieces) : ∀ i, i < pieces.length → 0 ≤ y i ∧ y i < women.length := fun i hi =>
  listsFrom_mem (fun i => ofF women (pMs pieces i)) (fun _ x => 0 ≤ x ∧ x < women.length) (fun i x hx => ofF_mem hx) pieces.length 0 (fun _ => 0) (fun i hi => absurd hi (Nat.not_lt_zero i)) y h i (by omega)
theorem prefix_mem {α : Type} {pre xs : List α} {x : α} (h : (pre ++ [x]) <+: xs) : x ∈ xs := by
  obtain ⟨t, rfl⟩ := h
  simp

def ownRow (o : Nat → Int) : List Value := [.int .i64 (o 0), .int .i64 (o 1), .int .i64 (o 2), .int .i64 (o 3), .int .i64 (o 4), .int .i64 (o 5), .int .i64 (o 6)]
/-- The cells of a list of owners. -/
def ownCells (os : List (Nat → Int)) : List Value := os.flatMap ownRow
theorem ownCells_append (os : List (Nat → Int)) (o : Nat → Int) : ownCells (os ++ [o]) = ownCells os ++ ownRow o := by simp [ownCells]
theorem ownCells_at : ∀ (os : List (Nat → Int)) (i j : Nat), i < os.length → j < 7 → (ownCells os)[i * 7 + j]? = some (.int .i64 (ow os i j))
  | [], i, j, hi, _ => absurd hi (Nat.not_lt_zero i)
  | o :: os, 0, j, _, hj => by
    have : j = 0 ∨ j = 1 ∨ j = 2 ∨ j = 3 ∨ j = 4 ∨ j = 5 ∨ j = 6 := by omega
    rcases this with rfl | rfl | rfl | rfl | rfl | rfl | rfl <;> simp [ownCells, ownRow, ow]
  | o :: os, i + 1, j, hi, hj => by
    have ih := ownCells_at os i j (by simpa using hi) hj
    have h1 : ownCells (o :: os) = ownRow o ++ ownCells os := by simp [ownCells]
    rw [h1, List.getElem?_append_right (by simp [ownRow]; omega)]
    have h2 : (i + 1) * 7 + j - (ownRow o).length = i * 7 + j := by simp [ownRow]; omega
    rw [h2, ih]
    simp [ow]
theorem own_owns {W : World} {base : Nat} {v : Value} {os : List (Nat → Int)} {n : Nat} (hn : os.length = n) (h : W.ownsRow base 136 7 v n (ownCells os)) (hl : n ≤ 1000000) : IsOwns W v os := by
  subst hn
  obtain ⟨h1, h2⟩ := h
  refine ⟨hl, ?_⟩
  rcases h2 with ⟨rfl, h0⟩ | ⟨g, cap, cur, rfl, hg, hc, hcap, hmax, hsz, htk⟩
  · exact ⟨none, 0, by rw [h0], fun h => by omega⟩
  · refine ⟨_, cap, rfl, fun _ => ⟨g, 0, rfl, fun i hi j hj => ?_⟩⟩
    have h3 := ownCells_at os i j hi hj
    rw [← htk, List.getElem?_take_of_lt (by omega)] at h3
    rw [blk_cell hc, Nat.zero_add]
    simpa using h3
end Go.Proofs.YtlcakmbejjlmeaaGreat
/- Plain lemmas on the references: the owners with a number are those that the iterator yields with that number. -/
set_option linter.unusedVariables false
set_option linter.unusedSimpArgs false
namespace Go.Proofs.YtlcakmbejjlmeaaGreat
open Go.RowKit

theorem prodK_add (C : Nat → List Int) : ∀ a b p, prodK C (a + b) p = prodK C a p * prodK C b (p + a)
  | 0, b, p => by simp [prodK]
  | a + 1, b, p => by
    rw [show a + 1 + b = (a + b) + 1 from by omega, prodK, prodK_add C a b (p + 1), prodK, Nat.mul_assoc]
    rw [show p + 1 + a = p + (a + 1) from by omega]
theorem flatMap_const_at {α β : Type} (g : α → List β) (k : Nat) : ∀ (l : List α) (j : Nat), (∀ x ∈ l, (g x).length = k) → (hj : j < l.length * k) → ∃ h : j / k < l.length, (l.flatMap g)[j]? = (g (l[j / k]'h))[j % k]?
  | [], j, _, hj => by simp at hj
  | x :: l, j, h, hj => by
    have hk : 0 < k := by
      rcases Nat.eq_zero_or_pos k with h0 | h0
      · subst h0; simp at hj
      · exact h0
    have hx := h x (List.mem_cons_self ..)
    rw [List.length_cons, Nat.succ_mul] at hj
    by_cases hlt : j < k
    · refine ⟨by rw [Nat.div_eq_of_lt hlt]; simp, ?_⟩
      rw [List.flatMap_cons, List.getElem?_append_left (by omega)]
      simp only [Nat.div_eq_of_lt hlt, Nat.mod_eq_of_lt hlt, List.getElem_cons_zero]
    · have hge : k ≤ j := Nat.le_of_not_lt hlt
      obtain ⟨h1, h2⟩ := flatMap_const_at g k l (j - k) (fun y hy => h y (List.mem_cons_of_mem _ hy)) (by omega)
      have e1 : j / k = (j - k) / k + 1 := by rw [Nat.div_eq_sub_div hk hge]
      have e2 : j % k = (j - k) % k := Nat.mod_eq_sub_mod hge
      refine ⟨by rw [e1, List.length_cons]; omega, ?_⟩
      rw [List.flatMap_cons, List.getElem?_append_right (by omega), hx, h2, e2]
      simp only [e1, List.getElem_cons_succ]
/-- The owners with a number. -/
def nthO (C : Nat → List Int) (pn j : Nat) : Nat → Int := fun i => if i < pn then at0 (C i) ((j / prodK C (pn - 1 - i) (i + 1)) % (C i).length) else 0
theorem listsFrom_at (C : Nat → List Int) : ∀ f p o j, j < prodK C f p → (listsFrom C f p o)[j]? = some (fun i => if p ≤ i ∧ i < p + f then at0 (C i) ((j / prodK C (p + f - 1 - i) (i + 1)) % (C i).length) else o i)
  | 0, p, o, j, hj => by
    obtain rfl : j = 0 := by simp [prodK] at hj; exact hj
    rw [listsFrom]
    simp only [List.getElem?_cons_zero, Option.some.injEq]
    funext i
    rw [if_neg (by omega)]
  | f + 1, p, o, j, hj => by
    rw [listsFrom]
    rw [prodK] at hj
    obtain ⟨h1, h2⟩ := flatMap_const_at (fun x => listsFrom C f (p + 1) (upd o p x)) (prodK C f (p + 1)) (C p) j (fun x _ => listsFrom_len C f (p + 1) (upd o p x)) hj
    have hQ : 0 < prodK C f (p + 1) := by
      rcases Nat.eq_zero_or_pos (prodK C f (p + 1)) with h0 | h0
      · rw [h0] at hj; simp at hj
      · exact h0
    rw [h2, listsFrom_at C f (p + 1) _ _ (Nat.mod_lt _ hQ)]
    simp only [Option.some.injEq]
    funext i
    by_cases hi : p + 1 ≤ i ∧ i < p + 1 + f
    · rw [if_pos hi, if_pos (by omega)]
      congr 1
      obtain ⟨a, ha⟩ : ∃ a, i = p + 1 + a := ⟨i - (p + 1), by omega⟩
      obtain ⟨b, hb⟩ : ∃ b, f = a + (b + 1) := ⟨f - a - 1, by omega⟩
      have e1 : p + 1 + f - 1 - i = b := by omega
      have e2 : p + (f + 1) - 1 - i = b := by omega
      rw [e1, e2]
      have e3 : prodK C f (p + 1) = prodK C a (p + 1) * ((C i).length * prodK C b (i + 1)) := by
        rw [hb, prodK_add, ← ha]; rfl
      have e4 : prodK C b (i + 1) * (C i).length ∣ prodK C f (p + 1) := ⟨prodK C a (p + 1), by rw [e3, Nat.mul_comm, Nat.mul_comm (C i).length]⟩
      rw [← Nat.mod_mul_right_div_self, ← Nat.mod_mul_right_div_self, Nat.mod_mod_of_dvd _ e4]
    · rw [if_neg hi]
      by_cases hip : i = p
      · subst hip
        rw [if_pos (by omega), upd, if_pos rfl]
        have e1 : i + (f + 1) - 1 - i = f := by omega
        rw [e1, Nat.mod_eq_of_lt h1]
        simp [at0, List.getD_eq_getElem?_getD, List.getElem?_eq_getElem h1]
      · rw [if_neg (by omega), upd, if_neg hip]
theorem listsFrom_nth (C : Nat → List Int) (pn : Nat) : listsFrom C pn 0 (fun _ => 0) = (List.range (prodK C pn 0)).map (nthO C pn) := by
  apply List.ext_getElem?
  intro j
  by_cases hj : j < prodK C pn 0
  · rw [listsFrom_at C pn 0 _ j hj]
    rw [List.getElem?_map, List.getElem?_range hj, Option.map_some]
    congr 1
    funext i
    simp [nthO]
  · rw [List.getElem?_eq_none (by rw [listsFrom_len]; omega), List.getElem?_eq_none (by simp; omega)]
/-- What is left of a number behind the last k pieces. -/
def remN (C : Nat → List Int) (pn n : Nat) : Nat → Nat
  | 0 => n
  | k + 1 => remN C pn n k / (C (pn - 1 - k)).length
theorem remN_eq (C : Nat → List Int) (pn n : Nat) : ∀ k, k ≤ pn → remN C pn n k = n / prodK C k (pn - k)
  | 0, _ => by simp [remN, prodK]
  | k + 1, h => by
    rw [remN, remN_eq C pn n k (by omega), Nat.div_div_eq_div_mul]
    have e : pn - k = pn - (k + 1) + 1 := by omega
    rw [prodK, ← e, Nat.mul_comm]
    rw [show pn - 1 - k = pn - (k + 1) from by omega]
theorem nthO_rem (C : Nat → List Int) (pn n i : Nat) (h : i < pn) : nthO C pn n i = at0 (C i) (remN C pn n (pn - 1 - i) % (C i).length) := by
  rw [nthO, if_pos h, remN_eq C pn n _ (by omega)]
  rw [show pn - (pn - 1 - i) = i + 1 from by omega]

/-- How many owners there are, as the reference counts them. -/
def manyR (women : List Wom) (pieces : List Pce) : Nat → Int
  | 0 => 1
  | k + 1 => min 3000 (manyR women pieces k * ((ofF women (pMs pieces k)).length : Int))
theorem manyR_bd (women : List Wom) (pieces : List Pce) : ∀ k, 0 ≤ manyR women pieces k ∧ manyR women pieces k ≤ 3000
  | 0 => by simp [manyR]
  | k + 1 => by
    have ih := manyR_bd women pieces k
    have := Int.mul_nonneg ih.1 (Int.natCast_nonneg (ofF women (pMs pieces k)).length)
    simp only [manyR]
    omega
theorem manyR_K (women : List Wom) (pieces : List Pce) : ∀ k, (manyR women pieces k = manyK women pieces k ∧ manyK women pieces k ≤ 2000) ∨ (2000 < manyR women pieces k ∧ manyK women pieces k = 2001)
  | 0 => by simp [manyR, manyK]
  | k + 1 => by
    have ih := manyR_K women pieces k
    have hb := manyR_bd women pieces k
    rw [manyR, manyK]
    obtain ⟨c, hc⟩ : ∃ c, (ofF women (pMs pieces k)).length = c := ⟨_, rfl⟩
    rw [hc]
    rcases ih with ⟨h1, h2⟩ | ⟨h1, h2⟩
    · rw [h1]; omega
    · rw [h2]
      rcases Nat.eq_zero_or_pos c with h0 | h0
      · subst h0; left; simp; omega
      · right
        have : manyR women pieces k * 1 ≤ manyR women pieces k * (c : Int) := Int.mul_le_mul_of_nonneg_left (by omega) hb.1
        have h3 : (2001 : Int) * 1 ≤ 2001 * (c : Int) := Int.mul_le_mul_of_nonneg_left (by omega) (by decide)
        omega
theorem manyR_gt (women : List Wom) (pieces : List Pce) (k : Nat) : 2000 < manyR women pieces k ↔ 2000 < manyK women pieces k := by
  have := manyR_K women pieces k; omega
end Go.Proofs.YtlcakmbejjlmeaaGreat
/- Equality of two arrays of whole numbers; lists of owners are distinct. -/
set_option linter.unusedVariables false
set_option linter.unusedSimpArgs false
namespace Go.Proofs.YtlcakmbejjlmeaaGreat
open Go.RowKit

theorem plain3 : Tryz.prog.plainKey 3 = true := by kernel_rfl
theorem info3 : ∃ i, Tryz.prog.info? 3 = some i := by
  have h := info_int
  cases hi : Tryz.prog.info? 3 with
  | none => rw [hi] at h; simp at h
  | some i => exact ⟨i, rfl⟩
theorem eqItems_ints {w : World} (d : Nat) (xs ys : Array Value) (f g : Nat → Int) : ∀ (is : List Nat), (∀ i ∈ is, xs[i]? = some (.int .i64 (f i))) → (∀ i ∈ is, ys[i]? = some (.int .i64 (g i))) →
    (Op.eqItems (d + 1) 3 (Tryz.prog.cellsOf 3) xs ys is).run Tryz.prog w = .ok (decide (∀ i ∈ is, f i = g i)) w
  | [], _, _ => by simp [Op.eqItems]
  | i :: is, hx, hy => by
    have ih := eqItems_ints (w := w) d xs ys f g is (fun j h => hx j (List.mem_cons_of_mem _ h)) (fun j h => hy j (List.mem_cons_of_mem _ h))
    have h1 := run_part_plain (w := w) plain3 (hx i (List.mem_cons_self ..))
    have h2 := run_part_plain (w := w) plain3 (hy i (List.mem_cons_self ..))
    rw [lawSpot_cells1] at ih ⊢
    simp only [Op.eqItems, Sem.run_bind, Nat.mul_one, h1, h2, Result.andThen_ok, run_equalIn_int w d 3 .i64 .i64 (f i) (g i) Tryz.underlying3]
    by_cases h : f i = g i
    · simp [h, ih]
    · simp [h]
theorem eq7 (y x : Nat → Int) (w : World) : (Op.equalIn 10000 136 (.agg #[.int .i64 (y 0), .int .i64 (y 1), .int .i64 (y 2), .int .i64 (y 3), .int .i64 (y 4), .int .i64 (y 5), .int .i64 (y 6)]) (.agg #[.int .i64 (x 0), .int .i64 (x 1), .int .i64 (x 2), .int .i64 (x 3), .int .i64 (x 4), .int .i64 (x 5), .int .i64 (x 6)])).run Tryz.prog w = .ok (decide (∀ i ∈ List.range 7, y i = x i)) w := by
  obtain ⟨i, hi⟩ := info3
  rw [show (10000 : Nat) = 9998 + 1 + 1 from rfl, run_equalIn_array w (9998 + 1) _ _ Tryz.underlying136 hi]
  exact eqItems_ints 9998 _ _ y x _ (fun i hi => m7_at y i (List.mem_range.1 hi)) (fun i hi => m7_at x i (List.mem_range.1 hi))
theorem eq10 (y x : Nat → Int) (w : World) : (Op.equalIn 10000 108 (.agg #[.int .i64 (y 0), .int .i64 (y 1), .int .i64 (y 2), .int .i64 (y 3), .int .i64 (y 4), .int .i64 (y 5), .int .i64 (y 6), .int .i64 (y 7), .int .i64 (y 8), .int .i64 (y 9)]) (.agg #[.int .i64 (x 0), .int .i64 (x 1), .int .i64 (x 2), .int .i64 (x 3), .int .i64 (x 4), .int .i64 (x 5), .int .i64 (x 6), .int .i64 (x 7), .int .i64 (x 8), .int .i64 (x 9)])).run Tryz.prog w = .ok (decide (∀ i ∈ List.range 10, y i = x i)) w := by
  obtain ⟨i, hi⟩ := info3
  rw [show (10000 : Nat) = 9998 + 1 + 1 from rfl, run_equalIn_array w (9998 + 1) _ _ Tryz.underlying108 hi]
  exact eqItems_ints 9998 _ _ y x _ (fun i hi => m10_at y i (List.mem_range.1 hi)) (fun i hi => m10_at x i (List.mem_range.1 hi))

theorem listsFrom_same (C : Nat → List Int) : ∀ f p o, ∀ y ∈ listsFrom C f p o, ∀ i, i < p → y i = o i
  | 0, p, o, y, hy, i, hi => by
    rw [listsFrom, List.mem_singleton] at hy
    rw [hy]
  | f + 1, p, o, y, hy, i, hi => by
    rw [listsFrom, List.mem_flatMap] at hy
    obtain ⟨x, hx, hy⟩ := hy
    rw [listsFrom_same C f (p + 1) _ y hy i (by omega)]
    simp only [upd, if_neg (by omega : i ≠ p)]
theorem listsFrom_apart (C : Nat → List Int) (hC : ∀ i, (C i).Nodup) : ∀ f p o, (listsFrom C f p o).Pairwise fun a b => ∃ i, i < p + f ∧ a i ≠ b i
  | 0, p, o => List.pairwise_singleton _ _
  | f + 1, p, o => by
    rw [listsFrom, List.pairwise_flatMap]
    refine ⟨fun x _ => (listsFrom_apart C hC f (p + 1) _).imp fun ⟨i, h1, h2⟩ => ⟨i, by omega, h2⟩, (hC p).imp fun {a b} hab y hy z hz => ⟨p, by omega, ?_⟩⟩
    rw [listsFrom_same C f (p + 1) _ y hy p (by omega), listsFrom_same C f (p + 1) _ z hz p (by omega)]
    simpa only [upd, if_pos] using hab
theorem ofF_nodup (women : List Wom) (marks : List Int) : (ofF women marks).Nodup := by
  rw [ofF, ofK]
  refine List.Pairwise.map _ (R := fun a b : Nat => a ≠ b) ?_ (List.Pairwise.filter _ List.nodup_range)
  intro a b h e
  exact h (by omega)
theorem listsF_apart (women : List Wom) (pieces : List Pce) : (listsF women pieces).Pairwise fun a b => ∃ i, i < pieces.length ∧ a i ≠ b i :=
  (listsFrom_apart _ (fun i => ofF_nodup women (pMs pieces i)) pieces.length 0 _).imp fun ⟨i, h1, h2⟩ => ⟨i, by omega, h2⟩
theorem pre_apart {women : List Wom} {pieces : List Pce} {pre : List (Nat → Int)} {x : Nat → Int} (h : (pre ++ [x]) <+: listsF women pieces) (P : (Nat → Int) → Bool) {k : Nat} (hk : k < (pre.filter P).length) (hp : pieces.length ≤ 7) :
    decide (∀ i ∈ List.range 7, ow (pre.filter P) k i = x i) = false := by
  have h1 := (List.pairwise_append.1 ((listsF_apart women pieces).sublist h.sublist)).2.2
  have h2 : ow (pre.filter P) k ∈ pre := by
    have : ow (pre.filter P) k = (pre.filter P)[k] := by simp [ow, List.getD_eq_getElem?_getD, List.getElem?_eq_getElem hk]
    rw [this]
    exact (List.mem_filter.1 (List.getElem_mem hk)).1
  obtain ⟨i, h3, h4⟩ := h1 _ h2 x (List.mem_singleton.2 rfl)
  exact decide_eq_false fun h => h4 (h i (List.mem_range.2 (by omega)))
end Go.Proofs.YtlcakmbejjlmeaaGreat
/- Counting up in the map of spots, whichever of the look-up and the entry comes first. -/
set_option linter.unusedVariables false
set_option linter.unusedSimpArgs false
namespace Go.Proofs.YtlcakmbejjlmeaaGreat
open Go.RowKit
open Go.Maps (Keyed)
open Go.ChangeMaps (setBlock)

theorem entry_cnt {W : World} {B n : Nat} (h : IsCnt W B n) (hn : n < maxLen) {key : Value} {kl : Lit} (hkl : keyOf Tryz.prog 171 key = some kl) :
    ∃ (v0 : Value) (st : Nat) (es1 : Array MapEntry) (clock1 : Nat), (Instr.mapEntry 140 (.map (some B)) key).run Tryz.prog W = .ok (.tuple #[v0, goInt st]) (setBlock W B (.map es1 clock1)) ∧
      (∃ m, IsCnt (setBlock W B (.map es1 clock1)) B m) ∧
      ∀ (w2 : World) (val : Value), w2.heap[B]? = some (.map es1 clock1) → ∃ es' clock', (Instr.entryStore 140 (.map (some B)) (goInt st) val).run Tryz.prog w2 = .ok () (setBlock w2 B (.map es' clock')) ∧
        (Instr.mapUpdate 140 (.map (some B)) key val).run Tryz.prog W = .ok () (setBlock W B (.map es' clock')) := by
  obtain ⟨D, hown⟩ := h
  obtain ⟨W', hup, hown', hg⟩ := hown.update (Keyed.of_law lawSpot) Tryz.underlying140 hn hkl (plainElem_int (H := Unit) Tryz.underlying3 (show (Lit.int .i64 0).wf = true from by decide))
  obtain ⟨es, clock, hbl, F, hs, hD⟩ := id hown
  obtain ⟨v0, st, es1, clock1, hr1, hor, hst⟩ := WideElems.entry_then_store lawSpot Tryz.underlying140 zero_int hbl F hkl
  refine ⟨v0, st, es1, clock1, hr1, ?_, hst⟩
  rcases lawSpot.find W hkl es.toList F.keys with ⟨h1, h2⟩ | ⟨j, e0, h1, h2, h3⟩
  · have ha : (Instr.mapEntry 140 (.map (some B)) key).run Tryz.prog W = .ok (.tuple #[.int .i64 0, goInt clock]) (setBlock W B (.map (es.push ⟨key, .int .i64 0, clock⟩) (clock + 1))) := by
      simp [Instr.mapEntry, run_underlying Tryz.underlying140, MapKept.run_getObj_map hbl, lawSpot.check W false hkl, h1, zero_int, MapKept.run_setObj_map _ hbl, Result.andThen, setBlock]
    have hb : (Instr.mapUpdate 140 (.map (some B)) key (.int .i64 0)).run Tryz.prog W = .ok () (setBlock W B (.map (es.push ⟨key, .int .i64 0, clock⟩) (clock + 1))) := by
      simp [Instr.mapUpdate, run_underlying Tryz.underlying140, MapKept.run_getObj_map hbl, lawSpot.check W false hkl, h1, MapKept.run_setObj_map _ hbl, Result.andThen, setBlock]
    rw [ha] at hr1
    injection hr1 with _ hw
    rw [hb] at hup
    injection hup with _ hw'
    exact ⟨n + 1, _, by rw [← hw, hw']; exact hown'⟩
  · have hj : es[j]? = some e0 := by simpa using h2
    have hsame : es.modify j (fun e => { e with key := key }) = es := by
      apply Array.ext_getElem?
      intro i
      rw [Array.getElem?_modify]
      split
      · rename_i hij
        subst hij
        rw [hj]
        simp only [Option.map_some, Option.some.injEq]
        rw [← h3]
      · rfl
    have ha : (Instr.mapEntry 140 (.map (some B)) key).run Tryz.prog W = .ok (.tuple #[e0.val, goInt e0.born]) (setBlock W B (.map es clock)) := by
      simp [Instr.mapEntry, run_underlying Tryz.underlying140, MapKept.run_getObj_map hbl, lawSpot.check W false hkl, h1, hj, h3, lawSpot.stays W hkl, hsame, MapKept.run_setObj_map _ hbl, Result.andThen, setBlock]
    rw [ha] at hr1
    injection hr1 with _ hw
    refine ⟨n, ?_⟩
    rw [← hw]
    exact IsCnt.keep ⟨D, hown⟩ ((ChangeMaps.heap_setBlock_same hbl _).trans hbl.symm)
theorem cnt_step2 {W : World} {B n : Nat} (h : IsCnt W B n) (hn : n < maxLen) (a b : Int) (ha : 0 ≤ a ∧ a ≤ 1000) (hb : 0 ≤ b ∧ b ≤ 1000) :
    ∃ (c c2 : Int) (v0 : Value) (st : Nat) (W1 W2 W3 : World), (Instr.lookup 140 (.map (some B)) (.agg #[.int .i64 a, .int .i64 b]) false).run Tryz.prog W = .ok (.int .i64 c) W ∧
      (Instr.lookup 140 (.map (some B)) (.agg #[.int .i64 a, .int .i64 b]) false).run Tryz.prog W1 = .ok (.int .i64 c2) W1 ∧
      (Instr.mapEntry 140 (.map (some B)) (.agg #[.int .i64 a, .int .i64 b])).run Tryz.prog W = .ok (.tuple #[v0, .int .i64 (st : Int)]) W1 ∧
      (Instr.entryStore 140 (.map (some B)) (.int .i64 (st : Int)) (.int .i64 (IntKind.i64.wrap (c + 1)))).run Tryz.prog W1 = .ok () W2 ∧
      (Instr.entryStore 140 (.map (some B)) (.int .i64 (st : Int)) (.int .i64 (IntKind.i64.wrap (c2 + 1)))).run Tryz.prog W1 = .ok () W3 ∧
      IsCnt W2 B (n + 1) ∧ IsCnt W3 B (n + 1) ∧ Kept (fun b => b = B) W W1 ∧ Kept (fun b => b = B) W W2 ∧ Kept (fun b => b = B) W W3 := by
  obtain ⟨kl, hkl⟩ := spot_key a b ha hb
  obtain ⟨v0, st, es1, clock1, hr1, ⟨m, hm⟩, hst⟩ := entry_cnt h hn hkl
  obtain ⟨D, hown⟩ := h
  obtain ⟨c, hlk, _, _⟩ := hown.lookup_int (Keyed.of_law lawSpot) Tryz.underlying140 Tryz.underlying3 (zero_int W) hkl
  obtain ⟨D', hown1⟩ := hm
  obtain ⟨c2, hlk2, _, _⟩ := hown1.lookup_int (Keyed.of_law lawSpot) Tryz.underlying140 Tryz.underlying3 (zero_int _) hkl
  have hbl : ∃ es clock, W.heap[B]? = some (.map es clock) := let ⟨es, clock, h, _⟩ := hown; ⟨es, clock, h⟩
  obtain ⟨es, clock, hbl⟩ := hbl
  have hk : ∀ o, Kept (fun b => b = B) W (setBlock W B o) := fun o => ⟨rfl, rfl, rfl, by simp [setBlock], fun b _ hne => by simp [setBlock, Array.getElem?_setIfInBounds, show B ≠ b from fun e => hne e.symm]⟩
  have fin : ∀ x : Int, ∃ W2, (Instr.entryStore 140 (.map (some B)) (goInt st) (.int .i64 (IntKind.i64.wrap (x + 1)))).run Tryz.prog (setBlock W B (.map es1 clock1)) = .ok () W2 ∧ IsCnt W2 B (n + 1) ∧ Kept (fun b => b = B) W W2 := fun x => by
    obtain ⟨W', hup, hown', hg⟩ := hown.update (Keyed.of_law lawSpot) Tryz.underlying140 hn hkl (plainElem_int (H := Unit) Tryz.underlying3 (Go.wf_wrap .i64 (x + 1)))
    obtain ⟨es2, clock2, hr2, hup2⟩ := hst (setBlock W B (.map es1 clock1)) (.int .i64 (IntKind.i64.wrap (x + 1))) (ChangeMaps.heap_setBlock_same hbl _)
    rw [hup] at hup2
    injection hup2 with _ hW'
    have h2 : setBlock (setBlock W B (.map es1 clock1)) B (.map es2 clock2) = setBlock W B (.map es2 clock2) := by simp [setBlock]
    refine ⟨_, hr2, ?_, ?_⟩
    · rw [h2, ← hW']; exact ⟨_, hown'⟩
    · rw [h2]; exact hk _
  obtain ⟨W2, e2, c2', k2⟩ := fin c
  obtain ⟨W3, e3, c3', k3⟩ := fin c2
  exact ⟨c, c2, v0, st, _, W2, W3, hlk, hlk2, hr1, e2, e3, c2', c3', hk _, k2, k3⟩
end Go.Proofs.YtlcakmbejjlmeaaGreat
