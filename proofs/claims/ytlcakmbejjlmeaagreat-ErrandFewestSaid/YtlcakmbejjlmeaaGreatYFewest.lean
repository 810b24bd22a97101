/- The statement ErrandFewest: its body answers true. -/
import Derived.Test.YtlcakmbejjlmeaaGreatK11
import Derived.Test.YtlcakmbejjlmeaaGreatK12
import Derived.Test.YtlcakmbejjlmeaaGreatRows
import Derived.Test.YtlcakmbejjlmeaaGreatK8
import Derived.WalkKit
import Derived.ProofKit
import Derived.OpenShut
import Derived.ShutString
import Derived.ChangeOld
import Derived.Below
import Derived.SizedLaws
set_option linter.unusedVariables false
set_option linter.unusedSimpArgs false
namespace Go.Proofs.YtlcakmbejjlmeaaGreat
open Go.RowKit

section
variable (A : Option Addr) (n wc : Nat) (S : Option Addr) (pn pc : Nat) (wrong : Int) (H : Option Addr) (hn hc : Nat) (T : Option Addr) (sn sc : Nat) (start calls : Int) (women : List Wom) (pieces : List Pce) (home streets : List Rng)
set_option maxHeartbeats 6400000 in
set_option maxRecDepth 100000 in
theorem fewest_w (w : World) (h : ErrIn w A n wc S pn pc H hn hc T sn sc women pieces home streets) :
    Calls Tryz.prog 6 #[.agg #[.slice A n wc, .slice S pn pc, .int .i64 wrong, .slice H hn hc, .slice T sn sc, .int .i64 start, .int .i64 calls]] w
      fun e w' => e = .returned (.bool true) ∧ Ext w w' := by
  have KI := hid h
  obtain ⟨sh, hsh⟩ : ∃ x, thinF women pieces wrong home streets start calls = x := ⟨_, rfl⟩
  have HSH := hid hsh
  clear h
  cases sh
  · clear hsh
    obtain ⟨W0, hWd⟩ : ∃ W0, w.alloc (.cells #[.slice A n wc, .slice S pn pc, .int .i64 wrong, .slice H hn hc, .slice T sn sc, .int .i64 start, .int .i64 calls] 28) = W0 := ⟨_, rfl⟩
    have hW0 : Ext w W0 := by rw [← hWd]; go_grown
    have b1 : W0.heap[w.heap.size]? = some (.cells #[.slice A n wc, .slice S pn pc, .int .i64 wrong, .slice H hn hc, .slice T sn sc, .int .i64 start, .int .i64 calls] 28 (0, 0)) := by rw [← hWd]; exact (by repeat (first | exact heap_alloc_at _ _ (by simp) | refine heap_alloc_keep ?_))
    have f1 := ext_blk b1
    have HW0 := hid hWd
    have e0 : Ext W0 W0 := ext_refl W0
    clear hWd b1
    go_enter Tryz.func6, Tryz.ntmps6
    go_wp2_with fail
    rw [HW0.out]
    refine (thin_x A n wc S pn pc wrong H hn hc T sn sc start calls women pieces home streets _ (KI.out.ext hW0) _ HSH).mono ?_
    rintro e w1 ⟨rfl, hB1⟩
    have e1 : Ext W0 w1 := hB1
    clear hB1
    go_wp2_with (go_at_call 21; refine (awake_c _).mono ?_; rintro e wa ⟨rfl, hBa⟩)
    go_ret
    exact ⟨rfl, ext_trans hW0 (ext_trans e1 hBa)⟩
  obtain ⟨hat, hn30, hmk⟩ := KI.out.at (thinF_short hsh)
  have KE := hid hat
  have HMK := hid hmk
  obtain ⟨fe, hfe⟩ : ∃ x, errE women pieces wrong home streets start calls = x := ⟨_, rfl⟩
  have HFE := hid hfe
  obtain ⟨fw, hfw⟩ : ∃ x, fewestN women pieces wrong home streets start calls = x := ⟨_, rfl⟩
  have HFW := hid hfw
  clear hsh hmk
  by_cases hf : fe = 0
  · subst hf
    have hz := errE_zero hfe
    have HAE := hid hz.1
    have hn4 : n ≤ 4 := by rw [← hat.wl]; exact hz.2.1
    obtain ⟨moves, hmv⟩ : ∃ x, movesF women pieces wrong = x := ⟨_, rfl⟩
    have HMV := hid hmv
    obtain ⟨mn, hmn⟩ : ∃ x, moves.length = x := ⟨_, rfl⟩
    have HMN := hid hmn
    have hm7 : mn ≤ 7 := by rw [← hmn, ← hmv]; have := movesF_len women pieces wrong; have := (askedE_zero hz.1).2.2.2.1; omega
    have HEQ : Hid (((firstT (fewR n moves) 8 : Nat) : Int) = fw) := hid (by rw [← hfw, ← hmv, ← fewest_eq hfe, hat.wl])
    clear hat hfe hfw hz hmv hmn
    obtain ⟨W0, hWd⟩ : ∃ W0, w.alloc (.cells #[.slice A n wc, .slice S pn pc, .int .i64 wrong, .slice H hn hc, .slice T sn sc, .int .i64 start, .int .i64 calls] 28) = W0 := ⟨_, rfl⟩
    have hW0 : Ext w W0 := by rw [← hWd]; go_grown
    have b1 : W0.heap[w.heap.size]? = some (.cells #[.slice A n wc, .slice S pn pc, .int .i64 wrong, .slice H hn hc, .slice T sn sc, .int .i64 start, .int .i64 calls] 28 (0, 0)) := by rw [← hWd]; exact (by repeat (first | exact heap_alloc_at _ _ (by simp) | refine heap_alloc_keep ?_))
    have f1 := ext_blk b1
    have HW0 := hid hWd
    have e0 : Ext W0 W0 := ext_refl W0
    clear hWd b1
    go_enter Tryz.func6, Tryz.ntmps6
    go_wp2_with fail
    rw [HW0.out]
    refine (thin_x A n wc S pn pc wrong H hn hc T sn sc start calls women pieces home streets _ (KI.out.ext hW0) _ HSH).mono ?_
    rintro e w1 ⟨rfl, hB1⟩
    have e1 : Ext W0 w1 := hB1
    clear hB1
    go_wp2_with fail
    refine (errand_x A n wc S pn pc wrong H hn hc T sn sc start calls women pieces home streets _ (KE.out.ext (ext_trans hW0 e1)) HMK.out).mono ?_
    rintro e w2 ⟨A2, wc2, S2, pc2, H2, hc2, T2, sc2, rfl, hE2, hB2⟩
    have e2 := ext_trans e1 hB2
    have HE2 := hid hE2
    clear hE2
    go_wp2_with fail
    refine (fewest_c A2 n wc2 S2 pn pc2 wrong H2 hn hc2 T2 sn sc2 start calls women pieces home streets _ HE2.out).mono ?_
    rintro e w3 ⟨rfl, hB3⟩
    have e3 := ext_trans e2 hB3
    rw [HFE.out, HFW.out]
    go_wp2_with fail
    refine (fault_c A n wc S pn pc wrong H hn hc T sn sc start calls women pieces home streets _ (KE.out.ext (ext_trans hW0 e3)) _ HFE).mono ?_
    rintro e w4 ⟨rfl, hB4⟩
    have e4 := ext_trans e3 hB4
    go_wp2_with fail
    have E4 := hid (ext_trans hW0 e4)
    have f4 : ∀ W, Ext w4 W → ∀ j, W.cell? ⟨w.heap.size, j, none⟩ = (#[.slice A n wc, .slice S pn pc, .int .i64 wrong, .slice H hn hc, .slice T sn sc, .int .i64 start, .int .i64 calls] : Array Value)[j]? := fun W h => f1 W (ext_trans e4 h)
    have F4 := hid f4
    have e0 := ext_refl w4
    clear hB2 hB3 hB4 e1 e2 e3 e4 f1
    go_region_held3 (fun W => Ext w4 W)
      (first | exact Below.drew (by assumption) | assumption | exact ext_trans (by assumption) (by assumption))
      (first
        | (go_at_call 38; (with_reducible refine (movesR_c A n wc S pn pc wrong H hn hc T sn sc start calls women pieces home streets _ (KE.out.ext (ext_trans E4.out (by first | assumption | exact Below.drew (by assumption)))) HAE.out).mono ?_); rintro e w5 ⟨MV, mvc, rfl, hmv, hB5⟩; rw [HMV.out, HMN.out] at hmv; rw [HMV.out, HMN.out]; have HMO := hid hmv; clear hmv)
        | (go_at_call 43; (with_reducible refine (fewestR_c n _ _ _ wrong start calls A wc hn4 MV mn mvc moves _ HMO.out HMN.out hm7).mono ?_); rintro e w6 ⟨rfl, hB6⟩; rw [HEQ.out])
        | (go_at_call 21; refine (awake_c _).mono ?_; rintro e wa ⟨rfl, hBa⟩))
    go_wp2
    go_ret
    exact ⟨rfl, ext_trans E4.out (by assumption)⟩
  · have hf1 : (fe != 0) = true := by rw [bne_iff_ne]; exact hf
    have hf2 : (fe == 0) = false := by rw [beq_eq_false_iff_ne]; exact hf
    obtain rfl : fw = 0 := by rw [← hfw, fewestN, if_neg (by rw [hfe]; exact hf)]
    clear hat hfe hfw
    obtain ⟨W0, hWd⟩ : ∃ W0, w.alloc (.cells #[.slice A n wc, .slice S pn pc, .int .i64 wrong, .slice H hn hc, .slice T sn sc, .int .i64 start, .int .i64 calls] 28) = W0 := ⟨_, rfl⟩
    have hW0 : Ext w W0 := by rw [← hWd]; go_grown
    have b1 : W0.heap[w.heap.size]? = some (.cells #[.slice A n wc, .slice S pn pc, .int .i64 wrong, .slice H hn hc, .slice T sn sc, .int .i64 start, .int .i64 calls] 28 (0, 0)) := by rw [← hWd]; exact (by repeat (first | exact heap_alloc_at _ _ (by simp) | refine heap_alloc_keep ?_))
    have f1 := ext_blk b1
    have HW0 := hid hWd
    have e0 : Ext W0 W0 := ext_refl W0
    clear hWd b1
    go_enter Tryz.func6, Tryz.ntmps6
    go_wp2_with fail
    rw [HW0.out]
    refine (thin_x A n wc S pn pc wrong H hn hc T sn sc start calls women pieces home streets _ (KI.out.ext hW0) _ HSH).mono ?_
    rintro e w1 ⟨rfl, hB1⟩
    have e1 : Ext W0 w1 := hB1
    clear hB1
    go_wp2_with fail
    refine (errand_x A n wc S pn pc wrong H hn hc T sn sc start calls women pieces home streets _ (KE.out.ext (ext_trans hW0 e1)) HMK.out).mono ?_
    rintro e w2 ⟨A2, wc2, S2, pc2, H2, hc2, T2, sc2, rfl, hE2, hB2⟩
    have e2 := ext_trans e1 hB2
    have HE2 := hid hE2
    clear hE2
    go_wp2_with fail
    refine (fewest_c A2 n wc2 S2 pn pc2 wrong H2 hn hc2 T2 sn sc2 start calls women pieces home streets _ HE2.out).mono ?_
    rintro e w3 ⟨rfl, hB3⟩
    have e3 := ext_trans e2 hB3
    rw [HFE.out, HFW.out]
    go_wp2_with fail
    refine (fault_c A n wc S pn pc wrong H hn hc T sn sc start calls women pieces home streets _ (KE.out.ext (ext_trans hW0 e3)) _ HFE).mono ?_
    rintro e w4 ⟨rfl, hB4⟩
    have e4 := ext_trans e3 hB4
    go_wp2_with (go_at_call 21; refine (awake_c _).mono ?_; rintro e wa ⟨rfl, hBa⟩)
    go_ret
    exact ⟨rfl, ext_trans hW0 (ext_trans e4 hBa)⟩
end
end Go.Proofs.YtlcakmbejjlmeaaGreat
/- The statement ErrandFewest, for every input: the row over its walk. -/
set_option linter.unusedVariables false
namespace Go.Proofs.YtlcakmbejjlmeaaGreat.ErrandFewestRow
open Go.ChangeShapes Go.WideShapes Go.ChangeAt Go.RowKit
theorem own : ownKnob Tryz.prog.godebug = none := by kernel_rfl
theorem laidOut : laidOutB Tryz.prog = true := by kernel_rfl
set_option maxRecDepth 100000 in
theorem lifted (os : Os) (started : os.Started) (H : Type) (enc : TypeId × Value → H) :
    ReturnsInHanded {} Tryz.checked os 6 .any (Rows.errandFewestSpec.pre6 enc Tryz.prog Tryz.f6 Rows.errandFewestRow.domain false) (Rows.errandFewestSpec.post enc Tryz.prog Tryz.f6 false true false false) := by
  refine returnsInHanded_of_change_sized (C := Tryz.checked) own started (by kernel_rfl) Tryz.func6
    (ChangeSpec.witness6 (enc := enc) (C := Tryz.checked) false ⟨#[], #[.agg #[.slice none 0 0, .slice none 0 0, .int .i64 0, .slice none 0 0, .slice none 0 0, .int .i64 0, .int .i64 0]], []⟩ 8 (by kernel_rfl) (by kernel_rfl) (by kernel_rfl) (by kernel_rfl)) ?_
  intro W base args ds gs before hval0 hW hcnd hsz0 _
  have hsz : (DataW.weightsEach Tryz.prog (Tryz.f6.params.toList ++ Rows.errandFewestSpec.plain.varTypes Tryz.prog) (ds ++ gs)).all (· ≤ reachBytes) = true := hsz0
  have hval : ∀ (j : Nat) t v, Tryz.f6.params[j]? = some t → args[j]? = some v → Value.okWide Tryz.prog W .any base t v := hval0
  have hW' := hW
  obtain ⟨p, q, hA0, hV, rfl, hfz, hnd⟩ := hW
  have hA : DataW.TrodAll enc Tryz.prog W 0 (fun _ => true) true Tryz.f6.params.toList args.toList ds p := hA0
  rw [Tryz.params6] at hA hval hsz
  obtain ⟨v0, vs0, d0, ds0, p0, q0, hargs, rfl, rfl, h0, r0⟩ := trodAll_cons hA
  obtain ⟨rfl, rfl, rfl⟩ := trodAll_nil r0
  obtain rfl : args = #[v0] := by cases args; simp_all
  obtain ⟨rfl, rfl⟩ := trodVars_none hV
  have k0 := h0
  have lt0 : ∀ x ∈ p0, x.block < W.heap.size := by obtain ⟨m, hm⟩ := k0; exact DataW.trod_lt m _ _ _ hm
  have wk0 : WOk Tryz.prog 28 d0 := fun n hn => by
    have h := List.all_eq_true.1 hsz _ (DataW.weights_mem_each (j := 0) rfl rfl n hn)
    simpa using h
  obtain ⟨A0, n0, wc0, S0, pn0, pc0, wrong0, T0, hn0, hc0, U0, sn0, sc0, start0, calls0, women0, pieces0, home0, streets0, rfl, hW0, hwl0, hP0, hpl0, hH0, hhl0, hS0, hsl0, ws0, wcl0, wwr0⟩ := open_errW (hval 0 28 v0 rfl rfl) h0 wk0
  clear hA0 hval0 hsz0 hsz
  refine (fewest_w A0 n0 wc0 S0 pn0 pc0 wrong0 T0 hn0 hc0 U0 sn0 sc0 start0 calls0 women0 pieces0 home0 streets0 W ⟨hW0, hwl0, hP0, hpl0, hH0, hhl0, hS0, hsl0⟩).mono fun e W' ⟨he, bel⟩ => ?_
  subst he
  exact ⟨_, rfl, _, _, _, [], _, [], hW', trodAll_mk1 (shut_bool Tryz.underlying4 _), (trodAll_cons_mk (Below.trod laidOut (by kernel_rfl) (of_decide_eq_true (by kernel_rfl)) k0 bel lt0) trodAll_mk0), rfl, bel.frame _, fun h => by cases h⟩
theorem over : Rows.errandFewestRow.holds Tryz.pinned (OpenSpec.ofChange Rows.errandFewestSpec) :=
  OpenClaim.holds_of_wide 6 Tryz.f6 rfl rfl rfl rfl rfl rfl rfl ⟨rfl, rfl, rfl, rfl, rfl⟩ rfl rfl rfl rfl rfl (by kernel_rfl) Tryz.func6 (by kernel_rfl)
    (of_decide_eq_true (by kernel_rfl)) (by unfold Func.isWrapper; rw [if_neg (of_decide_eq_false (by kernel_rfl))]; exact ⟨rfl, rfl⟩)
    (fun os started H enc _ => lifted os started H enc)
end Go.Proofs.YtlcakmbejjlmeaaGreat.ErrandFewestRow
namespace Go.Proofs.YtlcakmbejjlmeaaGreat
/-- ErrandFewest, for every input. -/
theorem errandFewest_holds : Rows.ErrandFewestSaid := ErrandFewestRow.over
#print axioms errandFewest_holds
end Go.Proofs.YtlcakmbejjlmeaaGreat
