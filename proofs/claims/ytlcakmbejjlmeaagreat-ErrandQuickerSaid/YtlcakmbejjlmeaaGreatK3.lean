/- The contract of bundle's 'asked'. -/
import Derived.Test.YtlcakmbejjlmeaaGreatK2
set_option linter.unusedVariables false
set_option linter.unusedSimpArgs false
namespace Go.Proofs.YtlcakmbejjlmeaaGreat
open Go.RowKit

/-- All truths, in lexicographic order. -/
def truthP (women : List Wom) (pieces : List Pce) (wrong : Int) (o : Nat → Int) : Bool := decide (((wrongF women o pieces.length).length : Int) ≤ wrong)
def truthsF (women : List Wom) (pieces : List Pce) (wrong : Int) : List (Nat → Int) := (listsF women pieces).filter (truthP women pieces wrong)
def askedE (women : List Wom) (pieces : List Pce) (wrong : Int) : Int := if tabFault women pieces wrong = 0 then (if (truthsF women pieces wrong).length = 0 then 11 else 0) else tabFault women pieces wrong

def AskPost (A : Option Addr) (n wc : Nat) (women : List Wom) (S : Option Addr) (pn pc : Nat) (pieces : List Pce) (wrong : Int) (w : World) (e : Ending) (w' : World) : Prop :=
  Ext w w' ∧ ((askedE women pieces wrong ≠ 0 ∧ e = .returned (.tuple #[.pointer none, .int .i64 (askedE women pieces wrong)])) ∨
    (askedE women pieces wrong = 0 ∧ ∃ q T tc mv, e = .returned (.tuple #[.pointer (some ⟨q, 0, none⟩), .int .i64 0]) ∧ w.heap.size ≤ q ∧
      w'.heap[q]? = some (.cells #[.slice A n wc, .slice S pn pc, .int .i64 wrong, .slice T (truthsF women pieces wrong).length tc, mv] 142 (0, 0)) ∧ IsOwns w' (.slice T (truthsF women pieces wrong).length tc) (truthsF women pieces wrong)))

/-- What holds between the rounds of 'asked': blocks m (the map), q (the work), r (the variable), t (the table), u (the table that the iterator has). -/
structure AskI (m D : Nat) (ec : List Value) (women : List Wom) (pieces : List Pce) (wrong : Int) (t : Nat) (w1 : World) (ow : Nat → Prop) (pre : List (Nat → Int)) (W : World) (tv : Value) : Prop where
  hq : W.heap[m + 1]? = some (.cells (ec ++ [tv, .map (some m)]).toArray 142 (0, 0))
  own : W.ownsRow D 136 7 tv (pre.filter (truthP women pieces wrong)).length (ownCells (pre.filter (truthP women pieces wrong)))
  cnt : ∃ k, k ≤ 7 * pre.length ∧ IsCnt W m k
  hr : W.heap[m + 2]? = some (.cells #[.pointer (some ⟨m + 1, 0, none⟩)] 132 (0, 0))
  ht : W.heap[t]? = some (.cells ec.toArray 38 (0, 0))
  hu : W.heap[m + 3]? = some (.cells ec.toArray 38 (0, 0))
  ext : Ext w1 W
  iff : ∀ b, ow b ↔ b = m ∨ b = m + 1 ∨ tv.ownBlock = some b
theorem AskI.kept {m D : Nat} {ec : List Value} {women : List Wom} {pieces : List Pce} {wrong : Int} {t : Nat} {w1 : World} {ow ow2 : Nat → Prop} {pre : List (Nat → Int)} {W W' : World} {tv : Value} (h : AskI m D ec women pieces wrong t w1 ow pre W tv)
    (hm : m = w1.heap.size) (htm : t < m) (hD : m + 3 < D) (hk : Kept ow2 W W') (hn : ∀ b, (b < m + 4 ∨ tv.ownBlock = some b) → ¬ ow2 b) : AskI m D ec women pieces wrong t w1 ow pre W' tv := by
  refine ⟨hk.keep h.hq (hn _ (.inl (by omega))), ?_, ?_, hk.keep h.hr (hn _ (.inl (by omega))), hk.keep h.ht (hn _ (.inl (by omega))), hk.keep h.hu (hn _ (.inl (by omega))), hk.extOld h.ext (fun b hb => hn _ (.inl (by omega))), h.iff⟩
  · obtain ⟨h1, h2⟩ := h.own
    refine ⟨h1, h2.imp id ?_⟩
    rintro ⟨g, cap, cur, rfl, hg, hc, r⟩
    exact ⟨g, cap, cur, rfl, hg, hk.keep hc (hn _ (.inr rfl)), r⟩
  · obtain ⟨k, hk1, hk2⟩ := h.cnt
    exact ⟨k, hk1, hk2.keep (hk.blk m hk2.lt (hn _ (.inl (by omega))))⟩
theorem AskI.skip {m D : Nat} {ec : List Value} {women : List Wom} {pieces : List Pce} {wrong : Int} {t : Nat} {w1 : World} {ow : Nat → Prop} {pre : List (Nat → Int)} {x : Nat → Int} {W : World} {tv : Value} (h : AskI m D ec women pieces wrong t w1 ow pre W tv)
    (hx : truthP women pieces wrong x = false) : AskI m D ec women pieces wrong t w1 ow (pre ++ [x]) W tv := by
  have hf : (pre ++ [x]).filter (truthP women pieces wrong) = pre.filter (truthP women pieces wrong) := by simp [hx]
  obtain ⟨k, hk, hc⟩ := h.cnt
  exact ⟨h.hq, by rw [hf]; exact h.own, ⟨k, by simp; omega, hc⟩, h.hr, h.ht, h.hu, h.ext, h.iff⟩
set_option maxHeartbeats 6400000 in
set_option maxRecDepth 100000 in
theorem asked_c (A : Option Addr) (n wc : Nat) (women : List Wom) (S : Option Addr) (pn pc : Nat) (pieces : List Pce) (wrong : Int) (w : World) (hW : IsWoms w (.slice A n wc) women) (hwl : women.length = n) (hP : IsPces w (.slice S pn pc) pieces) (hpl : pieces.length = pn) (hn : n ≤ 1000) (hpn : pn ≤ 1000) :
    Calls Tryz.prog 95 #[.agg #[.slice A n wc, .slice S pn pc, .int .i64 wrong]] w (AskPost A n wc women S pn pc pieces wrong w) := by
  have KW := hid hW
  have KP := hid hP
  have HWL := hid hwl
  have HPL := hid hpl
  clear hW hwl hP hpl
  obtain ⟨fe, hfe⟩ : ∃ fe, tabFault women pieces wrong = fe := ⟨_, rfl⟩
  have HFE := hid hfe
  clear hfe
  have hmm := @run_makeMap Tryz.prog
  refine (callsIn_wide (n := 0)).1 (callsIn_of_wp_marks Tryz.func95 rfl trivial ?_ rfl)
  simp only [Tryz.ntmps95, List.size_toArray, List.length_cons, List.length_nil, Nat.reduceAdd, Nat.reduceSub, Array.replicate_succ, Array.replicate_zero, List.push_toArray, List.append_toArray, List.nil_append, List.cons_append]
  refine wpIn_wide.2 ?_
  by_cases h0 : fe = 0
  · subst h0
    go_wp2_with (first
      | (go_at_call 123; refine (checkTable_c A n wc women S pn pc pieces wrong _ (KW.out.ext (by go_grown)) HWL.out (KP.out.ext (by go_grown)) HPL.out hn hpn).mono ?_; rintro e w1 ⟨rfl, hB1⟩; rw [HFE.out]; have b1 : w1.heap[w.heap.size]? = some (.cells #[.slice A n wc, .slice S pn pc, .int .i64 wrong] 38 (0, 0)) := ext_blk_keep hB1 (heap_alloc_new w _); have hE1 : Ext w w1 := ext_trans (by go_grown) hB1
         have hlt1 : w.heap.size < w1.heap.size := (Array.getElem?_eq_some_iff.1 b1).1
         obtain ⟨Wc, hWc⟩ : ∃ Wc, ((w1.alloc (.map #[] 0)).alloc (.cells #[.slice A n wc, .slice S pn pc, .int .i64 wrong, .slice none 0 0, .map (some w1.heap.size)] 142)).alloc (.cells #[.pointer (some ⟨w1.heap.size + 1, 0, none⟩)] 132) = Wc := ⟨_, rfl⟩
         have bm : Wc.heap[w1.heap.size]? = some (.map #[] 0) := by rw [← hWc]; exact heap_alloc_keep (heap_alloc_keep (heap_alloc_new w1 _))
         have bq : Wc.heap[w1.heap.size + 1]? = some (.cells #[.slice A n wc, .slice S pn pc, .int .i64 wrong, .slice none 0 0, .map (some w1.heap.size)] 142 (0, 0)) := by rw [← hWc]; exact heap_alloc_keep (heap_alloc_at _ _ (by simp))
         have br : Wc.heap[w1.heap.size + 2]? = some (.cells #[.pointer (some ⟨w1.heap.size + 1, 0, none⟩)] 132 (0, 0)) := by rw [← hWc]; exact heap_alloc_at _ _ (by simp)
         have hEc : Ext w1 Wc := by rw [← hWc]; go_grown
         have hsc : Wc.heap.size = w1.heap.size + 3 := by rw [← hWc]; simp
         have hc2 := blk_cell (ext_blk_keep hEc b1)
         have hc1 := blk_cell b1
         have BM := hid bm
         have BQ := hid bq
         have BR := hid br
         have HEC := hid hEc
         have HE1 := hid hE1
         have HSC := hid hsc
         clear bm bq br hEc hE1 hsc)
      | (go_at_call 124; refine (lists_c _ _).mono ?_; rintro e w2 ⟨rfl, rfl⟩))
    have HW1 := hid (KW.out.ext HE1.out)
    have HP1 := hid (KP.out.ext HE1.out)
    obtain ⟨Wd, hWd⟩ : ∃ Wd, Wc.alloc (.cells #[.slice A n wc, .slice S pn pc, .int .i64 wrong] 38) = Wd := ⟨_, rfl⟩
    have hEd : Ext Wc Wd := by rw [← hWd]; go_grown
    have hbd : Wd.heap[Wc.heap.size]? = some (.cells #[.slice A n wc, .slice S pn pc, .int .i64 wrong] 38 (0, 0)) := by rw [← hWd]; exact heap_alloc_new Wc _
    have hsd : Wd.heap.size = w1.heap.size + 4 := by rw [← hWd]; simp [HSC.out]
    rw [hWd]
    have HED := hid hEd
    have HBD := hid hbd
    have HSD := hid hsd
    clear hEd hbd hsd hc1 hc2
    have hpn7 : pn ≤ 7 := by
      have h := HFE.out
      rw [tabFault] at h
      have := HPL.out
      split at h
      · simp at h
      · rename_i h'
        simp at h'
        omega
    refine wp_range (gf := 145) (lb := #[.pointer (some ⟨Wc.heap.size, 0, none⟩)]) rfl ?eg (lists_iter Wc.heap.size A n wc women S pn pc pieces wrong w1 Wd hn hpn7 HW1.out HWL.out HP1.out HPL.out (ext_trans HEC.out HED.out) HBD.out) (ext_refl Wd) (fun D ow W1 W2 h => h.sizes)
      (fun b => b = w1.heap.size ∨ b = w1.heap.size + 1) ?hcb (fun ow pre W => ∃ tv, AskI w1.heap.size (w1.heap.size + 6) [.slice A n wc, .slice S pn pc, .int .i64 wrong] women pieces wrong w.heap.size w1 ow pre W tv) (fun _ _ _ => False) ?hIb ?hIst ?hIl (fun _ _ _ _ h => h) ?h0 ?hround ?hdone (fun _ _ _ _ h => h.elim)
    case eg =>
      have h1 : (Tryz.f145.name == "runtime.NumGoroutine") = false := by kernel_rfl
      have h2 : Tryz.f145.body.isNone = false := by kernel_rfl
      have h1' : ¬ Tryz.f145.name = "runtime.NumGoroutine" := by simpa using h1
      have h2' : ¬ Tryz.f145.body = none := by
        intro h
        rw [h] at h2
        cases h2
      exact fun args w => by simp [go_sem, callFunc, Tryz.func145, h1', h2']
    case hcb =>
      intro b hb
      have := HSD.out
      have := HSC.out
      rcases hb with hb | rfl <;> exact ⟨by omega, by omega⟩
    case hIb =>
      rintro ow pre W b ⟨tv, hI⟩ hob
      have := HSD.out
      rcases (hI.iff b).1 hob with rfl | rfl | hb
      · have := (Array.getElem?_eq_some_iff.1 hI.hq).1
        exact ⟨by omega, by omega, by omega⟩
      · have := (Array.getElem?_eq_some_iff.1 hI.hq).1
        exact ⟨by omega, by omega, by omega⟩
      · have := own_block hI.own b hb
        exact ⟨by omega, by omega, by omega⟩
    case hIst =>
      rintro ow pre W1 W2 ⟨tv, hI⟩ ⟨X, hX, hnX, hk⟩
      have := HSD.out
      exact ⟨tv, hI.kept rfl hlt1 (by omega) hk (fun b hb e => by
        rcases hb with hb | hb
        · omega
        · exact hnX (.inl ((hI.iff X).2 (.inr (.inr (by rw [← e]; exact hb))))))⟩
    case hIl =>
      rintro ow pre W o ⟨tv, hI⟩
      have := HSD.out
      exact ⟨tv, hI.kept rfl hlt1 (by omega) ((Kept.refl (fun b => b = Wd.heap.size + 1) W).putObj o rfl) (fun b hb e => by
        rcases hb with hb | hb
        · omega
        · have := own_block hI.own b hb
          omega)⟩
    case h0 =>
      intro W1 hE1 hs1
      have e0 := ext_trans HED.out hE1
      refine ⟨.slice none 0 0, ext_blk_keep e0 BQ.out, own_nil _ _ _ _, ⟨0, by simp, cnt_made w1 W1 w1.heap.size rfl (ext_blk_keep e0 BM.out)⟩, ext_blk_keep e0 BR.out, ext_blk_keep (ext_trans HEC.out e0) b1, ?_, ext_trans HEC.out e0, fun b => by simp [Value.ownBlock]⟩
      have := ext_blk_keep hE1 HBD.out
      rw [HSC.out] at this
      exact this
    case hround =>
      rintro ow pre x v W ⟨tv, hI⟩ hpre rfl ⟨lr, hlr⟩
      have hlt : Wd.heap.size + 1 < W.heap.size := (Array.getElem?_eq_some_iff.1 hlr).1
      clear hlr
      have HI := hid hI
      have HPRE := hid hpre
      clear hI hpre hmm hWc hWd
      have hsem := Oper.semAt_some (Wd.heap.size + 1)
      gi_wp2_with fail
      refine ⟨by go_grown, ?_⟩
      rintro W2 ⟨ob, hW2⟩
      have HSEM := hid hsem
      have hsx := HSD.out
      have hkx : Kept (fun b => b = Wd.heap.size + 1) W W2 := by rw [hW2]; exact ((Kept.refl _ W).alloc _).putObj _ rfl
      have b6 : W2.heap[W.heap.size]? = some (.cells #[.int .i64 (x 0), .int .i64 (x 1), .int .i64 (x 2), .int .i64 (x 3), .int .i64 (x 4), .int .i64 (x 5), .int .i64 (x 6)] 136 (0, 0)) := by
        rw [hW2, World.putObj_heap_other (by omega)]
        exact heap_alloc_new W _
      have hI2 := HI.out.kept rfl hlt1 (by omega) hkx (fun b hb e => by
        rcases hb with hb | hb
        · omega
        · have := own_block HI.out.own b hb
          omega)
      have HI2 := hid hI2
      clear hW2 hkx hI2
      have e0 : Ext W2 W2.drew := (ext_refl W2).drew
      have f0 : ∀ W', Ext W2 W' → ∀ j, W'.cell? ⟨w.heap.size, j, none⟩ = (#[.slice A n wc, .slice S pn pc, .int .i64 wrong] : Array Value)[j]? := ext_blk HI2.out.ht
      have f1 := ext_blk b6
      obtain ⟨L, hL⟩ : ∃ L, (wrongF women x pn).length = L := ⟨_, rfl⟩
      have HLL := hid hL
      clear hL
      by_cases hT : (L : Int) ≤ wrong
      · have htr : truthP women pieces wrong x = true := by rw [truthP, HPL.out, HLL.out]; exact decide_eq_true hT
        have hTd : decide (wrong < (L : Int)) = false := decide_eq_false (by omega)
        obtain ⟨T, tc, rfl⟩ := own_slice HI2.out.own
        obtain ⟨K, hK⟩ : ∃ K, (pre.filter (truthP women pieces wrong)).length = K := ⟨_, rfl⟩
        rw [hK] at HI2
        have HKK := hid hK
        clear hK
        have f2 : ∀ W', Ext W2 W' → ∀ j, W'.cell? ⟨w1.heap.size + 1 + 1, j, none⟩ = (#[.pointer (some ⟨w1.heap.size + 1, 0, none⟩)] : Array Value)[j]? := ext_blk HI2.out.hr
        have f3 : ∀ W', Ext W2 W' → ∀ j, W'.cell? ⟨w1.heap.size + 1, j, none⟩ = (#[.slice A n wc, .slice S pn pc, .int .i64 wrong, .slice T K tc, .map (some w1.heap.size)] : Array Value)[j]? := ext_blk HI2.out.hq
        have hKb : K ≤ 2000 := by
          have h1 := List.length_filter_le (truthP women pieces wrong) pre
          have h2 := listsF_len HFE.out
          have h3 := (List.IsPrefix.sublist HPRE.out).length_le
          have := HKK.out
          simp at h3
          omega
        rcases Nat.eq_zero_or_pos K with h0 | h0
        · subst h0
          gi_wp2_with fail
          refine region_roundR (fun W' => Ext W2 W') 31 #[false, false, false, false, false, false, false, false, false, false, false, false, false, false, false, false, false, false, false, false, false, false, false, false, false, false, false, false, false, false, false] (by kernel_rfl) (by kernel_rfl) (by kernel_rfl) (by kernel_rfl) (fun R HR => ?_)
          refine takeR (i := 0) (oi := ?_) (v := ?_) ?_ (by kernel_rfl) (by kernel_rfl) (by kernel_rfl) ?_ ?_ (by assumption) ?_
          rotate_left 2
          · simp only [List.getElem?_toArray, List.getElem?_cons_succ, List.getElem?_cons_zero]; rfl
          · kernel_rfl
          · intro Wx hSx
            try dsimp only at hSx
            go_simp
            try with_reducible rfl
          simp only [Act.put, List.setIfInBounds_toArray, List.set_cons_zero, List.set_cons_succ]
          refine takeR (i := 1) (oi := ?_) (v := ?_) ?_ (by kernel_rfl) (by kernel_rfl) (by kernel_rfl) ?_ ?_ (by assumption) ?_
          rotate_left 2
          · simp only [List.getElem?_toArray, List.getElem?_cons_succ, List.getElem?_cons_zero]; rfl
          · kernel_rfl
          · intro Wx hSx
            try dsimp only at hSx
            go_simp
            try with_reducible rfl
          simp only [Act.put, List.setIfInBounds_toArray, List.set_cons_zero, List.set_cons_succ]
          refine takeR (i := 4) (oi := ?_) (v := ?_) ?_ (by kernel_rfl) (by kernel_rfl) (by kernel_rfl) ?_ ?_ (by assumption) ?_
          rotate_left 2
          · simp only [List.getElem?_toArray, List.getElem?_cons_succ, List.getElem?_cons_zero]; rfl
          · kernel_rfl
          · intro Wx hSx
            try dsimp only at hSx
            go_simp
            try with_reducible rfl
          simp only [Act.put, List.setIfInBounds_toArray, List.set_cons_zero, List.set_cons_succ]
          refine takeR (i := 5) (oi := ?_) (v := ?_) ?_ (by kernel_rfl) (by kernel_rfl) (by kernel_rfl) ?_ ?_ (by assumption) ?_
          rotate_left 2
          · simp only [List.getElem?_toArray, List.getElem?_cons_succ, List.getElem?_cons_zero]; rfl
          · kernel_rfl
          · intro Wx hSx
            try dsimp only at hSx
            go_simp
            try with_reducible rfl
          simp only [Act.put, List.setIfInBounds_toArray, List.set_cons_zero, List.set_cons_succ]
          refine wpAnyH_ready (rs := [2]) (by kernel_rfl) (by simp) ?_
          refine AllReadyH.cons rfl (fun K hK => ?_) AllReadyH.nil
          go_simp
          refine (wrong_c A n wc women S pn pc wrong x _ (HW1.out.ext (ext_trans HI2.out.ext e0)) HWL.out hn hpn7 (by have := listsF_mem (prefix_mem HPRE.out); rw [HPL.out, HWL.out] at this; exact this)).mono ?_
          rintro e w3 ⟨mv, rfl, hmv, hE3⟩
          obtain ⟨M, mc, rfl⟩ := hmv.val
          rw [HLL.out]
          have e3 : Ext W2 w3 := ext_trans e0 hE3
          refine hK.out _ _ e3 (fun hHeld => ?_)
          clear hK K
          simp only [Act.put, List.setIfInBounds_toArray, List.set_cons_zero, List.set_cons_succ]
          refine takeR (i := 3) (oi := ?_) (v := ?_) ?_ (by kernel_rfl) (by kernel_rfl) (by kernel_rfl) ?_ ?_ (by assumption) ?_
          rotate_left 2
          · simp only [List.getElem?_toArray, List.getElem?_cons_succ, List.getElem?_cons_zero]; rfl
          · kernel_rfl
          · intro Wx hSx
            try dsimp only at hSx
            go_simp
            try with_reducible rfl
          simp only [Act.put, List.setIfInBounds_toArray, List.set_cons_zero, List.set_cons_succ]
          refine takeR (i := 6) (oi := ?_) (v := ?_) ?_ (by kernel_rfl) (by kernel_rfl) (by kernel_rfl) ?_ ?_ (by assumption) ?_
          rotate_left 2
          · simp only [List.getElem?_toArray, List.getElem?_cons_succ, List.getElem?_cons_zero]; rfl
          · kernel_rfl
          · intro Wx hSx
            try dsimp only at hSx
            go_simp
            try with_reducible rfl
          simp only [Act.put, List.setIfInBounds_toArray, List.set_cons_zero, List.set_cons_succ]
          refine takeR (i := 7) (oi := ?_) (v := ?_) ?_ (by kernel_rfl) (by kernel_rfl) (by kernel_rfl) ?_ ?_ (by assumption) ?_
          rotate_left 2
          · simp only [List.getElem?_toArray, List.getElem?_cons_succ, List.getElem?_cons_zero]; rfl
          · kernel_rfl
          · intro Wx hSx
            try dsimp only at hSx
            go_simp
            try with_reducible rfl
          simp only [Act.put, List.setIfInBounds_toArray, List.set_cons_zero, List.set_cons_succ]
          refine takeR (i := 8) (oi := ?_) (v := ?_) ?_ (by kernel_rfl) (by kernel_rfl) (by kernel_rfl) ?_ ?_ (by assumption) ?_
          rotate_left 2
          · simp only [List.getElem?_toArray, List.getElem?_cons_succ, List.getElem?_cons_zero]; rfl
          · kernel_rfl
          · intro Wx hSx
            try dsimp only at hSx
            go_simp
            try with_reducible rfl
          simp only [Act.put, List.setIfInBounds_toArray, List.set_cons_zero, List.set_cons_succ]
          refine takeR (i := 9) (oi := ?_) (v := ?_) ?_ (by kernel_rfl) (by kernel_rfl) (by kernel_rfl) ?_ ?_ (by assumption) ?_
          rotate_left 2
          · simp only [List.getElem?_toArray, List.getElem?_cons_succ, List.getElem?_cons_zero]; rfl
          · kernel_rfl
          · intro Wx hSx
            try dsimp only at hSx
            go_simp
            try with_reducible rfl
          simp only [Act.put, List.setIfInBounds_toArray, List.set_cons_zero, List.set_cons_succ]
          refine takeR (i := 10) (oi := ?_) (v := ?_) ?_ (by kernel_rfl) (by kernel_rfl) (by kernel_rfl) ?_ ?_ (by assumption) ?_
          rotate_left 2
          · simp only [List.getElem?_toArray, List.getElem?_cons_succ, List.getElem?_cons_zero]; rfl
          · kernel_rfl
          · intro Wx hSx
            try dsimp only at hSx
            go_simp
            try with_reducible rfl
          simp only [Act.put, List.setIfInBounds_toArray, List.set_cons_zero, List.set_cons_succ]
          refine takeR (i := 11) (oi := ?_) (v := ?_) ?_ (by kernel_rfl) (by kernel_rfl) (by kernel_rfl) ?_ ?_ (by assumption) ?_
          rotate_left 2
          · simp only [List.getElem?_toArray, List.getElem?_cons_succ, List.getElem?_cons_zero]; rfl
          · kernel_rfl
          · intro Wx hSx
            try dsimp only at hSx
            go_simp
            try with_reducible rfl
          simp only [Act.put, List.setIfInBounds_toArray, List.set_cons_zero, List.set_cons_succ]
          refine takeR (i := 12) (oi := ?_) (v := ?_) ?_ (by kernel_rfl) (by kernel_rfl) (by kernel_rfl) ?_ ?_ (by assumption) ?_
          rotate_left 2
          · simp only [List.getElem?_toArray, List.getElem?_cons_succ, List.getElem?_cons_zero]; rfl
          · kernel_rfl
          · intro Wx hSx
            try dsimp only at hSx
            go_simp
            try with_reducible rfl
          simp only [Act.put, List.setIfInBounds_toArray, List.set_cons_zero, List.set_cons_succ]
          refine takeR (i := 13) (oi := ?_) (v := ?_) ?_ (by kernel_rfl) (by kernel_rfl) (by kernel_rfl) ?_ ?_ (by assumption) ?_
          rotate_left 2
          · simp only [List.getElem?_toArray, List.getElem?_cons_succ, List.getElem?_cons_zero]; rfl
          · kernel_rfl
          · intro Wx hSx
            try dsimp only at hSx
            go_simp
            try with_reducible rfl
          simp only [Act.put, List.setIfInBounds_toArray, List.set_cons_zero, List.set_cons_succ]
          refine takeR (i := 14) (oi := ?_) (v := ?_) ?_ (by kernel_rfl) (by kernel_rfl) (by kernel_rfl) ?_ ?_ (by assumption) ?_
          rotate_left 2
          · simp only [List.getElem?_toArray, List.getElem?_cons_succ, List.getElem?_cons_zero]; rfl
          · kernel_rfl
          · intro Wx hSx
            try dsimp only at hSx
            go_simp
            try with_reducible rfl
          simp only [Act.put, List.setIfInBounds_toArray, List.set_cons_zero, List.set_cons_succ]
          refine skipR (i := 15) (oi := ?_) ?_ (by kernel_rfl) (by kernel_rfl) (by kernel_rfl) ?_ (by assumption) ?_
          rotate_left 1
          · simp only [List.getElem?_toArray, List.getElem?_cons_succ, List.getElem?_cons_zero]; rfl
          · kernel_rfl
          simp only [Act.put, List.setIfInBounds_toArray, List.set_cons_zero, List.set_cons_succ]
          refine skipR (i := 16) (oi := ?_) ?_ (by kernel_rfl) (by kernel_rfl) (by kernel_rfl) ?_ (by assumption) ?_
          rotate_left 1
          · simp only [List.getElem?_toArray, List.getElem?_cons_succ, List.getElem?_cons_zero]; rfl
          · kernel_rfl
          simp only [Act.put, List.setIfInBounds_toArray, List.set_cons_zero, List.set_cons_succ]
          refine skipR (i := 17) (oi := ?_) ?_ (by kernel_rfl) (by kernel_rfl) (by kernel_rfl) ?_ (by assumption) ?_
          rotate_left 1
          · simp only [List.getElem?_toArray, List.getElem?_cons_succ, List.getElem?_cons_zero]; rfl
          · kernel_rfl
          simp only [Act.put, List.setIfInBounds_toArray, List.set_cons_zero, List.set_cons_succ]
          refine skipR (i := 18) (oi := ?_) ?_ (by kernel_rfl) (by kernel_rfl) (by kernel_rfl) ?_ (by assumption) ?_
          rotate_left 1
          · simp only [List.getElem?_toArray, List.getElem?_cons_succ, List.getElem?_cons_zero]; rfl
          · kernel_rfl
          simp only [Act.put, List.setIfInBounds_toArray, List.set_cons_zero, List.set_cons_succ]
          refine skipR (i := 19) (oi := ?_) ?_ (by kernel_rfl) (by kernel_rfl) (by kernel_rfl) ?_ (by assumption) ?_
          rotate_left 1
          · simp only [List.getElem?_toArray, List.getElem?_cons_succ, List.getElem?_cons_zero]; rfl
          · kernel_rfl
          simp only [Act.put, List.setIfInBounds_toArray, List.set_cons_zero, List.set_cons_succ]
          refine skipR (i := 20) (oi := ?_) ?_ (by kernel_rfl) (by kernel_rfl) (by kernel_rfl) ?_ (by assumption) ?_
          rotate_left 1
          · simp only [List.getElem?_toArray, List.getElem?_cons_succ, List.getElem?_cons_zero]; rfl
          · kernel_rfl
          simp only [Act.put, List.setIfInBounds_toArray, List.set_cons_zero, List.set_cons_succ]
          refine skipR (i := 21) (oi := ?_) ?_ (by kernel_rfl) (by kernel_rfl) (by kernel_rfl) ?_ (by assumption) ?_
          rotate_left 1
          · simp only [List.getElem?_toArray, List.getElem?_cons_succ, List.getElem?_cons_zero]; rfl
          · kernel_rfl
          simp only [Act.put, List.setIfInBounds_toArray, List.set_cons_zero, List.set_cons_succ]
          refine skipR (i := 22) (oi := ?_) ?_ (by kernel_rfl) (by kernel_rfl) (by kernel_rfl) ?_ (by assumption) ?_
          rotate_left 1
          · simp only [List.getElem?_toArray, List.getElem?_cons_succ, List.getElem?_cons_zero]; rfl
          · kernel_rfl
          simp only [Act.put, List.setIfInBounds_toArray, List.set_cons_zero, List.set_cons_succ]
          refine skipR (i := 23) (oi := ?_) ?_ (by kernel_rfl) (by kernel_rfl) (by kernel_rfl) ?_ (by assumption) ?_
          rotate_left 1
          · simp only [List.getElem?_toArray, List.getElem?_cons_succ, List.getElem?_cons_zero]; rfl
          · kernel_rfl
          simp only [Act.put, List.setIfInBounds_toArray, List.set_cons_zero, List.set_cons_succ]
          refine skipR (i := 24) (oi := ?_) ?_ (by kernel_rfl) (by kernel_rfl) (by kernel_rfl) ?_ (by assumption) ?_
          rotate_left 1
          · simp only [List.getElem?_toArray, List.getElem?_cons_succ, List.getElem?_cons_zero]; rfl
          · kernel_rfl
          simp only [Act.put, List.setIfInBounds_toArray, List.set_cons_zero, List.set_cons_succ]
          refine skipR (i := 25) (oi := ?_) ?_ (by kernel_rfl) (by kernel_rfl) (by kernel_rfl) ?_ (by assumption) ?_
          rotate_left 1
          · simp only [List.getElem?_toArray, List.getElem?_cons_succ, List.getElem?_cons_zero]; rfl
          · kernel_rfl
          simp only [Act.put, List.setIfInBounds_toArray, List.set_cons_zero, List.set_cons_succ]
          refine skipR (i := 26) (oi := ?_) ?_ (by kernel_rfl) (by kernel_rfl) (by kernel_rfl) ?_ (by assumption) ?_
          rotate_left 1
          · simp only [List.getElem?_toArray, List.getElem?_cons_succ, List.getElem?_cons_zero]; rfl
          · kernel_rfl
          simp only [Act.put, List.setIfInBounds_toArray, List.set_cons_zero, List.set_cons_succ]
          refine skipR (i := 27) (oi := ?_) ?_ (by kernel_rfl) (by kernel_rfl) (by kernel_rfl) ?_ (by assumption) ?_
          rotate_left 1
          · simp only [List.getElem?_toArray, List.getElem?_cons_succ, List.getElem?_cons_zero]; rfl
          · kernel_rfl
          simp only [Act.put, List.setIfInBounds_toArray, List.set_cons_zero, List.set_cons_succ]
          refine skipR (i := 28) (oi := ?_) ?_ (by kernel_rfl) (by kernel_rfl) (by kernel_rfl) ?_ (by assumption) ?_
          rotate_left 1
          · simp only [List.getElem?_toArray, List.getElem?_cons_succ, List.getElem?_cons_zero]; rfl
          · kernel_rfl
          simp only [Act.put, List.setIfInBounds_toArray, List.set_cons_zero, List.set_cons_succ]
          refine takeR (i := 29) (oi := ?_) (v := ?_) ?_ (by kernel_rfl) (by kernel_rfl) (by kernel_rfl) ?_ ?_ (by assumption) ?_
          rotate_left 2
          · simp only [List.getElem?_toArray, List.getElem?_cons_succ, List.getElem?_cons_zero]; rfl
          · kernel_rfl
          · intro Wx hSx
            try dsimp only at hSx
            go_simp
            try with_reducible rfl
          simp only [Act.put, List.setIfInBounds_toArray, List.set_cons_zero, List.set_cons_succ]
          refine takeR (i := 30) (oi := ?_) (v := ?_) ?_ (by kernel_rfl) (by kernel_rfl) (by kernel_rfl) ?_ ?_ (by assumption) ?_
          rotate_left 2
          · simp only [List.getElem?_toArray, List.getElem?_cons_succ, List.getElem?_cons_zero]; rfl
          · kernel_rfl
          · intro Wx hSx
            try dsimp only at hSx
            go_simp
            try with_reducible rfl
          simp only [Act.put, List.setIfInBounds_toArray, List.set_cons_zero, List.set_cons_succ]
          refine done_R HR (by kernel_rfl) ?_
          clear HR
          gi_wp2_with fail
          have hown2 := HI2.out.own
          rw [HKK.out] at hown2
          have hbv : ∀ b, (Value.slice T 0 tc).ownBlock = some b → w1.heap.size + 6 ≤ b ∧ b < W.heap.size := fun b hb => by
            have h := HI.out.own
            rw [HKK.out] at h
            exact own_block h b hb
          obtain ⟨Wf, hWf⟩ : ∃ Wf, w3.drew = Wf := ⟨_, rfl⟩
          have eF : Ext W2 Wf := by rw [← hWf]; exact e3.drew
          have g2 : ∀ W', Kept (fun b => b = w1.heap.size + 1 ∨ (Value.slice T 0 tc).ownBlock = some b) W2 W' → ∀ j, W'.cell? ⟨w1.heap.size + 1 + 1, j, none⟩ = (#[.pointer (some ⟨w1.heap.size + 1, 0, none⟩)] : Array Value)[j]? := fun W' hk => blk_cell (hk.keep HI2.out.hr (fun h => by
            rcases h with h | h
            · omega
            · have := hbv _ h; omega))
          have g1 : ∀ W', Kept (fun b => b = w1.heap.size + 1 ∨ (Value.slice T 0 tc).ownBlock = some b) W2 W' → ∀ j, W'.cell? ⟨W.heap.size, j, none⟩ = (#[.int .i64 (x 0), .int .i64 (x 1), .int .i64 (x 2), .int .i64 (x 3), .int .i64 (x 4), .int .i64 (x 5), .int .i64 (x 6)] : Array Value)[j]? := fun W' hk => blk_cell (hk.keep b6 (fun h => by
            rcases h with h | h
            · omega
            · have := hbv _ h; omega))
          have hKf : Kept (fun b => b = w1.heap.size + 1 ∨ (Value.slice T 0 tc).ownBlock = some b) W2 Wf := Kept.of_ext eF
          have hEal : Ext W2 (Wf.alloc (.cells #[.int .i64 (x 0), .int .i64 (x 1), .int .i64 (x 2), .int .i64 (x 3), .int .i64 (x 4), .int .i64 (x 5), .int .i64 (x 6)] 136)) := eF.alloc eF.size _
          have c3 := f3 Wf eF
          have c3' := f3 _ hEal
          obtain ⟨g4, cap4, w4, hap, hown4, hgr4, hg4⟩ := run_app_one (P := Tryz.prog) (w := Wf.alloc (.cells #[.int .i64 (x 0), .int .i64 (x 1), .int .i64 (x 2), .int .i64 (x 3), .int .i64 (x 4), .int .i64 (x 5), .int .i64 (x 6)] 136)) 139 139 136 Tryz.underlying139 (.agg #[.int .i64 0, .int .i64 0, .int .i64 0, .int .i64 0, .int .i64 0, .int .i64 0, .int .i64 0]) 56 #[.int .i64 (x 0), .int .i64 (x 1), .int .i64 (x 2), .int .i64 (x 3), .int .i64 (x 4), .int .i64 (x 5), .int .i64 (x 6)] (by kernel_rfl) rfl (by simp) (by simp) (by decide) (by simp [Value.oneCell']) (w1.heap.size + 6) (.slice T 0 tc) (0) _ (own_ext hown2 hEal) Wf.heap.size (heap_alloc_new Wf _) (by have := hEal.size; have := (Array.getElem?_eq_some_iff.1 b6).1; omega) (by omega)
          have HOWN4 := hid hown4
          have HGR4 := hid hgr4
          have HG4 := hid hg4
          clear hown4 hgr4 hg4 hown2
          refine region_roundR (Kept (fun b => b = w1.heap.size + 1 ∨ (Value.slice T 0 tc).ownBlock = some b) W2) 11 #[false, false, false, false, false, false, false, false, false, false, false] (by kernel_rfl) (by kernel_rfl) (by kernel_rfl) (by kernel_rfl) (fun R HR => ?_)
          rw [hWf]
          refine takeR (i := 0) (oi := ?_) (v := ?_) ?_ (by kernel_rfl) (by kernel_rfl) (by kernel_rfl) ?_ ?_ (by assumption) ?_
          rotate_left 2
          · simp only [List.getElem?_toArray, List.getElem?_cons_succ, List.getElem?_cons_zero]; rfl
          · kernel_rfl
          · intro Wx hSx
            try dsimp only at hSx
            go_simp
            try with_reducible rfl
          simp only [Act.put, List.setIfInBounds_toArray, List.set_cons_zero, List.set_cons_succ]
          refine takeR (i := 1) (oi := ?_) (v := ?_) ?_ (by kernel_rfl) (by kernel_rfl) (by kernel_rfl) ?_ ?_ (by assumption) ?_
          rotate_left 2
          · simp only [List.getElem?_toArray, List.getElem?_cons_succ, List.getElem?_cons_zero]; rfl
          · kernel_rfl
          · intro Wx hSx
            try dsimp only at hSx
            go_simp
            try with_reducible rfl
          simp only [Act.put, List.setIfInBounds_toArray, List.set_cons_zero, List.set_cons_succ]
          refine takeR (i := 2) (oi := ?_) (v := ?_) ?_ (by kernel_rfl) (by kernel_rfl) (by kernel_rfl) ?_ ?_ (by assumption) ?_
          rotate_left 2
          · simp only [List.getElem?_toArray, List.getElem?_cons_succ, List.getElem?_cons_zero]; rfl
          · kernel_rfl
          · intro Wx hSx
            try dsimp only at hSx
            go_simp
            try with_reducible rfl
          simp only [Act.put, List.setIfInBounds_toArray, List.set_cons_zero, List.set_cons_succ]
          refine takeR (i := 3) (oi := ?_) (v := ?_) ?_ (by kernel_rfl) (by kernel_rfl) (by kernel_rfl) ?_ ?_ (by assumption) ?_
          rotate_left 2
          · simp only [List.getElem?_toArray, List.getElem?_cons_succ, List.getElem?_cons_zero]; rfl
          · kernel_rfl
          · intro Wx hSx
            try dsimp only at hSx
            go_simp
            try with_reducible rfl
          simp only [Act.put, List.setIfInBounds_toArray, List.set_cons_zero, List.set_cons_succ]
          refine takeR (i := 5) (oi := ?_) (v := ?_) ?_ (by kernel_rfl) (by kernel_rfl) (by kernel_rfl) ?_ ?_ (by assumption) ?_
          rotate_left 2
          · simp only [List.getElem?_toArray, List.getElem?_cons_succ, List.getElem?_cons_zero]; rfl
          · kernel_rfl
          · intro Wx hSx
            try dsimp only at hSx
            go_simp
            try with_reducible rfl
          simp only [Act.put, List.setIfInBounds_toArray, List.set_cons_zero, List.set_cons_succ]
          have hKal : Kept (fun b => b = w1.heap.size + 1 ∨ (Value.slice T 0 tc).ownBlock = some b) W2 (Wf.alloc (.cells #[.int .i64 (x 0), .int .i64 (x 1), .int .i64 (x 2), .int .i64 (x 3), .int .i64 (x 4), .int .i64 (x 5), .int .i64 (x 6)] 136)) := Kept.of_ext hEal
          have hK4 : Kept (fun b => b = w1.heap.size + 1 ∨ (Value.slice T 0 tc).ownBlock = some b) W2 w4 := hKal.trans ⟨HGR4.out.os, HGR4.out.tape, HGR4.out.output, HGR4.out.size, fun b hb ho => HGR4.out.block b hb (fun h => ho (.inr h.symm))⟩
          have bq4 : w4.heap[w1.heap.size + 1]? = some (.cells #[.slice A n wc, .slice S pn pc, .int .i64 wrong, .slice T 0 tc, .map (some w1.heap.size)] 142 (0, 0)) := by
            rw [HGR4.out.block (w1.heap.size + 1) (by have := hEal.size; have := (Array.getElem?_eq_some_iff.1 HI2.out.hq).1; omega) (fun h => by have := hbv _ h.symm; omega)]
            exact ext_blk_keep hEal HI2.out.hq
          have c4 := blk_cell bq4
          have z4 : ∀ j, w4.frozen? ⟨w1.heap.size + 1, j, none⟩ = false := fun j => frozen_of_row w4 _ j _ _ bq4
          have hK5 : ∀ v, Kept (fun b => b = w1.heap.size + 1 ∨ (Value.slice T 0 tc).ownBlock = some b) W2 (w4.setCell ⟨w1.heap.size + 1, 3, none⟩ v) := fun v => hK4.set v (.inl rfl)
          have HK5 := hid hK5
          have HSZ := hid hEal.size
          have HBQ4 := hid bq4
          clear hK5 bq4
          refine wpAnyH_ready (rs := [4, 6]) (by kernel_rfl) (by simp) ?_
          refine AllReadyH.cons (o := ?_) ?_ (fun K hK => ?_) ?_
          rotate_left
          · simp only [List.getElem?_toArray, List.getElem?_cons_succ, List.getElem?_cons_zero]; rfl
          · go_simp
            refine hK.out _ _ hKf (fun hHeld => ?_)
            clear hK K
            simp only [Act.put, List.setIfInBounds_toArray, List.set_cons_zero, List.set_cons_succ]
            refine wpAnyH_ready (rs := [6]) (by kernel_rfl) (by simp) ?_
            refine AllReadyH.cons (o := ?_) ?_ (fun K hK => ?_) AllReadyH.nil
            rotate_left
            · simp only [List.getElem?_toArray, List.getElem?_cons_succ, List.getElem?_cons_zero]; rfl
            go_simp
            refine hK.out _ _ hKal (fun hHeld => ?_)
            clear hK K
            simp only [Act.put, List.setIfInBounds_toArray, List.set_cons_zero, List.set_cons_succ]
            refine wpAnyH_ready (rs := [7]) (by kernel_rfl) (by simp) ?_
            refine AllReadyH.cons (o := ?_) ?_ (fun K hK => ?_) AllReadyH.nil
            rotate_left
            · simp only [List.getElem?_toArray, List.getElem?_cons_succ, List.getElem?_cons_zero]; rfl
            refine step_run_app rfl _ _ _ rfl rfl rfl hap ?_
            refine hK.out _ _ hK4 (fun hHeld => ?_)
            clear hK K
            simp only [Act.put, List.setIfInBounds_toArray, List.set_cons_zero, List.set_cons_succ]
            refine takeR (i := 8) (oi := ?_) (v := ?_) ?_ (by kernel_rfl) (by kernel_rfl) (by kernel_rfl) ?_ ?_ (by assumption) ?_
            rotate_left 2
            · simp only [List.getElem?_toArray, List.getElem?_cons_succ, List.getElem?_cons_zero]; rfl
            · kernel_rfl
            · intro Wx hSx
              try dsimp only at hSx
              go_simp
              try with_reducible rfl
            simp only [Act.put, List.setIfInBounds_toArray, List.set_cons_zero, List.set_cons_succ]
            refine takeR (i := 9) (oi := ?_) (v := ?_) ?_ (by kernel_rfl) (by kernel_rfl) (by kernel_rfl) ?_ ?_ (by assumption) ?_
            rotate_left 2
            · simp only [List.getElem?_toArray, List.getElem?_cons_succ, List.getElem?_cons_zero]; rfl
            · kernel_rfl
            · intro Wx hSx
              try dsimp only at hSx
              go_simp
              try with_reducible rfl
            simp only [Act.put, List.setIfInBounds_toArray, List.set_cons_zero, List.set_cons_succ]
            refine wpAnyH_ready (rs := [10]) (by kernel_rfl) (by simp) ?_
            refine AllReadyH.cons (o := ?_) ?_ (fun K hK => ?_) AllReadyH.nil
            rotate_left
            · simp only [List.getElem?_toArray, List.getElem?_cons_succ, List.getElem?_cons_zero]; rfl
            go_simp
            refine hK.out _ _ (HK5.out _) (fun hHeld => ?_)
            clear hK K
            simp only [Act.put, List.setIfInBounds_toArray, List.set_cons_zero, List.set_cons_succ]
            refine done_R HR (by kernel_rfl) ?_
            clear HR
            have HSX := hid hsx
            clear hsx
            obtain ⟨w5, hw5⟩ : ∃ w5, w4.setCell ⟨w1.heap.size + 1, 3, none⟩ (.slice (some ⟨g4, 0, none⟩) 1 cap4) = w5 := ⟨_, rfl⟩
            have hK5 : Kept (fun b => b = w1.heap.size + 1 ∨ (Value.slice T 0 tc).ownBlock = some b) W2 w5 := by rw [← hw5]; exact HK5.out _
            have bq5 : w5.heap[w1.heap.size + 1]? = some (.cells #[.slice A n wc, .slice S pn pc, .int .i64 wrong, .slice (some ⟨g4, 0, none⟩) 1 cap4, .map (some w1.heap.size)] 142 (0, 0)) := by rw [← hw5]; exact heap_set_at HBQ4.out rfl
            rw [hw5]
            have hne5 : ∀ b, b < w1.heap.size + 6 → b ≠ w1.heap.size + 1 → ¬ (b = w1.heap.size + 1 ∨ (Value.slice T 0 tc).ownBlock = some b) := fun b h1 h2 h => by
              rcases h with h | h
              · exact h2 h
              · have := hbv _ h; omega
            have bt5 := hK5.keep HI2.out.ht (hne5 _ (by omega) (by omega))
            have br5 := hK5.keep HI2.out.hr (hne5 _ (by omega) (by omega))
            have bo5 := hK5.keep b6 (fun h => by
              have := HSX.out
              rcases h with h | h
              · omega
              · have := hbv _ h; omega)
            obtain ⟨kc, hkc, hcnt⟩ := HI2.out.cnt
            have hcnt5 : IsCnt w5 w1.heap.size kc := hcnt.keep (hK5.blk _ hcnt.lt (hne5 _ (by omega) (by omega)))
            have ct5 := blk_cell bt5
            have HCNT5 := hid hcnt5
            have HBQ5 := hid bq5
            have HBT5 := hid bt5
            have HBR5 := hid br5
            have HBO5 := hid bo5
            have HNE5 := hid hne5
            have hK45 : Kept (fun b => b = w1.heap.size + 1) w4 w5 := by rw [← hw5]; exact (Kept.refl _ w4).set _ rfl
            have HK45 := hid hK45
            have HKK5 := hid hK5
            have HBV := hid hbv
            clear hK45 hcnt hcnt5 bq5 bt5 br5 bo5 hne5 hK5 hw5 hbv f0 f1 f2 f3 g1 g2 c3 c3' hap hK4 hKal hEal
            gi_wp2_with fail
            gi_loopw [64] (fun i wr => ∃ j : Nat, j ≤ pn ∧ i = .int .i64 j ∧ Kept (fun b => b = w1.heap.size) w5 wr ∧ IsCnt wr w1.heap.size (kc + j)) (fun i _ => pn - (intOf i).toNat)
            case atStart => exact ⟨0, Nat.zero_le _, rfl, Kept.refl _ _, HCNT5.out⟩
            case round =>
              obtain ⟨j, hj, rfl, hKj, hcj⟩ := hrel
              by_cases hlt : j < pn
              · have hxj : 0 ≤ x j ∧ x j ≤ 1000 := by
                  have h := listsF_mem (prefix_mem HPRE.out) j (by have := HPL.out; omega)
                  have := HWL.out
                  omega
                have hmx : kc + j < maxLen := by
                  have h2 := listsF_len HFE.out
                  have h3 := (List.IsPrefix.sublist HPRE.out).length_le
                  simp at h3
                  unfold maxLen
                  omega
                have k5 : ∀ W', Kept (fun b => b = w1.heap.size) wr W' → Kept (fun b => b = w1.heap.size) w5 W' := fun W' h => hKj.trans h
                have r0 : ∀ W', Kept (fun b => b = w1.heap.size) wr W' → ∀ i, W'.cell? ⟨w1.heap.size + 1 + 1, i, none⟩ = (#[.pointer (some ⟨w1.heap.size + 1, 0, none⟩)] : Array Value)[i]? := fun W' h => blk_cell ((k5 W' h).keep HBR5.out (by omega))
                have r1 : ∀ W', Kept (fun b => b = w1.heap.size) wr W' → ∀ i, W'.cell? ⟨w1.heap.size + 1, i, none⟩ = (#[.slice A n wc, .slice S pn pc, .int .i64 wrong, .slice (some ⟨g4, 0, none⟩) 1 cap4, .map (some w1.heap.size)] : Array Value)[i]? := fun W' h => blk_cell ((k5 W' h).keep HBQ5.out (by omega))
                have r2 : ∀ W', Kept (fun b => b = w1.heap.size) wr W' → W'.cell? ⟨W.heap.size, j, none⟩ = some (.int .i64 (x j)) := fun W' h => (blk_cell ((k5 W' h).keep HBO5.out (by have := HSX.out; omega)) j).trans (m7_at x j (by omega))
                have hj0 : (0 : Int) ≤ (j : Int) := by omega
                have hj1 : (j : Int) < 7 := by omega
                obtain ⟨Wg, hWg⟩ : ∃ Wg, wr.drew = Wg := ⟨_, rfl⟩
                have hKg : Kept (fun b => b = w1.heap.size) wr Wg := by rw [← hWg]; exact (Kept.refl _ wr).drew
                have hcg : IsCnt Wg w1.heap.size (kc + j) := by rw [← hWg]; exact hcj
                obtain ⟨cc, cd, v0, st, Wm, Wn, Wo, hlk, hlk2, hme, hes, hes2, hcn, hco, hkm, hkn, hko⟩ := cnt_step2 hcg hmx (j : Int) (x j) ⟨by omega, by omega⟩ hxj
                have HKJ := hid hKj
                have hKm := hKg.trans hkm
                have hKn := hKg.trans hkn
                have hKo := hKg.trans hko
                have HCN := hid hcn
                have HCO := hid hco
                have HMX := hid hmx
                clear hmx hcg hcn hco hkm hkn hko hKj hcj k5
                gi_wp2_with fail
                refine region_roundR (Kept (fun b => b = w1.heap.size) wr) 14 #[false, false, false, false, false, false, false, false, false, false, false, false, false, false] (by kernel_rfl) (by kernel_rfl) (by kernel_rfl) (by kernel_rfl) (fun R HR => ?_)
                rw [hWg]
                refine takeR (i := 0) (oi := ?_) (v := ?_) ?_ (by kernel_rfl) (by kernel_rfl) (by kernel_rfl) ?_ ?_ (by assumption) ?_
                rotate_left 2
                · simp only [List.getElem?_toArray, List.getElem?_cons_succ, List.getElem?_cons_zero]; rfl
                · kernel_rfl
                · intro Wx hSx
                  try dsimp only at hSx
                  go_simp
                  try with_reducible rfl
                simp only [Act.put, List.setIfInBounds_toArray, List.set_cons_zero, List.set_cons_succ]
                refine takeR (i := 1) (oi := ?_) (v := ?_) ?_ (by kernel_rfl) (by kernel_rfl) (by kernel_rfl) ?_ ?_ (by assumption) ?_
                rotate_left 2
                · simp only [List.getElem?_toArray, List.getElem?_cons_succ, List.getElem?_cons_zero]; rfl
                · kernel_rfl
                · intro Wx hSx
                  try dsimp only at hSx
                  go_simp
                  try with_reducible rfl
                simp only [Act.put, List.setIfInBounds_toArray, List.set_cons_zero, List.set_cons_succ]
                refine takeR (i := 2) (oi := ?_) (v := ?_) ?_ (by kernel_rfl) (by kernel_rfl) (by kernel_rfl) ?_ ?_ (by assumption) ?_
                rotate_left 2
                · simp only [List.getElem?_toArray, List.getElem?_cons_succ, List.getElem?_cons_zero]; rfl
                · kernel_rfl
                · intro Wx hSx
                  try dsimp only at hSx
                  go_simp
                  try with_reducible rfl
                simp only [Act.put, List.setIfInBounds_toArray, List.set_cons_zero, List.set_cons_succ]
                refine takeR (i := 3) (oi := ?_) (v := ?_) ?_ (by kernel_rfl) (by kernel_rfl) (by kernel_rfl) ?_ ?_ (by assumption) ?_
                rotate_left 2
                · simp only [List.getElem?_toArray, List.getElem?_cons_succ, List.getElem?_cons_zero]; rfl
                · kernel_rfl
                · intro Wx hSx
                  try dsimp only at hSx
                  go_simp
                  try with_reducible rfl
                simp only [Act.put, List.setIfInBounds_toArray, List.set_cons_zero, List.set_cons_succ]
                refine takeR (i := 4) (oi := ?_) (v := ?_) ?_ (by kernel_rfl) (by kernel_rfl) (by kernel_rfl) ?_ ?_ (by assumption) ?_
                rotate_left 2
                · simp only [List.getElem?_toArray, List.getElem?_cons_succ, List.getElem?_cons_zero]; rfl
                · kernel_rfl
                · intro Wx hSx
                  try dsimp only at hSx
                  go_simp
                  try with_reducible rfl
                simp only [Act.put, List.setIfInBounds_toArray, List.set_cons_zero, List.set_cons_succ]
                refine takeR (i := 5) (oi := ?_) (v := ?_) ?_ (by kernel_rfl) (by kernel_rfl) (by kernel_rfl) ?_ ?_ (by assumption) ?_
                rotate_left 2
                · simp only [List.getElem?_toArray, List.getElem?_cons_succ, List.getElem?_cons_zero]; rfl
                · kernel_rfl
                · intro Wx hSx
                  try dsimp only at hSx
                  go_simp
                  try with_reducible rfl
                simp only [Act.put, List.setIfInBounds_toArray, List.set_cons_zero, List.set_cons_succ]
                refine takeR (i := 6) (oi := ?_) (v := ?_) ?_ (by kernel_rfl) (by kernel_rfl) (by kernel_rfl) ?_ ?_ (by assumption) ?_
                rotate_left 2
                · simp only [List.getElem?_toArray, List.getElem?_cons_succ, List.getElem?_cons_zero]; rfl
                · kernel_rfl
                · intro Wx hSx
                  try dsimp only at hSx
                  go_simp
                  try with_reducible rfl
                simp only [Act.put, List.setIfInBounds_toArray, List.set_cons_zero, List.set_cons_succ]
                refine takeR (i := 7) (oi := ?_) (v := ?_) ?_ (by kernel_rfl) (by kernel_rfl) (by kernel_rfl) ?_ ?_ (by assumption) ?_
                rotate_left 2
                · simp only [List.getElem?_toArray, List.getElem?_cons_succ, List.getElem?_cons_zero]; rfl
                · kernel_rfl
                · intro Wx hSx
                  try dsimp only at hSx
                  go_simp
                  try with_reducible rfl
                simp only [Act.put, List.setIfInBounds_toArray, List.set_cons_zero, List.set_cons_succ]
                refine takeR (i := 8) (oi := ?_) (v := ?_) ?_ (by kernel_rfl) (by kernel_rfl) (by kernel_rfl) ?_ ?_ (by assumption) ?_
                rotate_left 2
                · simp only [List.getElem?_toArray, List.getElem?_cons_succ, List.getElem?_cons_zero]; rfl
                · kernel_rfl
                · intro Wx hSx
                  try dsimp only at hSx
                  go_simp
                  try with_reducible rfl
                simp only [Act.put, List.setIfInBounds_toArray, List.set_cons_zero, List.set_cons_succ]
                refine wpAnyH_ready (rs := [9, 11]) (by kernel_rfl) (by simp) ?_
                refine AllReadyH.cons (o := ?_) ?_ (fun K hK => ?_) ?_
                rotate_left
                · simp only [List.getElem?_toArray, List.getElem?_cons_succ, List.getElem?_cons_zero]; rfl
                · go_simp
                  refine hK.out _ _ hKg (fun hHeld => ?_)
                  clear hK K
                  simp only [Act.put, List.setIfInBounds_toArray, List.set_cons_zero, List.set_cons_succ]
                  refine takeR (i := 10) (oi := ?_) (v := ?_) ?_ (by kernel_rfl) (by kernel_rfl) (by kernel_rfl) ?_ ?_ (by assumption) ?_
                  rotate_left 2
                  · simp only [List.getElem?_toArray, List.getElem?_cons_succ, List.getElem?_cons_zero]; rfl
                  · kernel_rfl
                  · intro Wx hSx
                    try dsimp only at hSx
                    go_simp
                    try with_reducible rfl
                  simp only [Act.put, List.setIfInBounds_toArray, List.set_cons_zero, List.set_cons_succ]
                  refine wpAnyH_ready (rs := [11]) (by kernel_rfl) (by simp) ?_
                  refine AllReadyH.cons (o := ?_) ?_ (fun K hK => ?_) AllReadyH.nil
                  rotate_left
                  · simp only [List.getElem?_toArray, List.getElem?_cons_succ, List.getElem?_cons_zero]; rfl
                  go_simp
                  refine hK.out _ _ hKm (fun hHeld => ?_)
                  clear hK K
                  simp only [Act.put, List.setIfInBounds_toArray, List.set_cons_zero, List.set_cons_succ]
                  refine takeR (i := 12) (oi := ?_) (v := ?_) ?_ (by kernel_rfl) (by kernel_rfl) (by kernel_rfl) ?_ ?_ (by assumption) ?_
                  rotate_left 2
                  · simp only [List.getElem?_toArray, List.getElem?_cons_succ, List.getElem?_cons_zero]; rfl
                  · kernel_rfl
                  · intro Wx hSx
                    try dsimp only at hSx
                    go_simp
                    try with_reducible rfl
                  simp only [Act.put, List.setIfInBounds_toArray, List.set_cons_zero, List.set_cons_succ]
                  refine wpAnyH_ready (rs := [13]) (by kernel_rfl) (by simp) ?_
                  refine AllReadyH.cons (o := ?_) ?_ (fun K hK => ?_) AllReadyH.nil
                  rotate_left
                  · simp only [List.getElem?_toArray, List.getElem?_cons_succ, List.getElem?_cons_zero]; rfl
                  go_simp
                  refine hK.out _ _ hKn (fun hHeld => ?_)
                  clear hK K
                  simp only [Act.put, List.setIfInBounds_toArray, List.set_cons_zero, List.set_cons_succ]
                  refine done_R HR (by kernel_rfl) ?_
                  clear HR hlk hme hes hlk2 hes2
                  gi_wp2_with fail
                  exact ⟨⟨j + 1, hlt, by go_num, HKJ.out.trans hKn, HCN.out⟩, by simp [intOf]; omega⟩
                refine AllReadyH.cons (o := ?_) ?_ (fun K hK => ?_) AllReadyH.nil
                rotate_left
                · simp only [List.getElem?_toArray, List.getElem?_cons_succ, List.getElem?_cons_zero]; rfl
                · go_simp
                  refine hK.out _ _ hKm (fun hHeld => ?_)
                  clear hK K
                  simp only [Act.put, List.setIfInBounds_toArray, List.set_cons_zero, List.set_cons_succ]
                  refine takeR (i := 12) (oi := ?_) (v := ?_) ?_ (by kernel_rfl) (by kernel_rfl) (by kernel_rfl) ?_ ?_ (by assumption) ?_
                  rotate_left 2
                  · simp only [List.getElem?_toArray, List.getElem?_cons_succ, List.getElem?_cons_zero]; rfl
                  · kernel_rfl
                  · intro Wx hSx
                    try dsimp only at hSx
                    go_simp
                    try with_reducible rfl
                  simp only [Act.put, List.setIfInBounds_toArray, List.set_cons_zero, List.set_cons_succ]
                  refine wpAnyH_ready (rs := [9]) (by kernel_rfl) (by simp) ?_
                  refine AllReadyH.cons (o := ?_) ?_ (fun K hK => ?_) AllReadyH.nil
                  rotate_left
                  · simp only [List.getElem?_toArray, List.getElem?_cons_succ, List.getElem?_cons_zero]; rfl
                  go_simp
                  refine hK.out _ _ hKm (fun hHeld => ?_)
                  clear hK K
                  simp only [Act.put, List.setIfInBounds_toArray, List.set_cons_zero, List.set_cons_succ]
                  refine takeR (i := 10) (oi := ?_) (v := ?_) ?_ (by kernel_rfl) (by kernel_rfl) (by kernel_rfl) ?_ ?_ (by assumption) ?_
                  rotate_left 2
                  · simp only [List.getElem?_toArray, List.getElem?_cons_succ, List.getElem?_cons_zero]; rfl
                  · kernel_rfl
                  · intro Wx hSx
                    try dsimp only at hSx
                    go_simp
                    try with_reducible rfl
                  simp only [Act.put, List.setIfInBounds_toArray, List.set_cons_zero, List.set_cons_succ]
                  refine wpAnyH_ready (rs := [13]) (by kernel_rfl) (by simp) ?_
                  refine AllReadyH.cons (o := ?_) ?_ (fun K hK => ?_) AllReadyH.nil
                  rotate_left
                  · simp only [List.getElem?_toArray, List.getElem?_cons_succ, List.getElem?_cons_zero]; rfl
                  go_simp
                  refine hK.out _ _ hKo (fun hHeld => ?_)
                  clear hK K
                  simp only [Act.put, List.setIfInBounds_toArray, List.set_cons_zero, List.set_cons_succ]
                  refine done_R HR (by kernel_rfl) ?_
                  clear HR hlk hme hes hlk2 hes2
                  gi_wp2_with fail
                  exact ⟨⟨j + 1, hlt, by go_num, HKJ.out.trans hKo, HCO.out⟩, by simp [intOf]; omega⟩
              · obtain rfl : j = pn := by omega
                gi_wp2_with fail
                have hfl : (pre ++ [x]).filter (truthP women pieces wrong) = pre.filter (truthP women pieces wrong) ++ [x] := by simp [htr]
                have hall : Kept ow W2 wr := (HKK5.out.mono fun b h => (HI2.out.iff b).2 (h.imp id id |> Or.inr)).trans (hKj.mono fun b h => (HI2.out.iff b).2 (.inl h))
                have hw7 := HPL.out
                refine ⟨hall, fun b => b = w1.heap.size ∨ b = w1.heap.size + 1 ∨ b = g4, ⟨.slice (some ⟨g4, 0, none⟩) 1 cap4, hKj.keep HBQ5.out (by omega), ?_, ⟨kc + j, by simp; omega, hcj⟩, hKj.keep HBR5.out (by omega), hKj.keep HBT5.out (by omega), hKj.keep (HKK5.out.keep HI2.out.hu (HNE5.out _ (by omega) (by omega))) (by omega), hall.extOld HI2.out.ext (fun b hb h => by
                  rcases (HI2.out.iff b).1 h with h | h | h
                  · omega
                  · omega
                  · have := HBV.out _ h; omega), fun b => by simp [Value.ownBlock, eq_comm]⟩, fun b hb => ?_⟩
                · rw [hfl, List.length_append, HKK.out, ownCells_append]
                  obtain ⟨h1, h2⟩ := HOWN4.out
                  refine ⟨h1, h2.imp id ?_⟩
                  rintro ⟨g', cap', cur, he, hg', hc', r⟩
                  have he' : g' = g4 := by injection he with h; injection h with h; injection h with h; exact h.symm
                  have hgne : g' ≠ w1.heap.size + 1 ∧ g' ≠ w1.heap.size := by omega
                  exact ⟨g', cap', cur, he, hg', hKj.keep (HK45.out.keep hc' hgne.1) hgne.2, r⟩
                · rcases hb with rfl | rfl | rfl
                  · exact .inl ((HI2.out.iff _).2 (.inl rfl))
                  · exact .inl ((HI2.out.iff _).2 (.inr (.inl rfl)))
                  · rcases HG4.out with h | h
                    · exact .inl ((HI2.out.iff _).2 (.inr (.inr h)))
                    · exact .inr (Nat.le_trans HSZ.out h)
          refine AllReadyH.cons (o := ?_) ?_ (fun K hK => ?_) AllReadyH.nil
          rotate_left
          · simp only [List.getElem?_toArray, List.getElem?_cons_succ, List.getElem?_cons_zero]; rfl
          · go_simp
            refine hK.out _ _ hKal (fun hHeld => ?_)
            clear hK K
            simp only [Act.put, List.setIfInBounds_toArray, List.set_cons_zero, List.set_cons_succ]
            refine wpAnyH_ready (rs := [4]) (by kernel_rfl) (by simp) ?_
            refine AllReadyH.cons (o := ?_) ?_ (fun K hK => ?_) AllReadyH.nil
            rotate_left
            · simp only [List.getElem?_toArray, List.getElem?_cons_succ, List.getElem?_cons_zero]; rfl
            go_simp
            refine hK.out _ _ hKal (fun hHeld => ?_)
            clear hK K
            simp only [Act.put, List.setIfInBounds_toArray, List.set_cons_zero, List.set_cons_succ]
            refine wpAnyH_ready (rs := [7]) (by kernel_rfl) (by simp) ?_
            refine AllReadyH.cons (o := ?_) ?_ (fun K hK => ?_) AllReadyH.nil
            rotate_left
            · simp only [List.getElem?_toArray, List.getElem?_cons_succ, List.getElem?_cons_zero]; rfl
            refine step_run_app rfl _ _ _ rfl rfl rfl hap ?_
            refine hK.out _ _ hK4 (fun hHeld => ?_)
            clear hK K
            simp only [Act.put, List.setIfInBounds_toArray, List.set_cons_zero, List.set_cons_succ]
            refine takeR (i := 8) (oi := ?_) (v := ?_) ?_ (by kernel_rfl) (by kernel_rfl) (by kernel_rfl) ?_ ?_ (by assumption) ?_
            rotate_left 2
            · simp only [List.getElem?_toArray, List.getElem?_cons_succ, List.getElem?_cons_zero]; rfl
            · kernel_rfl
            · intro Wx hSx
              try dsimp only at hSx
              go_simp
              try with_reducible rfl
            simp only [Act.put, List.setIfInBounds_toArray, List.set_cons_zero, List.set_cons_succ]
            refine takeR (i := 9) (oi := ?_) (v := ?_) ?_ (by kernel_rfl) (by kernel_rfl) (by kernel_rfl) ?_ ?_ (by assumption) ?_
            rotate_left 2
            · simp only [List.getElem?_toArray, List.getElem?_cons_succ, List.getElem?_cons_zero]; rfl
            · kernel_rfl
            · intro Wx hSx
              try dsimp only at hSx
              go_simp
              try with_reducible rfl
            simp only [Act.put, List.setIfInBounds_toArray, List.set_cons_zero, List.set_cons_succ]
            refine wpAnyH_ready (rs := [10]) (by kernel_rfl) (by simp) ?_
            refine AllReadyH.cons (o := ?_) ?_ (fun K hK => ?_) AllReadyH.nil
            rotate_left
            · simp only [List.getElem?_toArray, List.getElem?_cons_succ, List.getElem?_cons_zero]; rfl
            go_simp
            refine hK.out _ _ (HK5.out _) (fun hHeld => ?_)
            clear hK K
            simp only [Act.put, List.setIfInBounds_toArray, List.set_cons_zero, List.set_cons_succ]
            refine done_R HR (by kernel_rfl) ?_
            clear HR
            have HSX := hid hsx
            clear hsx
            obtain ⟨w5, hw5⟩ : ∃ w5, w4.setCell ⟨w1.heap.size + 1, 3, none⟩ (.slice (some ⟨g4, 0, none⟩) 1 cap4) = w5 := ⟨_, rfl⟩
            have hK5 : Kept (fun b => b = w1.heap.size + 1 ∨ (Value.slice T 0 tc).ownBlock = some b) W2 w5 := by rw [← hw5]; exact HK5.out _
            have bq5 : w5.heap[w1.heap.size + 1]? = some (.cells #[.slice A n wc, .slice S pn pc, .int .i64 wrong, .slice (some ⟨g4, 0, none⟩) 1 cap4, .map (some w1.heap.size)] 142 (0, 0)) := by rw [← hw5]; exact heap_set_at HBQ4.out rfl
            rw [hw5]
            have hne5 : ∀ b, b < w1.heap.size + 6 → b ≠ w1.heap.size + 1 → ¬ (b = w1.heap.size + 1 ∨ (Value.slice T 0 tc).ownBlock = some b) := fun b h1 h2 h => by
              rcases h with h | h
              · exact h2 h
              · have := hbv _ h; omega
            have bt5 := hK5.keep HI2.out.ht (hne5 _ (by omega) (by omega))
            have br5 := hK5.keep HI2.out.hr (hne5 _ (by omega) (by omega))
            have bo5 := hK5.keep b6 (fun h => by
              have := HSX.out
              rcases h with h | h
              · omega
              · have := hbv _ h; omega)
            obtain ⟨kc, hkc, hcnt⟩ := HI2.out.cnt
            have hcnt5 : IsCnt w5 w1.heap.size kc := hcnt.keep (hK5.blk _ hcnt.lt (hne5 _ (by omega) (by omega)))
            have ct5 := blk_cell bt5
            have HCNT5 := hid hcnt5
            have HBQ5 := hid bq5
            have HBT5 := hid bt5
            have HBR5 := hid br5
            have HBO5 := hid bo5
            have HNE5 := hid hne5
            have hK45 : Kept (fun b => b = w1.heap.size + 1) w4 w5 := by rw [← hw5]; exact (Kept.refl _ w4).set _ rfl
            have HK45 := hid hK45
            have HKK5 := hid hK5
            have HBV := hid hbv
            clear hK45 hcnt hcnt5 bq5 bt5 br5 bo5 hne5 hK5 hw5 hbv f0 f1 f2 f3 g1 g2 c3 c3' hap hK4 hKal hEal
            gi_wp2_with fail
            gi_loopw [64] (fun i wr => ∃ j : Nat, j ≤ pn ∧ i = .int .i64 j ∧ Kept (fun b => b = w1.heap.size) w5 wr ∧ IsCnt wr w1.heap.size (kc + j)) (fun i _ => pn - (intOf i).toNat)
            case atStart => exact ⟨0, Nat.zero_le _, rfl, Kept.refl _ _, HCNT5.out⟩
            case round =>
              obtain ⟨j, hj, rfl, hKj, hcj⟩ := hrel
              by_cases hlt : j < pn
              · have hxj : 0 ≤ x j ∧ x j ≤ 1000 := by
                  have h := listsF_mem (prefix_mem HPRE.out) j (by have := HPL.out; omega)
                  have := HWL.out
                  omega
                have hmx : kc + j < maxLen := by
                  have h2 := listsF_len HFE.out
                  have h3 := (List.IsPrefix.sublist HPRE.out).length_le
                  simp at h3
                  unfold maxLen
                  omega
                have k5 : ∀ W', Kept (fun b => b = w1.heap.size) wr W' → Kept (fun b => b = w1.heap.size) w5 W' := fun W' h => hKj.trans h
                have r0 : ∀ W', Kept (fun b => b = w1.heap.size) wr W' → ∀ i, W'.cell? ⟨w1.heap.size + 1 + 1, i, none⟩ = (#[.pointer (some ⟨w1.heap.size + 1, 0, none⟩)] : Array Value)[i]? := fun W' h => blk_cell ((k5 W' h).keep HBR5.out (by omega))
                have r1 : ∀ W', Kept (fun b => b = w1.heap.size) wr W' → ∀ i, W'.cell? ⟨w1.heap.size + 1, i, none⟩ = (#[.slice A n wc, .slice S pn pc, .int .i64 wrong, .slice (some ⟨g4, 0, none⟩) 1 cap4, .map (some w1.heap.size)] : Array Value)[i]? := fun W' h => blk_cell ((k5 W' h).keep HBQ5.out (by omega))
                have r2 : ∀ W', Kept (fun b => b = w1.heap.size) wr W' → W'.cell? ⟨W.heap.size, j, none⟩ = some (.int .i64 (x j)) := fun W' h => (blk_cell ((k5 W' h).keep HBO5.out (by have := HSX.out; omega)) j).trans (m7_at x j (by omega))
                have hj0 : (0 : Int) ≤ (j : Int) := by omega
                have hj1 : (j : Int) < 7 := by omega
                obtain ⟨Wg, hWg⟩ : ∃ Wg, wr.drew = Wg := ⟨_, rfl⟩
                have hKg : Kept (fun b => b = w1.heap.size) wr Wg := by rw [← hWg]; exact (Kept.refl _ wr).drew
                have hcg : IsCnt Wg w1.heap.size (kc + j) := by rw [← hWg]; exact hcj
                obtain ⟨cc, cd, v0, st, Wm, Wn, Wo, hlk, hlk2, hme, hes, hes2, hcn, hco, hkm, hkn, hko⟩ := cnt_step2 hcg hmx (j : Int) (x j) ⟨by omega, by omega⟩ hxj
                have HKJ := hid hKj
                have hKm := hKg.trans hkm
                have hKn := hKg.trans hkn
                have hKo := hKg.trans hko
                have HCN := hid hcn
                have HCO := hid hco
                have HMX := hid hmx
                clear hmx hcg hcn hco hkm hkn hko hKj hcj k5
                gi_wp2_with fail
                refine region_roundR (Kept (fun b => b = w1.heap.size) wr) 14 #[false, false, false, false, false, false, false, false, false, false, false, false, false, false] (by kernel_rfl) (by kernel_rfl) (by kernel_rfl) (by kernel_rfl) (fun R HR => ?_)
                rw [hWg]
                refine takeR (i := 0) (oi := ?_) (v := ?_) ?_ (by kernel_rfl) (by kernel_rfl) (by kernel_rfl) ?_ ?_ (by assumption) ?_
                rotate_left 2
                · simp only [List.getElem?_toArray, List.getElem?_cons_succ, List.getElem?_cons_zero]; rfl
                · kernel_rfl
                · intro Wx hSx
                  try dsimp only at hSx
                  go_simp
                  try with_reducible rfl
                simp only [Act.put, List.setIfInBounds_toArray, List.set_cons_zero, List.set_cons_succ]
                refine takeR (i := 1) (oi := ?_) (v := ?_) ?_ (by kernel_rfl) (by kernel_rfl) (by kernel_rfl) ?_ ?_ (by assumption) ?_
                rotate_left 2
                · simp only [List.getElem?_toArray, List.getElem?_cons_succ, List.getElem?_cons_zero]; rfl
                · kernel_rfl
                · intro Wx hSx
                  try dsimp only at hSx
                  go_simp
                  try with_reducible rfl
                simp only [Act.put, List.setIfInBounds_toArray, List.set_cons_zero, List.set_cons_succ]
                refine takeR (i := 2) (oi := ?_) (v := ?_) ?_ (by kernel_rfl) (by kernel_rfl) (by kernel_rfl) ?_ ?_ (by assumption) ?_
                rotate_left 2
                · simp only [List.getElem?_toArray, List.getElem?_cons_succ, List.getElem?_cons_zero]; rfl
                · kernel_rfl
                · intro Wx hSx
                  try dsimp only at hSx
                  go_simp
                  try with_reducible rfl
                simp only [Act.put, List.setIfInBounds_toArray, List.set_cons_zero, List.set_cons_succ]
                refine takeR (i := 3) (oi := ?_) (v := ?_) ?_ (by kernel_rfl) (by kernel_rfl) (by kernel_rfl) ?_ ?_ (by assumption) ?_
                rotate_left 2
                · simp only [List.getElem?_toArray, List.getElem?_cons_succ, List.getElem?_cons_zero]; rfl
                · kernel_rfl
                · intro Wx hSx
                  try dsimp only at hSx
                  go_simp
                  try with_reducible rfl
                simp only [Act.put, List.setIfInBounds_toArray, List.set_cons_zero, List.set_cons_succ]
                refine takeR (i := 4) (oi := ?_) (v := ?_) ?_ (by kernel_rfl) (by kernel_rfl) (by kernel_rfl) ?_ ?_ (by assumption) ?_
                rotate_left 2
                · simp only [List.getElem?_toArray, List.getElem?_cons_succ, List.getElem?_cons_zero]; rfl
                · kernel_rfl
                · intro Wx hSx
                  try dsimp only at hSx
                  go_simp
                  try with_reducible rfl
                simp only [Act.put, List.setIfInBounds_toArray, List.set_cons_zero, List.set_cons_succ]
                refine takeR (i := 5) (oi := ?_) (v := ?_) ?_ (by kernel_rfl) (by kernel_rfl) (by kernel_rfl) ?_ ?_ (by assumption) ?_
                rotate_left 2
                · simp only [List.getElem?_toArray, List.getElem?_cons_succ, List.getElem?_cons_zero]; rfl
                · kernel_rfl
                · intro Wx hSx
                  try dsimp only at hSx
                  go_simp
                  try with_reducible rfl
                simp only [Act.put, List.setIfInBounds_toArray, List.set_cons_zero, List.set_cons_succ]
                refine takeR (i := 6) (oi := ?_) (v := ?_) ?_ (by kernel_rfl) (by kernel_rfl) (by kernel_rfl) ?_ ?_ (by assumption) ?_
                rotate_left 2
                · simp only [List.getElem?_toArray, List.getElem?_cons_succ, List.getElem?_cons_zero]; rfl
                · kernel_rfl
                · intro Wx hSx
                  try dsimp only at hSx
                  go_simp
                  try with_reducible rfl
                simp only [Act.put, List.setIfInBounds_toArray, List.set_cons_zero, List.set_cons_succ]
                refine takeR (i := 7) (oi := ?_) (v := ?_) ?_ (by kernel_rfl) (by kernel_rfl) (by kernel_rfl) ?_ ?_ (by assumption) ?_
                rotate_left 2
                · simp only [List.getElem?_toArray, List.getElem?_cons_succ, List.getElem?_cons_zero]; rfl
                · kernel_rfl
                · intro Wx hSx
                  try dsimp only at hSx
                  go_simp
                  try with_reducible rfl
                simp only [Act.put, List.setIfInBounds_toArray, List.set_cons_zero, List.set_cons_succ]
                refine takeR (i := 8) (oi := ?_) (v := ?_) ?_ (by kernel_rfl) (by kernel_rfl) (by kernel_rfl) ?_ ?_ (by assumption) ?_
                rotate_left 2
                · simp only [List.getElem?_toArray, List.getElem?_cons_succ, List.getElem?_cons_zero]; rfl
                · kernel_rfl
                · intro Wx hSx
                  try dsimp only at hSx
                  go_simp
                  try with_reducible rfl
                simp only [Act.put, List.setIfInBounds_toArray, List.set_cons_zero, List.set_cons_succ]
                refine wpAnyH_ready (rs := [9, 11]) (by kernel_rfl) (by simp) ?_
                refine AllReadyH.cons (o := ?_) ?_ (fun K hK => ?_) ?_
                rotate_left
                · simp only [List.getElem?_toArray, List.getElem?_cons_succ, List.getElem?_cons_zero]; rfl
                · go_simp
                  refine hK.out _ _ hKg (fun hHeld => ?_)
                  clear hK K
                  simp only [Act.put, List.setIfInBounds_toArray, List.set_cons_zero, List.set_cons_succ]
                  refine takeR (i := 10) (oi := ?_) (v := ?_) ?_ (by kernel_rfl) (by kernel_rfl) (by kernel_rfl) ?_ ?_ (by assumption) ?_
                  rotate_left 2
                  · simp only [List.getElem?_toArray, List.getElem?_cons_succ, List.getElem?_cons_zero]; rfl
                  · kernel_rfl
                  · intro Wx hSx
                    try dsimp only at hSx
                    go_simp
                    try with_reducible rfl
                  simp only [Act.put, List.setIfInBounds_toArray, List.set_cons_zero, List.set_cons_succ]
                  refine wpAnyH_ready (rs := [11]) (by kernel_rfl) (by simp) ?_
                  refine AllReadyH.cons (o := ?_) ?_ (fun K hK => ?_) AllReadyH.nil
                  rotate_left
                  · simp only [List.getElem?_toArray, List.getElem?_cons_succ, List.getElem?_cons_zero]; rfl
                  go_simp
                  refine hK.out _ _ hKm (fun hHeld => ?_)
                  clear hK K
                  simp only [Act.put, List.setIfInBounds_toArray, List.set_cons_zero, List.set_cons_succ]
                  refine takeR (i := 12) (oi := ?_) (v := ?_) ?_ (by kernel_rfl) (by kernel_rfl) (by kernel_rfl) ?_ ?_ (by assumption) ?_
                  rotate_left 2
                  · simp only [List.getElem?_toArray, List.getElem?_cons_succ, List.getElem?_cons_zero]; rfl
                  · kernel_rfl
                  · intro Wx hSx
                    try dsimp only at hSx
                    go_simp
                    try with_reducible rfl
                  simp only [Act.put, List.setIfInBounds_toArray, List.set_cons_zero, List.set_cons_succ]
                  refine wpAnyH_ready (rs := [13]) (by kernel_rfl) (by simp) ?_
                  refine AllReadyH.cons (o := ?_) ?_ (fun K hK => ?_) AllReadyH.nil
                  rotate_left
                  · simp only [List.getElem?_toArray, List.getElem?_cons_succ, List.getElem?_cons_zero]; rfl
                  go_simp
                  refine hK.out _ _ hKn (fun hHeld => ?_)
                  clear hK K
                  simp only [Act.put, List.setIfInBounds_toArray, List.set_cons_zero, List.set_cons_succ]
                  refine done_R HR (by kernel_rfl) ?_
                  clear HR hlk hme hes hlk2 hes2
                  gi_wp2_with fail
                  exact ⟨⟨j + 1, hlt, by go_num, HKJ.out.trans hKn, HCN.out⟩, by simp [intOf]; omega⟩
                refine AllReadyH.cons (o := ?_) ?_ (fun K hK => ?_) AllReadyH.nil
                rotate_left
                · simp only [List.getElem?_toArray, List.getElem?_cons_succ, List.getElem?_cons_zero]; rfl
                · go_simp
                  refine hK.out _ _ hKm (fun hHeld => ?_)
                  clear hK K
                  simp only [Act.put, List.setIfInBounds_toArray, List.set_cons_zero, List.set_cons_succ]
                  refine takeR (i := 12) (oi := ?_) (v := ?_) ?_ (by kernel_rfl) (by kernel_rfl) (by kernel_rfl) ?_ ?_ (by assumption) ?_
                  rotate_left 2
                  · simp only [List.getElem?_toArray, List.getElem?_cons_succ, List.getElem?_cons_zero]; rfl
                  · kernel_rfl
                  · intro Wx hSx
                    try dsimp only at hSx
                    go_simp
                    try with_reducible rfl
                  simp only [Act.put, List.setIfInBounds_toArray, List.set_cons_zero, List.set_cons_succ]
                  refine wpAnyH_ready (rs := [9]) (by kernel_rfl) (by simp) ?_
                  refine AllReadyH.cons (o := ?_) ?_ (fun K hK => ?_) AllReadyH.nil
                  rotate_left
                  · simp only [List.getElem?_toArray, List.getElem?_cons_succ, List.getElem?_cons_zero]; rfl
                  go_simp
                  refine hK.out _ _ hKm (fun hHeld => ?_)
                  clear hK K
                  simp only [Act.put, List.setIfInBounds_toArray, List.set_cons_zero, List.set_cons_succ]
                  refine takeR (i := 10) (oi := ?_) (v := ?_) ?_ (by kernel_rfl) (by kernel_rfl) (by kernel_rfl) ?_ ?_ (by assumption) ?_
                  rotate_left 2
                  · simp only [List.getElem?_toArray, List.getElem?_cons_succ, List.getElem?_cons_zero]; rfl
                  · kernel_rfl
                  · intro Wx hSx
                    try dsimp only at hSx
                    go_simp
                    try with_reducible rfl
                  simp only [Act.put, List.setIfInBounds_toArray, List.set_cons_zero, List.set_cons_succ]
                  refine wpAnyH_ready (rs := [13]) (by kernel_rfl) (by simp) ?_
                  refine AllReadyH.cons (o := ?_) ?_ (fun K hK => ?_) AllReadyH.nil
                  rotate_left
                  · simp only [List.getElem?_toArray, List.getElem?_cons_succ, List.getElem?_cons_zero]; rfl
                  go_simp
                  refine hK.out _ _ hKo (fun hHeld => ?_)
                  clear hK K
                  simp only [Act.put, List.setIfInBounds_toArray, List.set_cons_zero, List.set_cons_succ]
                  refine done_R HR (by kernel_rfl) ?_
                  clear HR hlk hme hes hlk2 hes2
                  gi_wp2_with fail
                  exact ⟨⟨j + 1, hlt, by go_num, HKJ.out.trans hKo, HCO.out⟩, by simp [intOf]; omega⟩
              · obtain rfl : j = pn := by omega
                gi_wp2_with fail
                have hfl : (pre ++ [x]).filter (truthP women pieces wrong) = pre.filter (truthP women pieces wrong) ++ [x] := by simp [htr]
                have hall : Kept ow W2 wr := (HKK5.out.mono fun b h => (HI2.out.iff b).2 (h.imp id id |> Or.inr)).trans (hKj.mono fun b h => (HI2.out.iff b).2 (.inl h))
                have hw7 := HPL.out
                refine ⟨hall, fun b => b = w1.heap.size ∨ b = w1.heap.size + 1 ∨ b = g4, ⟨.slice (some ⟨g4, 0, none⟩) 1 cap4, hKj.keep HBQ5.out (by omega), ?_, ⟨kc + j, by simp; omega, hcj⟩, hKj.keep HBR5.out (by omega), hKj.keep HBT5.out (by omega), hKj.keep (HKK5.out.keep HI2.out.hu (HNE5.out _ (by omega) (by omega))) (by omega), hall.extOld HI2.out.ext (fun b hb h => by
                  rcases (HI2.out.iff b).1 h with h | h | h
                  · omega
                  · omega
                  · have := HBV.out _ h; omega), fun b => by simp [Value.ownBlock, eq_comm]⟩, fun b hb => ?_⟩
                · rw [hfl, List.length_append, HKK.out, ownCells_append]
                  obtain ⟨h1, h2⟩ := HOWN4.out
                  refine ⟨h1, h2.imp id ?_⟩
                  rintro ⟨g', cap', cur, he, hg', hc', r⟩
                  have he' : g' = g4 := by injection he with h; injection h with h; injection h with h; exact h.symm
                  have hgne : g' ≠ w1.heap.size + 1 ∧ g' ≠ w1.heap.size := by omega
                  exact ⟨g', cap', cur, he, hg', hKj.keep (HK45.out.keep hc' hgne.1) hgne.2, r⟩
                · rcases hb with rfl | rfl | rfl
                  · exact .inl ((HI2.out.iff _).2 (.inl rfl))
                  · exact .inl ((HI2.out.iff _).2 (.inr (.inl rfl)))
                  · rcases HG4.out with h | h
                    · exact .inl ((HI2.out.iff _).2 (.inr (.inr h)))
                    · exact .inr (Nat.le_trans HSZ.out h)
        · obtain ⟨k, rfl⟩ : ∃ k, K = k + 1 := ⟨K - 1, by omega⟩
          have hpos : decide ((0 : Int) < ((k + 1 : Nat) : Int)) = true := decide_eq_true (by omega)
          have hsub : IntKind.i64.wrap (k : Int) = (k : Int) := IntWalk.i64_in _ (by omega)
          have hk0 : (0 : Int) ≤ (k : Int) := by omega
          have hk1 : (k : Int) < (k : Int) + 1 := by omega
          obtain ⟨g, o, rfl, hcs⟩ := (own_owns HKK.out (by have h := HI2.out.own; rw [HKK.out] at h; exact h) (by omega)).at (Nat.succ_pos k)
          obtain ⟨y, hy⟩ : ∃ y, _root_.Go.Proofs.YtlcakmbejjlmeaaGreat.ow (pre.filter (truthP women pieces wrong)) k = y := ⟨_, rfl⟩
          have y0 := ext_cell (hcs k (Nat.lt_succ_self k) 0 (by omega)) (ext_refl W2) (Nat.le_refl _)
          have y1 := ext_cell (hcs k (Nat.lt_succ_self k) 1 (by omega)) (ext_refl W2) (Nat.le_refl _)
          have y2 := ext_cell (hcs k (Nat.lt_succ_self k) 2 (by omega)) (ext_refl W2) (Nat.le_refl _)
          have y3 := ext_cell (hcs k (Nat.lt_succ_self k) 3 (by omega)) (ext_refl W2) (Nat.le_refl _)
          have y4 := ext_cell (hcs k (Nat.lt_succ_self k) 4 (by omega)) (ext_refl W2) (Nat.le_refl _)
          have y5 := ext_cell (hcs k (Nat.lt_succ_self k) 5 (by omega)) (ext_refl W2) (Nat.le_refl _)
          have y6 := ext_cell (hcs k (Nat.lt_succ_self k) 6 (by omega)) (ext_refl W2) (Nat.le_refl _)
          simp only [Nat.add_zero] at y0
          rw [hy] at y0 y1 y2 y3 y4 y5 y6
          have heq : ∀ W, (Op.equalIn 10000 136 (.agg #[.int .i64 (y 0), .int .i64 (y 1), .int .i64 (y 2), .int .i64 (y 3), .int .i64 (y 4), .int .i64 (y 5), .int .i64 (y 6)]) (.agg #[.int .i64 (x 0), .int .i64 (x 1), .int .i64 (x 2), .int .i64 (x 3), .int .i64 (x 4), .int .i64 (x 5), .int .i64 (x 6)])).run Tryz.prog W = .ok false W := fun W => by
            rw [eq7 y x W, ← hy, pre_apart HPRE.out _ (by have := HKK.out; omega) (by have := HPL.out; omega)]
          clear hcs
          have HY := hid hy
          clear hy
          gi_wp2_with fail
          refine region_roundR (fun W' => Ext W2 W') 31 #[false, false, false, false, false, false, false, false, false, false, false, false, false, false, false, false, false, false, false, false, false, false, false, false, false, false, false, false, false, false, false] (by kernel_rfl) (by kernel_rfl) (by kernel_rfl) (by kernel_rfl) (fun R HR => ?_)
          refine takeR (i := 0) (oi := ?_) (v := ?_) ?_ (by kernel_rfl) (by kernel_rfl) (by kernel_rfl) ?_ ?_ (by assumption) ?_
          rotate_left 2
          · simp only [List.getElem?_toArray, List.getElem?_cons_succ, List.getElem?_cons_zero]; rfl
          · kernel_rfl
          · intro Wx hSx
            try dsimp only at hSx
            go_simp
            try with_reducible rfl
          simp only [Act.put, List.setIfInBounds_toArray, List.set_cons_zero, List.set_cons_succ]
          refine takeR (i := 1) (oi := ?_) (v := ?_) ?_ (by kernel_rfl) (by kernel_rfl) (by kernel_rfl) ?_ ?_ (by assumption) ?_
          rotate_left 2
          · simp only [List.getElem?_toArray, List.getElem?_cons_succ, List.getElem?_cons_zero]; rfl
          · kernel_rfl
          · intro Wx hSx
            try dsimp only at hSx
            go_simp
            try with_reducible rfl
          simp only [Act.put, List.setIfInBounds_toArray, List.set_cons_zero, List.set_cons_succ]
          refine takeR (i := 4) (oi := ?_) (v := ?_) ?_ (by kernel_rfl) (by kernel_rfl) (by kernel_rfl) ?_ ?_ (by assumption) ?_
          rotate_left 2
          · simp only [List.getElem?_toArray, List.getElem?_cons_succ, List.getElem?_cons_zero]; rfl
          · kernel_rfl
          · intro Wx hSx
            try dsimp only at hSx
            go_simp
            try with_reducible rfl
          simp only [Act.put, List.setIfInBounds_toArray, List.set_cons_zero, List.set_cons_succ]
          refine takeR (i := 5) (oi := ?_) (v := ?_) ?_ (by kernel_rfl) (by kernel_rfl) (by kernel_rfl) ?_ ?_ (by assumption) ?_
          rotate_left 2
          · simp only [List.getElem?_toArray, List.getElem?_cons_succ, List.getElem?_cons_zero]; rfl
          · kernel_rfl
          · intro Wx hSx
            try dsimp only at hSx
            go_simp
            try with_reducible rfl
          simp only [Act.put, List.setIfInBounds_toArray, List.set_cons_zero, List.set_cons_succ]
          refine wpAnyH_ready (rs := [2]) (by kernel_rfl) (by simp) ?_
          refine AllReadyH.cons rfl (fun K hK => ?_) AllReadyH.nil
          go_simp
          refine (wrong_c A n wc women S pn pc wrong x _ (HW1.out.ext (ext_trans HI2.out.ext e0)) HWL.out hn hpn7 (by have := listsF_mem (prefix_mem HPRE.out); rw [HPL.out, HWL.out] at this; exact this)).mono ?_
          rintro e w3 ⟨mv, rfl, hmv, hE3⟩
          obtain ⟨M, mc, rfl⟩ := hmv.val
          rw [HLL.out]
          have e3 : Ext W2 w3 := ext_trans e0 hE3
          refine hK.out _ _ e3 (fun hHeld => ?_)
          clear hK K
          simp only [Act.put, List.setIfInBounds_toArray, List.set_cons_zero, List.set_cons_succ]
          refine takeR (i := 3) (oi := ?_) (v := ?_) ?_ (by kernel_rfl) (by kernel_rfl) (by kernel_rfl) ?_ ?_ (by assumption) ?_
          rotate_left 2
          · simp only [List.getElem?_toArray, List.getElem?_cons_succ, List.getElem?_cons_zero]; rfl
          · kernel_rfl
          · intro Wx hSx
            try dsimp only at hSx
            go_simp
            try with_reducible rfl
          simp only [Act.put, List.setIfInBounds_toArray, List.set_cons_zero, List.set_cons_succ]
          refine takeR (i := 6) (oi := ?_) (v := ?_) ?_ (by kernel_rfl) (by kernel_rfl) (by kernel_rfl) ?_ ?_ (by assumption) ?_
          rotate_left 2
          · simp only [List.getElem?_toArray, List.getElem?_cons_succ, List.getElem?_cons_zero]; rfl
          · kernel_rfl
          · intro Wx hSx
            try dsimp only at hSx
            go_simp
            try with_reducible rfl
          simp only [Act.put, List.setIfInBounds_toArray, List.set_cons_zero, List.set_cons_succ]
          refine takeR (i := 7) (oi := ?_) (v := ?_) ?_ (by kernel_rfl) (by kernel_rfl) (by kernel_rfl) ?_ ?_ (by assumption) ?_
          rotate_left 2
          · simp only [List.getElem?_toArray, List.getElem?_cons_succ, List.getElem?_cons_zero]; rfl
          · kernel_rfl
          · intro Wx hSx
            try dsimp only at hSx
            go_simp
            try with_reducible rfl
          simp only [Act.put, List.setIfInBounds_toArray, List.set_cons_zero, List.set_cons_succ]
          refine takeR (i := 8) (oi := ?_) (v := ?_) ?_ (by kernel_rfl) (by kernel_rfl) (by kernel_rfl) ?_ ?_ (by assumption) ?_
          rotate_left 2
          · simp only [List.getElem?_toArray, List.getElem?_cons_succ, List.getElem?_cons_zero]; rfl
          · kernel_rfl
          · intro Wx hSx
            try dsimp only at hSx
            go_simp
            try with_reducible rfl
          simp only [Act.put, List.setIfInBounds_toArray, List.set_cons_zero, List.set_cons_succ]
          refine takeR (i := 9) (oi := ?_) (v := ?_) ?_ (by kernel_rfl) (by kernel_rfl) (by kernel_rfl) ?_ ?_ (by assumption) ?_
          rotate_left 2
          · simp only [List.getElem?_toArray, List.getElem?_cons_succ, List.getElem?_cons_zero]; rfl
          · kernel_rfl
          · intro Wx hSx
            try dsimp only at hSx
            go_simp
            try with_reducible rfl
          simp only [Act.put, List.setIfInBounds_toArray, List.set_cons_zero, List.set_cons_succ]
          refine takeR (i := 10) (oi := ?_) (v := ?_) ?_ (by kernel_rfl) (by kernel_rfl) (by kernel_rfl) ?_ ?_ (by assumption) ?_
          rotate_left 2
          · simp only [List.getElem?_toArray, List.getElem?_cons_succ, List.getElem?_cons_zero]; rfl
          · kernel_rfl
          · intro Wx hSx
            try dsimp only at hSx
            go_simp
            try with_reducible rfl
          simp only [Act.put, List.setIfInBounds_toArray, List.set_cons_zero, List.set_cons_succ]
          refine takeR (i := 11) (oi := ?_) (v := ?_) ?_ (by kernel_rfl) (by kernel_rfl) (by kernel_rfl) ?_ ?_ (by assumption) ?_
          rotate_left 2
          · simp only [List.getElem?_toArray, List.getElem?_cons_succ, List.getElem?_cons_zero]; rfl
          · kernel_rfl
          · intro Wx hSx
            try dsimp only at hSx
            go_simp
            try with_reducible rfl
          simp only [Act.put, List.setIfInBounds_toArray, List.set_cons_zero, List.set_cons_succ]
          refine takeR (i := 12) (oi := ?_) (v := ?_) ?_ (by kernel_rfl) (by kernel_rfl) (by kernel_rfl) ?_ ?_ (by assumption) ?_
          rotate_left 2
          · simp only [List.getElem?_toArray, List.getElem?_cons_succ, List.getElem?_cons_zero]; rfl
          · kernel_rfl
          · intro Wx hSx
            try dsimp only at hSx
            go_simp
            try with_reducible rfl
          simp only [Act.put, List.setIfInBounds_toArray, List.set_cons_zero, List.set_cons_succ]
          refine takeR (i := 13) (oi := ?_) (v := ?_) ?_ (by kernel_rfl) (by kernel_rfl) (by kernel_rfl) ?_ ?_ (by assumption) ?_
          rotate_left 2
          · simp only [List.getElem?_toArray, List.getElem?_cons_succ, List.getElem?_cons_zero]; rfl
          · kernel_rfl
          · intro Wx hSx
            try dsimp only at hSx
            go_simp
            try with_reducible rfl
          simp only [Act.put, List.setIfInBounds_toArray, List.set_cons_zero, List.set_cons_succ]
          refine takeR (i := 14) (oi := ?_) (v := ?_) ?_ (by kernel_rfl) (by kernel_rfl) (by kernel_rfl) ?_ ?_ (by assumption) ?_
          rotate_left 2
          · simp only [List.getElem?_toArray, List.getElem?_cons_succ, List.getElem?_cons_zero]; rfl
          · kernel_rfl
          · intro Wx hSx
            try dsimp only at hSx
            go_simp
            try with_reducible rfl
          simp only [Act.put, List.setIfInBounds_toArray, List.set_cons_zero, List.set_cons_succ]
          refine takeR (i := 15) (oi := ?_) (v := ?_) ?_ (by kernel_rfl) (by kernel_rfl) (by kernel_rfl) ?_ ?_ (by assumption) ?_
          rotate_left 2
          · simp only [List.getElem?_toArray, List.getElem?_cons_succ, List.getElem?_cons_zero]; rfl
          · kernel_rfl
          · intro Wx hSx
            try dsimp only at hSx
            go_simp
            try with_reducible rfl
          simp only [Act.put, List.setIfInBounds_toArray, List.set_cons_zero, List.set_cons_succ]
          refine takeR (i := 16) (oi := ?_) (v := ?_) ?_ (by kernel_rfl) (by kernel_rfl) (by kernel_rfl) ?_ ?_ (by assumption) ?_
          rotate_left 2
          · simp only [List.getElem?_toArray, List.getElem?_cons_succ, List.getElem?_cons_zero]; rfl
          · kernel_rfl
          · intro Wx hSx
            try dsimp only at hSx
            go_simp
            try with_reducible rfl
          simp only [Act.put, List.setIfInBounds_toArray, List.set_cons_zero, List.set_cons_succ]
          refine takeR (i := 17) (oi := ?_) (v := ?_) ?_ (by kernel_rfl) (by kernel_rfl) (by kernel_rfl) ?_ ?_ (by assumption) ?_
          rotate_left 2
          · simp only [List.getElem?_toArray, List.getElem?_cons_succ, List.getElem?_cons_zero]; rfl
          · kernel_rfl
          · intro Wx hSx
            try dsimp only at hSx
            go_simp
            try with_reducible rfl
          simp only [Act.put, List.setIfInBounds_toArray, List.set_cons_zero, List.set_cons_succ]
          refine takeR (i := 18) (oi := ?_) (v := ?_) ?_ (by kernel_rfl) (by kernel_rfl) (by kernel_rfl) ?_ ?_ (by assumption) ?_
          rotate_left 2
          · simp only [List.getElem?_toArray, List.getElem?_cons_succ, List.getElem?_cons_zero]; rfl
          · kernel_rfl
          · intro Wx hSx
            try dsimp only at hSx
            go_simp
            try with_reducible rfl
          simp only [Act.put, List.setIfInBounds_toArray, List.set_cons_zero, List.set_cons_succ]
          refine takeR (i := 19) (oi := ?_) (v := ?_) ?_ (by kernel_rfl) (by kernel_rfl) (by kernel_rfl) ?_ ?_ (by assumption) ?_
          rotate_left 2
          · simp only [List.getElem?_toArray, List.getElem?_cons_succ, List.getElem?_cons_zero]; rfl
          · kernel_rfl
          · intro Wx hSx
            try dsimp only at hSx
            go_simp
            try with_reducible rfl
          simp only [Act.put, List.setIfInBounds_toArray, List.set_cons_zero, List.set_cons_succ]
          refine takeR (i := 20) (oi := ?_) (v := ?_) ?_ (by kernel_rfl) (by kernel_rfl) (by kernel_rfl) ?_ ?_ (by assumption) ?_
          rotate_left 2
          · simp only [List.getElem?_toArray, List.getElem?_cons_succ, List.getElem?_cons_zero]; rfl
          · kernel_rfl
          · intro Wx hSx
            try dsimp only at hSx
            go_simp
            try with_reducible rfl
          simp only [Act.put, List.setIfInBounds_toArray, List.set_cons_zero, List.set_cons_succ]
          refine takeR (i := 21) (oi := ?_) (v := ?_) ?_ (by kernel_rfl) (by kernel_rfl) (by kernel_rfl) ?_ ?_ (by assumption) ?_
          rotate_left 2
          · simp only [List.getElem?_toArray, List.getElem?_cons_succ, List.getElem?_cons_zero]; rfl
          · kernel_rfl
          · intro Wx hSx
            try dsimp only at hSx
            go_simp
            try with_reducible rfl
          simp only [Act.put, List.setIfInBounds_toArray, List.set_cons_zero, List.set_cons_succ]
          refine takeR (i := 22) (oi := ?_) (v := ?_) ?_ (by kernel_rfl) (by kernel_rfl) (by kernel_rfl) ?_ ?_ (by assumption) ?_
          rotate_left 2
          · simp only [List.getElem?_toArray, List.getElem?_cons_succ, List.getElem?_cons_zero]; rfl
          · kernel_rfl
          · intro Wx hSx
            try dsimp only at hSx
            go_simp
            try with_reducible rfl
          simp only [Act.put, List.setIfInBounds_toArray, List.set_cons_zero, List.set_cons_succ]
          refine takeR (i := 23) (oi := ?_) (v := ?_) ?_ (by kernel_rfl) (by kernel_rfl) (by kernel_rfl) ?_ ?_ (by assumption) ?_
          rotate_left 2
          · simp only [List.getElem?_toArray, List.getElem?_cons_succ, List.getElem?_cons_zero]; rfl
          · kernel_rfl
          · intro Wx hSx
            try dsimp only at hSx
            go_simp
            try with_reducible rfl
          simp only [Act.put, List.setIfInBounds_toArray, List.set_cons_zero, List.set_cons_succ]
          refine takeR (i := 24) (oi := ?_) (v := ?_) ?_ (by kernel_rfl) (by kernel_rfl) (by kernel_rfl) ?_ ?_ (by assumption) ?_
          rotate_left 2
          · simp only [List.getElem?_toArray, List.getElem?_cons_succ, List.getElem?_cons_zero]; rfl
          · kernel_rfl
          · intro Wx hSx
            try dsimp only at hSx
            go_simp
            try with_reducible rfl
          simp only [Act.put, List.setIfInBounds_toArray, List.set_cons_zero, List.set_cons_succ]
          refine takeR (i := 25) (oi := ?_) (v := ?_) ?_ (by kernel_rfl) (by kernel_rfl) (by kernel_rfl) ?_ ?_ (by assumption) ?_
          rotate_left 2
          · simp only [List.getElem?_toArray, List.getElem?_cons_succ, List.getElem?_cons_zero]; rfl
          · kernel_rfl
          · intro Wx hSx
            try dsimp only at hSx
            go_simp
            try with_reducible rfl
          simp only [Act.put, List.setIfInBounds_toArray, List.set_cons_zero, List.set_cons_succ]
          refine takeR (i := 26) (oi := ?_) (v := ?_) ?_ (by kernel_rfl) (by kernel_rfl) (by kernel_rfl) ?_ ?_ (by assumption) ?_
          rotate_left 2
          · simp only [List.getElem?_toArray, List.getElem?_cons_succ, List.getElem?_cons_zero]; rfl
          · kernel_rfl
          · intro Wx hSx
            try dsimp only at hSx
            go_simp
            try with_reducible rfl
          simp only [Act.put, List.setIfInBounds_toArray, List.set_cons_zero, List.set_cons_succ]
          refine takeR (i := 27) (oi := ?_) (v := ?_) ?_ (by kernel_rfl) (by kernel_rfl) (by kernel_rfl) ?_ ?_ (by assumption) ?_
          rotate_left 2
          · simp only [List.getElem?_toArray, List.getElem?_cons_succ, List.getElem?_cons_zero]; rfl
          · kernel_rfl
          · intro Wx hSx
            try dsimp only at hSx
            go_simp
            try with_reducible rfl
          simp only [Act.put, List.setIfInBounds_toArray, List.set_cons_zero, List.set_cons_succ]
          refine takeR (i := 28) (oi := ?_) (v := ?_) ?_ (by kernel_rfl) (by kernel_rfl) (by kernel_rfl) ?_ ?_ (by assumption) ?_
          rotate_left 2
          · simp only [List.getElem?_toArray, List.getElem?_cons_succ, List.getElem?_cons_zero]; rfl
          · kernel_rfl
          · intro Wx hSx
            try dsimp only at hSx
            go_simp
            try with_reducible rfl
          simp only [Act.put, List.setIfInBounds_toArray, List.set_cons_zero, List.set_cons_succ]
          refine takeR (i := 29) (oi := ?_) (v := ?_) ?_ (by kernel_rfl) (by kernel_rfl) (by kernel_rfl) ?_ ?_ (by assumption) ?_
          rotate_left 2
          · simp only [List.getElem?_toArray, List.getElem?_cons_succ, List.getElem?_cons_zero]; rfl
          · kernel_rfl
          · intro Wx hSx
            try dsimp only at hSx
            go_simp
            try with_reducible rfl
          simp only [Act.put, List.setIfInBounds_toArray, List.set_cons_zero, List.set_cons_succ]
          refine takeR (i := 30) (oi := ?_) (v := ?_) ?_ (by kernel_rfl) (by kernel_rfl) (by kernel_rfl) ?_ ?_ (by assumption) ?_
          rotate_left 2
          · simp only [List.getElem?_toArray, List.getElem?_cons_succ, List.getElem?_cons_zero]; rfl
          · kernel_rfl
          · intro Wx hSx
            try dsimp only at hSx
            go_simp
            try with_reducible rfl
          simp only [Act.put, List.setIfInBounds_toArray, List.set_cons_zero, List.set_cons_succ]
          refine done_R HR (by kernel_rfl) ?_
          clear HR heq y0 y1 y2 y3 y4 y5 y6
          gi_wp2_with fail
          have hown2 := HI2.out.own
          rw [HKK.out] at hown2
          have hbv : ∀ b, (Value.slice (some ⟨g, o, none⟩) (k + 1) tc).ownBlock = some b → w1.heap.size + 6 ≤ b ∧ b < W.heap.size := fun b hb => by
            have h := HI.out.own
            rw [HKK.out] at h
            exact own_block h b hb
          obtain ⟨Wf, hWf⟩ : ∃ Wf, w3.drew = Wf := ⟨_, rfl⟩
          have eF : Ext W2 Wf := by rw [← hWf]; exact e3.drew
          have g2 : ∀ W', Kept (fun b => b = w1.heap.size + 1 ∨ (Value.slice (some ⟨g, o, none⟩) (k + 1) tc).ownBlock = some b) W2 W' → ∀ j, W'.cell? ⟨w1.heap.size + 1 + 1, j, none⟩ = (#[.pointer (some ⟨w1.heap.size + 1, 0, none⟩)] : Array Value)[j]? := fun W' hk => blk_cell (hk.keep HI2.out.hr (fun h => by
            rcases h with h | h
            · omega
            · have := hbv _ h; omega))
          have g1 : ∀ W', Kept (fun b => b = w1.heap.size + 1 ∨ (Value.slice (some ⟨g, o, none⟩) (k + 1) tc).ownBlock = some b) W2 W' → ∀ j, W'.cell? ⟨W.heap.size, j, none⟩ = (#[.int .i64 (x 0), .int .i64 (x 1), .int .i64 (x 2), .int .i64 (x 3), .int .i64 (x 4), .int .i64 (x 5), .int .i64 (x 6)] : Array Value)[j]? := fun W' hk => blk_cell (hk.keep b6 (fun h => by
            rcases h with h | h
            · omega
            · have := hbv _ h; omega))
          have hKf : Kept (fun b => b = w1.heap.size + 1 ∨ (Value.slice (some ⟨g, o, none⟩) (k + 1) tc).ownBlock = some b) W2 Wf := Kept.of_ext eF
          have hEal : Ext W2 (Wf.alloc (.cells #[.int .i64 (x 0), .int .i64 (x 1), .int .i64 (x 2), .int .i64 (x 3), .int .i64 (x 4), .int .i64 (x 5), .int .i64 (x 6)] 136)) := eF.alloc eF.size _
          have c3 := f3 Wf eF
          have c3' := f3 _ hEal
          obtain ⟨g4, cap4, w4, hap, hown4, hgr4, hg4⟩ := run_app_one (P := Tryz.prog) (w := Wf.alloc (.cells #[.int .i64 (x 0), .int .i64 (x 1), .int .i64 (x 2), .int .i64 (x 3), .int .i64 (x 4), .int .i64 (x 5), .int .i64 (x 6)] 136)) 139 139 136 Tryz.underlying139 (.agg #[.int .i64 0, .int .i64 0, .int .i64 0, .int .i64 0, .int .i64 0, .int .i64 0, .int .i64 0]) 56 #[.int .i64 (x 0), .int .i64 (x 1), .int .i64 (x 2), .int .i64 (x 3), .int .i64 (x 4), .int .i64 (x 5), .int .i64 (x 6)] (by kernel_rfl) rfl (by simp) (by simp) (by decide) (by simp [Value.oneCell']) (w1.heap.size + 6) (.slice (some ⟨g, o, none⟩) (k + 1) tc) ((k + 1)) _ (own_ext hown2 hEal) Wf.heap.size (heap_alloc_new Wf _) (by have := hEal.size; have := (Array.getElem?_eq_some_iff.1 b6).1; omega) (by omega)
          have HOWN4 := hid hown4
          have HGR4 := hid hgr4
          have HG4 := hid hg4
          clear hown4 hgr4 hg4 hown2
          refine region_roundR (Kept (fun b => b = w1.heap.size + 1 ∨ (Value.slice (some ⟨g, o, none⟩) (k + 1) tc).ownBlock = some b) W2) 11 #[false, false, false, false, false, false, false, false, false, false, false] (by kernel_rfl) (by kernel_rfl) (by kernel_rfl) (by kernel_rfl) (fun R HR => ?_)
          rw [hWf]
          refine takeR (i := 0) (oi := ?_) (v := ?_) ?_ (by kernel_rfl) (by kernel_rfl) (by kernel_rfl) ?_ ?_ (by assumption) ?_
          rotate_left 2
          · simp only [List.getElem?_toArray, List.getElem?_cons_succ, List.getElem?_cons_zero]; rfl
          · kernel_rfl
          · intro Wx hSx
            try dsimp only at hSx
            go_simp
            try with_reducible rfl
          simp only [Act.put, List.setIfInBounds_toArray, List.set_cons_zero, List.set_cons_succ]
          refine takeR (i := 1) (oi := ?_) (v := ?_) ?_ (by kernel_rfl) (by kernel_rfl) (by kernel_rfl) ?_ ?_ (by assumption) ?_
          rotate_left 2
          · simp only [List.getElem?_toArray, List.getElem?_cons_succ, List.getElem?_cons_zero]; rfl
          · kernel_rfl
          · intro Wx hSx
            try dsimp only at hSx
            go_simp
            try with_reducible rfl
          simp only [Act.put, List.setIfInBounds_toArray, List.set_cons_zero, List.set_cons_succ]
          refine takeR (i := 2) (oi := ?_) (v := ?_) ?_ (by kernel_rfl) (by kernel_rfl) (by kernel_rfl) ?_ ?_ (by assumption) ?_
          rotate_left 2
          · simp only [List.getElem?_toArray, List.getElem?_cons_succ, List.getElem?_cons_zero]; rfl
          · kernel_rfl
          · intro Wx hSx
            try dsimp only at hSx
            go_simp
            try with_reducible rfl
          simp only [Act.put, List.setIfInBounds_toArray, List.set_cons_zero, List.set_cons_succ]
          refine takeR (i := 3) (oi := ?_) (v := ?_) ?_ (by kernel_rfl) (by kernel_rfl) (by kernel_rfl) ?_ ?_ (by assumption) ?_
          rotate_left 2
          · simp only [List.getElem?_toArray, List.getElem?_cons_succ, List.getElem?_cons_zero]; rfl
          · kernel_rfl
          · intro Wx hSx
            try dsimp only at hSx
            go_simp
            try with_reducible rfl
          simp only [Act.put, List.setIfInBounds_toArray, List.set_cons_zero, List.set_cons_succ]
          refine takeR (i := 5) (oi := ?_) (v := ?_) ?_ (by kernel_rfl) (by kernel_rfl) (by kernel_rfl) ?_ ?_ (by assumption) ?_
          rotate_left 2
          · simp only [List.getElem?_toArray, List.getElem?_cons_succ, List.getElem?_cons_zero]; rfl
          · kernel_rfl
          · intro Wx hSx
            try dsimp only at hSx
            go_simp
            try with_reducible rfl
          simp only [Act.put, List.setIfInBounds_toArray, List.set_cons_zero, List.set_cons_succ]
          have hKal : Kept (fun b => b = w1.heap.size + 1 ∨ (Value.slice (some ⟨g, o, none⟩) (k + 1) tc).ownBlock = some b) W2 (Wf.alloc (.cells #[.int .i64 (x 0), .int .i64 (x 1), .int .i64 (x 2), .int .i64 (x 3), .int .i64 (x 4), .int .i64 (x 5), .int .i64 (x 6)] 136)) := Kept.of_ext hEal
          have hK4 : Kept (fun b => b = w1.heap.size + 1 ∨ (Value.slice (some ⟨g, o, none⟩) (k + 1) tc).ownBlock = some b) W2 w4 := hKal.trans ⟨HGR4.out.os, HGR4.out.tape, HGR4.out.output, HGR4.out.size, fun b hb ho => HGR4.out.block b hb (fun h => ho (.inr h.symm))⟩
          have bq4 : w4.heap[w1.heap.size + 1]? = some (.cells #[.slice A n wc, .slice S pn pc, .int .i64 wrong, .slice (some ⟨g, o, none⟩) (k + 1) tc, .map (some w1.heap.size)] 142 (0, 0)) := by
            rw [HGR4.out.block (w1.heap.size + 1) (by have := hEal.size; have := (Array.getElem?_eq_some_iff.1 HI2.out.hq).1; omega) (fun h => by have := hbv _ h.symm; omega)]
            exact ext_blk_keep hEal HI2.out.hq
          have c4 := blk_cell bq4
          have z4 : ∀ j, w4.frozen? ⟨w1.heap.size + 1, j, none⟩ = false := fun j => frozen_of_row w4 _ j _ _ bq4
          have hK5 : ∀ v, Kept (fun b => b = w1.heap.size + 1 ∨ (Value.slice (some ⟨g, o, none⟩) (k + 1) tc).ownBlock = some b) W2 (w4.setCell ⟨w1.heap.size + 1, 3, none⟩ v) := fun v => hK4.set v (.inl rfl)
          have HK5 := hid hK5
          have HSZ := hid hEal.size
          have HBQ4 := hid bq4
          clear hK5 bq4
          refine wpAnyH_ready (rs := [4, 6]) (by kernel_rfl) (by simp) ?_
          refine AllReadyH.cons (o := ?_) ?_ (fun K hK => ?_) ?_
          rotate_left
          · simp only [List.getElem?_toArray, List.getElem?_cons_succ, List.getElem?_cons_zero]; rfl
          · go_simp
            refine hK.out _ _ hKf (fun hHeld => ?_)
            clear hK K
            simp only [Act.put, List.setIfInBounds_toArray, List.set_cons_zero, List.set_cons_succ]
            refine wpAnyH_ready (rs := [6]) (by kernel_rfl) (by simp) ?_
            refine AllReadyH.cons (o := ?_) ?_ (fun K hK => ?_) AllReadyH.nil
            rotate_left
            · simp only [List.getElem?_toArray, List.getElem?_cons_succ, List.getElem?_cons_zero]; rfl
            go_simp
            refine hK.out _ _ hKal (fun hHeld => ?_)
            clear hK K
            simp only [Act.put, List.setIfInBounds_toArray, List.set_cons_zero, List.set_cons_succ]
            refine wpAnyH_ready (rs := [7]) (by kernel_rfl) (by simp) ?_
            refine AllReadyH.cons (o := ?_) ?_ (fun K hK => ?_) AllReadyH.nil
            rotate_left
            · simp only [List.getElem?_toArray, List.getElem?_cons_succ, List.getElem?_cons_zero]; rfl
            refine step_run_app rfl _ _ _ rfl rfl rfl hap ?_
            refine hK.out _ _ hK4 (fun hHeld => ?_)
            clear hK K
            simp only [Act.put, List.setIfInBounds_toArray, List.set_cons_zero, List.set_cons_succ]
            refine takeR (i := 8) (oi := ?_) (v := ?_) ?_ (by kernel_rfl) (by kernel_rfl) (by kernel_rfl) ?_ ?_ (by assumption) ?_
            rotate_left 2
            · simp only [List.getElem?_toArray, List.getElem?_cons_succ, List.getElem?_cons_zero]; rfl
            · kernel_rfl
            · intro Wx hSx
              try dsimp only at hSx
              go_simp
              try with_reducible rfl
            simp only [Act.put, List.setIfInBounds_toArray, List.set_cons_zero, List.set_cons_succ]
            refine takeR (i := 9) (oi := ?_) (v := ?_) ?_ (by kernel_rfl) (by kernel_rfl) (by kernel_rfl) ?_ ?_ (by assumption) ?_
            rotate_left 2
            · simp only [List.getElem?_toArray, List.getElem?_cons_succ, List.getElem?_cons_zero]; rfl
            · kernel_rfl
            · intro Wx hSx
              try dsimp only at hSx
              go_simp
              try with_reducible rfl
            simp only [Act.put, List.setIfInBounds_toArray, List.set_cons_zero, List.set_cons_succ]
            refine wpAnyH_ready (rs := [10]) (by kernel_rfl) (by simp) ?_
            refine AllReadyH.cons (o := ?_) ?_ (fun K hK => ?_) AllReadyH.nil
            rotate_left
            · simp only [List.getElem?_toArray, List.getElem?_cons_succ, List.getElem?_cons_zero]; rfl
            go_simp
            refine hK.out _ _ (HK5.out _) (fun hHeld => ?_)
            clear hK K
            simp only [Act.put, List.setIfInBounds_toArray, List.set_cons_zero, List.set_cons_succ]
            refine done_R HR (by kernel_rfl) ?_
            clear HR
            have HSX := hid hsx
            clear hsx
            obtain ⟨w5, hw5⟩ : ∃ w5, w4.setCell ⟨w1.heap.size + 1, 3, none⟩ (.slice (some ⟨g4, 0, none⟩) (k + 1 + 1) cap4) = w5 := ⟨_, rfl⟩
            have hK5 : Kept (fun b => b = w1.heap.size + 1 ∨ (Value.slice (some ⟨g, o, none⟩) (k + 1) tc).ownBlock = some b) W2 w5 := by rw [← hw5]; exact HK5.out _
            have bq5 : w5.heap[w1.heap.size + 1]? = some (.cells #[.slice A n wc, .slice S pn pc, .int .i64 wrong, .slice (some ⟨g4, 0, none⟩) (k + 1 + 1) cap4, .map (some w1.heap.size)] 142 (0, 0)) := by rw [← hw5]; exact heap_set_at HBQ4.out rfl
            rw [hw5]
            have hne5 : ∀ b, b < w1.heap.size + 6 → b ≠ w1.heap.size + 1 → ¬ (b = w1.heap.size + 1 ∨ (Value.slice (some ⟨g, o, none⟩) (k + 1) tc).ownBlock = some b) := fun b h1 h2 h => by
              rcases h with h | h
              · exact h2 h
              · have := hbv _ h; omega
            have bt5 := hK5.keep HI2.out.ht (hne5 _ (by omega) (by omega))
            have br5 := hK5.keep HI2.out.hr (hne5 _ (by omega) (by omega))
            have bo5 := hK5.keep b6 (fun h => by
              have := HSX.out
              rcases h with h | h
              · omega
              · have := hbv _ h; omega)
            obtain ⟨kc, hkc, hcnt⟩ := HI2.out.cnt
            have hcnt5 : IsCnt w5 w1.heap.size kc := hcnt.keep (hK5.blk _ hcnt.lt (hne5 _ (by omega) (by omega)))
            have ct5 := blk_cell bt5
            have HCNT5 := hid hcnt5
            have HBQ5 := hid bq5
            have HBT5 := hid bt5
            have HBR5 := hid br5
            have HBO5 := hid bo5
            have HNE5 := hid hne5
            have hK45 : Kept (fun b => b = w1.heap.size + 1) w4 w5 := by rw [← hw5]; exact (Kept.refl _ w4).set _ rfl
            have HK45 := hid hK45
            have HKK5 := hid hK5
            have HBV := hid hbv
            clear hK45 hcnt hcnt5 bq5 bt5 br5 bo5 hne5 hK5 hw5 hbv f0 f1 f2 f3 g1 g2 c3 c3' hap hK4 hKal hEal
            gi_wp2_with fail
            gi_loopw [64] (fun i wr => ∃ j : Nat, j ≤ pn ∧ i = .int .i64 j ∧ Kept (fun b => b = w1.heap.size) w5 wr ∧ IsCnt wr w1.heap.size (kc + j)) (fun i _ => pn - (intOf i).toNat)
            case atStart => exact ⟨0, Nat.zero_le _, rfl, Kept.refl _ _, HCNT5.out⟩
            case round =>
              obtain ⟨j, hj, rfl, hKj, hcj⟩ := hrel
              by_cases hlt : j < pn
              · have hxj : 0 ≤ x j ∧ x j ≤ 1000 := by
                  have h := listsF_mem (prefix_mem HPRE.out) j (by have := HPL.out; omega)
                  have := HWL.out
                  omega
                have hmx : kc + j < maxLen := by
                  have h2 := listsF_len HFE.out
                  have h3 := (List.IsPrefix.sublist HPRE.out).length_le
                  simp at h3
                  unfold maxLen
                  omega
                have k5 : ∀ W', Kept (fun b => b = w1.heap.size) wr W' → Kept (fun b => b = w1.heap.size) w5 W' := fun W' h => hKj.trans h
                have r0 : ∀ W', Kept (fun b => b = w1.heap.size) wr W' → ∀ i, W'.cell? ⟨w1.heap.size + 1 + 1, i, none⟩ = (#[.pointer (some ⟨w1.heap.size + 1, 0, none⟩)] : Array Value)[i]? := fun W' h => blk_cell ((k5 W' h).keep HBR5.out (by omega))
                have r1 : ∀ W', Kept (fun b => b = w1.heap.size) wr W' → ∀ i, W'.cell? ⟨w1.heap.size + 1, i, none⟩ = (#[.slice A n wc, .slice S pn pc, .int .i64 wrong, .slice (some ⟨g4, 0, none⟩) (k + 1 + 1) cap4, .map (some w1.heap.size)] : Array Value)[i]? := fun W' h => blk_cell ((k5 W' h).keep HBQ5.out (by omega))
                have r2 : ∀ W', Kept (fun b => b = w1.heap.size) wr W' → W'.cell? ⟨W.heap.size, j, none⟩ = some (.int .i64 (x j)) := fun W' h => (blk_cell ((k5 W' h).keep HBO5.out (by have := HSX.out; omega)) j).trans (m7_at x j (by omega))
                have hj0 : (0 : Int) ≤ (j : Int) := by omega
                have hj1 : (j : Int) < 7 := by omega
                obtain ⟨Wg, hWg⟩ : ∃ Wg, wr.drew = Wg := ⟨_, rfl⟩
                have hKg : Kept (fun b => b = w1.heap.size) wr Wg := by rw [← hWg]; exact (Kept.refl _ wr).drew
                have hcg : IsCnt Wg w1.heap.size (kc + j) := by rw [← hWg]; exact hcj
                obtain ⟨cc, cd, v0, st, Wm, Wn, Wo, hlk, hlk2, hme, hes, hes2, hcn, hco, hkm, hkn, hko⟩ := cnt_step2 hcg hmx (j : Int) (x j) ⟨by omega, by omega⟩ hxj
                have HKJ := hid hKj
                have hKm := hKg.trans hkm
                have hKn := hKg.trans hkn
                have hKo := hKg.trans hko
                have HCN := hid hcn
                have HCO := hid hco
                have HMX := hid hmx
                clear hmx hcg hcn hco hkm hkn hko hKj hcj k5
                gi_wp2_with fail
                refine region_roundR (Kept (fun b => b = w1.heap.size) wr) 14 #[false, false, false, false, false, false, false, false, false, false, false, false, false, false] (by kernel_rfl) (by kernel_rfl) (by kernel_rfl) (by kernel_rfl) (fun R HR => ?_)
                rw [hWg]
                refine takeR (i := 0) (oi := ?_) (v := ?_) ?_ (by kernel_rfl) (by kernel_rfl) (by kernel_rfl) ?_ ?_ (by assumption) ?_
                rotate_left 2
                · simp only [List.getElem?_toArray, List.getElem?_cons_succ, List.getElem?_cons_zero]; rfl
                · kernel_rfl
                · intro Wx hSx
                  try dsimp only at hSx
                  go_simp
                  try with_reducible rfl
                simp only [Act.put, List.setIfInBounds_toArray, List.set_cons_zero, List.set_cons_succ]
                refine takeR (i := 1) (oi := ?_) (v := ?_) ?_ (by kernel_rfl) (by kernel_rfl) (by kernel_rfl) ?_ ?_ (by assumption) ?_
                rotate_left 2
                · simp only [List.getElem?_toArray, List.getElem?_cons_succ, List.getElem?_cons_zero]; rfl
                · kernel_rfl
                · intro Wx hSx
                  try dsimp only at hSx
                  go_simp
                  try with_reducible rfl
                simp only [Act.put, List.setIfInBounds_toArray, List.set_cons_zero, List.set_cons_succ]
                refine takeR (i := 2) (oi := ?_) (v := ?_) ?_ (by kernel_rfl) (by kernel_rfl) (by kernel_rfl) ?_ ?_ (by assumption) ?_
                rotate_left 2
                · simp only [List.getElem?_toArray, List.getElem?_cons_succ, List.getElem?_cons_zero]; rfl
                · kernel_rfl
                · intro Wx hSx
                  try dsimp only at hSx
                  go_simp
                  try with_reducible rfl
                simp only [Act.put, List.setIfInBounds_toArray, List.set_cons_zero, List.set_cons_succ]
                refine takeR (i := 3) (oi := ?_) (v := ?_) ?_ (by kernel_rfl) (by kernel_rfl) (by kernel_rfl) ?_ ?_ (by assumption) ?_
                rotate_left 2
                · simp only [List.getElem?_toArray, List.getElem?_cons_succ, List.getElem?_cons_zero]; rfl
                · kernel_rfl
                · intro Wx hSx
                  try dsimp only at hSx
                  go_simp
                  try with_reducible rfl
                simp only [Act.put, List.setIfInBounds_toArray, List.set_cons_zero, List.set_cons_succ]
                refine takeR (i := 4) (oi := ?_) (v := ?_) ?_ (by kernel_rfl) (by kernel_rfl) (by kernel_rfl) ?_ ?_ (by assumption) ?_
                rotate_left 2
                · simp only [List.getElem?_toArray, List.getElem?_cons_succ, List.getElem?_cons_zero]; rfl
                · kernel_rfl
                · intro Wx hSx
                  try dsimp only at hSx
                  go_simp
                  try with_reducible rfl
                simp only [Act.put, List.setIfInBounds_toArray, List.set_cons_zero, List.set_cons_succ]
                refine takeR (i := 5) (oi := ?_) (v := ?_) ?_ (by kernel_rfl) (by kernel_rfl) (by kernel_rfl) ?_ ?_ (by assumption) ?_
                rotate_left 2
                · simp only [List.getElem?_toArray, List.getElem?_cons_succ, List.getElem?_cons_zero]; rfl
                · kernel_rfl
                · intro Wx hSx
                  try dsimp only at hSx
                  go_simp
                  try with_reducible rfl
                simp only [Act.put, List.setIfInBounds_toArray, List.set_cons_zero, List.set_cons_succ]
                refine takeR (i := 6) (oi := ?_) (v := ?_) ?_ (by kernel_rfl) (by kernel_rfl) (by kernel_rfl) ?_ ?_ (by assumption) ?_
                rotate_left 2
                · simp only [List.getElem?_toArray, List.getElem?_cons_succ, List.getElem?_cons_zero]; rfl
                · kernel_rfl
                · intro Wx hSx
                  try dsimp only at hSx
                  go_simp
                  try with_reducible rfl
                simp only [Act.put, List.setIfInBounds_toArray, List.set_cons_zero, List.set_cons_succ]
                refine takeR (i := 7) (oi := ?_) (v := ?_) ?_ (by kernel_rfl) (by kernel_rfl) (by kernel_rfl) ?_ ?_ (by assumption) ?_
                rotate_left 2
                · simp only [List.getElem?_toArray, List.getElem?_cons_succ, List.getElem?_cons_zero]; rfl
                · kernel_rfl
                · intro Wx hSx
                  try dsimp only at hSx
                  go_simp
                  try with_reducible rfl
                simp only [Act.put, List.setIfInBounds_toArray, List.set_cons_zero, List.set_cons_succ]
                refine takeR (i := 8) (oi := ?_) (v := ?_) ?_ (by kernel_rfl) (by kernel_rfl) (by kernel_rfl) ?_ ?_ (by assumption) ?_
                rotate_left 2
                · simp only [List.getElem?_toArray, List.getElem?_cons_succ, List.getElem?_cons_zero]; rfl
                · kernel_rfl
                · intro Wx hSx
                  try dsimp only at hSx
                  go_simp
                  try with_reducible rfl
                simp only [Act.put, List.setIfInBounds_toArray, List.set_cons_zero, List.set_cons_succ]
                refine wpAnyH_ready (rs := [9, 11]) (by kernel_rfl) (by simp) ?_
                refine AllReadyH.cons (o := ?_) ?_ (fun K hK => ?_) ?_
                rotate_left
                · simp only [List.getElem?_toArray, List.getElem?_cons_succ, List.getElem?_cons_zero]; rfl
                · go_simp
                  refine hK.out _ _ hKg (fun hHeld => ?_)
                  clear hK K
                  simp only [Act.put, List.setIfInBounds_toArray, List.set_cons_zero, List.set_cons_succ]
                  refine takeR (i := 10) (oi := ?_) (v := ?_) ?_ (by kernel_rfl) (by kernel_rfl) (by kernel_rfl) ?_ ?_ (by assumption) ?_
                  rotate_left 2
                  · simp only [List.getElem?_toArray, List.getElem?_cons_succ, List.getElem?_cons_zero]; rfl
                  · kernel_rfl
                  · intro Wx hSx
                    try dsimp only at hSx
                    go_simp
                    try with_reducible rfl
                  simp only [Act.put, List.setIfInBounds_toArray, List.set_cons_zero, List.set_cons_succ]
                  refine wpAnyH_ready (rs := [11]) (by kernel_rfl) (by simp) ?_
                  refine AllReadyH.cons (o := ?_) ?_ (fun K hK => ?_) AllReadyH.nil
                  rotate_left
                  · simp only [List.getElem?_toArray, List.getElem?_cons_succ, List.getElem?_cons_zero]; rfl
                  go_simp
                  refine hK.out _ _ hKm (fun hHeld => ?_)
                  clear hK K
                  simp only [Act.put, List.setIfInBounds_toArray, List.set_cons_zero, List.set_cons_succ]
                  refine takeR (i := 12) (oi := ?_) (v := ?_) ?_ (by kernel_rfl) (by kernel_rfl) (by kernel_rfl) ?_ ?_ (by assumption) ?_
                  rotate_left 2
                  · simp only [List.getElem?_toArray, List.getElem?_cons_succ, List.getElem?_cons_zero]; rfl
                  · kernel_rfl
                  · intro Wx hSx
                    try dsimp only at hSx
                    go_simp
                    try with_reducible rfl
                  simp only [Act.put, List.setIfInBounds_toArray, List.set_cons_zero, List.set_cons_succ]
                  refine wpAnyH_ready (rs := [13]) (by kernel_rfl) (by simp) ?_
                  refine AllReadyH.cons (o := ?_) ?_ (fun K hK => ?_) AllReadyH.nil
                  rotate_left
                  · simp only [List.getElem?_toArray, List.getElem?_cons_succ, List.getElem?_cons_zero]; rfl
                  go_simp
                  refine hK.out _ _ hKn (fun hHeld => ?_)
                  clear hK K
                  simp only [Act.put, List.setIfInBounds_toArray, List.set_cons_zero, List.set_cons_succ]
                  refine done_R HR (by kernel_rfl) ?_
                  clear HR hlk hme hes hlk2 hes2
                  gi_wp2_with fail
                  exact ⟨⟨j + 1, hlt, by go_num, HKJ.out.trans hKn, HCN.out⟩, by simp [intOf]; omega⟩
                refine AllReadyH.cons (o := ?_) ?_ (fun K hK => ?_) AllReadyH.nil
                rotate_left
                · simp only [List.getElem?_toArray, List.getElem?_cons_succ, List.getElem?_cons_zero]; rfl
                · go_simp
                  refine hK.out _ _ hKm (fun hHeld => ?_)
                  clear hK K
                  simp only [Act.put, List.setIfInBounds_toArray, List.set_cons_zero, List.set_cons_succ]
                  refine takeR (i := 12) (oi := ?_) (v := ?_) ?_ (by kernel_rfl) (by kernel_rfl) (by kernel_rfl) ?_ ?_ (by assumption) ?_
                  rotate_left 2
                  · simp only [List.getElem?_toArray, List.getElem?_cons_succ, List.getElem?_cons_zero]; rfl
                  · kernel_rfl
                  · intro Wx hSx
                    try dsimp only at hSx
                    go_simp
                    try with_reducible rfl
                  simp only [Act.put, List.setIfInBounds_toArray, List.set_cons_zero, List.set_cons_succ]
                  refine wpAnyH_ready (rs := [9]) (by kernel_rfl) (by simp) ?_
                  refine AllReadyH.cons (o := ?_) ?_ (fun K hK => ?_) AllReadyH.nil
                  rotate_left
                  · simp only [List.getElem?_toArray, List.getElem?_cons_succ, List.getElem?_cons_zero]; rfl
                  go_simp
                  refine hK.out _ _ hKm (fun hHeld => ?_)
                  clear hK K
                  simp only [Act.put, List.setIfInBounds_toArray, List.set_cons_zero, List.set_cons_succ]
                  refine takeR (i := 10) (oi := ?_) (v := ?_) ?_ (by kernel_rfl) (by kernel_rfl) (by kernel_rfl) ?_ ?_ (by assumption) ?_
                  rotate_left 2
                  · simp only [List.getElem?_toArray, List.getElem?_cons_succ, List.getElem?_cons_zero]; rfl
                  · kernel_rfl
                  · intro Wx hSx
                    try dsimp only at hSx
                    go_simp
                    try with_reducible rfl
                  simp only [Act.put, List.setIfInBounds_toArray, List.set_cons_zero, List.set_cons_succ]
                  refine wpAnyH_ready (rs := [13]) (by kernel_rfl) (by simp) ?_
                  refine AllReadyH.cons (o := ?_) ?_ (fun K hK => ?_) AllReadyH.nil
                  rotate_left
                  · simp only [List.getElem?_toArray, List.getElem?_cons_succ, List.getElem?_cons_zero]; rfl
                  go_simp
                  refine hK.out _ _ hKo (fun hHeld => ?_)
                  clear hK K
                  simp only [Act.put, List.setIfInBounds_toArray, List.set_cons_zero, List.set_cons_succ]
                  refine done_R HR (by kernel_rfl) ?_
                  clear HR hlk hme hes hlk2 hes2
                  gi_wp2_with fail
                  exact ⟨⟨j + 1, hlt, by go_num, HKJ.out.trans hKo, HCO.out⟩, by simp [intOf]; omega⟩
              · obtain rfl : j = pn := by omega
                gi_wp2_with fail
                have hfl : (pre ++ [x]).filter (truthP women pieces wrong) = pre.filter (truthP women pieces wrong) ++ [x] := by simp [htr]
                have hall : Kept ow W2 wr := (HKK5.out.mono fun b h => (HI2.out.iff b).2 (h.imp id id |> Or.inr)).trans (hKj.mono fun b h => (HI2.out.iff b).2 (.inl h))
                have hw7 := HPL.out
                refine ⟨hall, fun b => b = w1.heap.size ∨ b = w1.heap.size + 1 ∨ b = g4, ⟨.slice (some ⟨g4, 0, none⟩) (k + 1 + 1) cap4, hKj.keep HBQ5.out (by omega), ?_, ⟨kc + j, by simp; omega, hcj⟩, hKj.keep HBR5.out (by omega), hKj.keep HBT5.out (by omega), hKj.keep (HKK5.out.keep HI2.out.hu (HNE5.out _ (by omega) (by omega))) (by omega), hall.extOld HI2.out.ext (fun b hb h => by
                  rcases (HI2.out.iff b).1 h with h | h | h
                  · omega
                  · omega
                  · have := HBV.out _ h; omega), fun b => by simp [Value.ownBlock, eq_comm]⟩, fun b hb => ?_⟩
                · rw [hfl, List.length_append, HKK.out, ownCells_append]
                  obtain ⟨h1, h2⟩ := HOWN4.out
                  refine ⟨h1, h2.imp id ?_⟩
                  rintro ⟨g', cap', cur, he, hg', hc', r⟩
                  have he' : g' = g4 := by injection he with h; injection h with h; injection h with h; exact h.symm
                  have hgne : g' ≠ w1.heap.size + 1 ∧ g' ≠ w1.heap.size := by omega
                  exact ⟨g', cap', cur, he, hg', hKj.keep (HK45.out.keep hc' hgne.1) hgne.2, r⟩
                · rcases hb with rfl | rfl | rfl
                  · exact .inl ((HI2.out.iff _).2 (.inl rfl))
                  · exact .inl ((HI2.out.iff _).2 (.inr (.inl rfl)))
                  · rcases HG4.out with h | h
                    · exact .inl ((HI2.out.iff _).2 (.inr (.inr h)))
                    · exact .inr (Nat.le_trans HSZ.out h)
          refine AllReadyH.cons (o := ?_) ?_ (fun K hK => ?_) AllReadyH.nil
          rotate_left
          · simp only [List.getElem?_toArray, List.getElem?_cons_succ, List.getElem?_cons_zero]; rfl
          · go_simp
            refine hK.out _ _ hKal (fun hHeld => ?_)
            clear hK K
            simp only [Act.put, List.setIfInBounds_toArray, List.set_cons_zero, List.set_cons_succ]
            refine wpAnyH_ready (rs := [4]) (by kernel_rfl) (by simp) ?_
            refine AllReadyH.cons (o := ?_) ?_ (fun K hK => ?_) AllReadyH.nil
            rotate_left
            · simp only [List.getElem?_toArray, List.getElem?_cons_succ, List.getElem?_cons_zero]; rfl
            go_simp
            refine hK.out _ _ hKal (fun hHeld => ?_)
            clear hK K
            simp only [Act.put, List.setIfInBounds_toArray, List.set_cons_zero, List.set_cons_succ]
            refine wpAnyH_ready (rs := [7]) (by kernel_rfl) (by simp) ?_
            refine AllReadyH.cons (o := ?_) ?_ (fun K hK => ?_) AllReadyH.nil
            rotate_left
            · simp only [List.getElem?_toArray, List.getElem?_cons_succ, List.getElem?_cons_zero]; rfl
            refine step_run_app rfl _ _ _ rfl rfl rfl hap ?_
            refine hK.out _ _ hK4 (fun hHeld => ?_)
            clear hK K
            simp only [Act.put, List.setIfInBounds_toArray, List.set_cons_zero, List.set_cons_succ]
            refine takeR (i := 8) (oi := ?_) (v := ?_) ?_ (by kernel_rfl) (by kernel_rfl) (by kernel_rfl) ?_ ?_ (by assumption) ?_
            rotate_left 2
            · simp only [List.getElem?_toArray, List.getElem?_cons_succ, List.getElem?_cons_zero]; rfl
            · kernel_rfl
            · intro Wx hSx
              try dsimp only at hSx
              go_simp
              try with_reducible rfl
            simp only [Act.put, List.setIfInBounds_toArray, List.set_cons_zero, List.set_cons_succ]
            refine takeR (i := 9) (oi := ?_) (v := ?_) ?_ (by kernel_rfl) (by kernel_rfl) (by kernel_rfl) ?_ ?_ (by assumption) ?_
            rotate_left 2
            · simp only [List.getElem?_toArray, List.getElem?_cons_succ, List.getElem?_cons_zero]; rfl
            · kernel_rfl
            · intro Wx hSx
              try dsimp only at hSx
              go_simp
              try with_reducible rfl
            simp only [Act.put, List.setIfInBounds_toArray, List.set_cons_zero, List.set_cons_succ]
            refine wpAnyH_ready (rs := [10]) (by kernel_rfl) (by simp) ?_
            refine AllReadyH.cons (o := ?_) ?_ (fun K hK => ?_) AllReadyH.nil
            rotate_left
            · simp only [List.getElem?_toArray, List.getElem?_cons_succ, List.getElem?_cons_zero]; rfl
            go_simp
            refine hK.out _ _ (HK5.out _) (fun hHeld => ?_)
            clear hK K
            simp only [Act.put, List.setIfInBounds_toArray, List.set_cons_zero, List.set_cons_succ]
            refine done_R HR (by kernel_rfl) ?_
            clear HR
            have HSX := hid hsx
            clear hsx
            obtain ⟨w5, hw5⟩ : ∃ w5, w4.setCell ⟨w1.heap.size + 1, 3, none⟩ (.slice (some ⟨g4, 0, none⟩) (k + 1 + 1) cap4) = w5 := ⟨_, rfl⟩
            have hK5 : Kept (fun b => b = w1.heap.size + 1 ∨ (Value.slice (some ⟨g, o, none⟩) (k + 1) tc).ownBlock = some b) W2 w5 := by rw [← hw5]; exact HK5.out _
            have bq5 : w5.heap[w1.heap.size + 1]? = some (.cells #[.slice A n wc, .slice S pn pc, .int .i64 wrong, .slice (some ⟨g4, 0, none⟩) (k + 1 + 1) cap4, .map (some w1.heap.size)] 142 (0, 0)) := by rw [← hw5]; exact heap_set_at HBQ4.out rfl
            rw [hw5]
            have hne5 : ∀ b, b < w1.heap.size + 6 → b ≠ w1.heap.size + 1 → ¬ (b = w1.heap.size + 1 ∨ (Value.slice (some ⟨g, o, none⟩) (k + 1) tc).ownBlock = some b) := fun b h1 h2 h => by
              rcases h with h | h
              · exact h2 h
              · have := hbv _ h; omega
            have bt5 := hK5.keep HI2.out.ht (hne5 _ (by omega) (by omega))
            have br5 := hK5.keep HI2.out.hr (hne5 _ (by omega) (by omega))
            have bo5 := hK5.keep b6 (fun h => by
              have := HSX.out
              rcases h with h | h
              · omega
              · have := hbv _ h; omega)
            obtain ⟨kc, hkc, hcnt⟩ := HI2.out.cnt
            have hcnt5 : IsCnt w5 w1.heap.size kc := hcnt.keep (hK5.blk _ hcnt.lt (hne5 _ (by omega) (by omega)))
            have ct5 := blk_cell bt5
            have HCNT5 := hid hcnt5
            have HBQ5 := hid bq5
            have HBT5 := hid bt5
            have HBR5 := hid br5
            have HBO5 := hid bo5
            have HNE5 := hid hne5
            have hK45 : Kept (fun b => b = w1.heap.size + 1) w4 w5 := by rw [← hw5]; exact (Kept.refl _ w4).set _ rfl
            have HK45 := hid hK45
            have HKK5 := hid hK5
            have HBV := hid hbv
            clear hK45 hcnt hcnt5 bq5 bt5 br5 bo5 hne5 hK5 hw5 hbv f0 f1 f2 f3 g1 g2 c3 c3' hap hK4 hKal hEal
            gi_wp2_with fail
            gi_loopw [64] (fun i wr => ∃ j : Nat, j ≤ pn ∧ i = .int .i64 j ∧ Kept (fun b => b = w1.heap.size) w5 wr ∧ IsCnt wr w1.heap.size (kc + j)) (fun i _ => pn - (intOf i).toNat)
            case atStart => exact ⟨0, Nat.zero_le _, rfl, Kept.refl _ _, HCNT5.out⟩
            case round =>
              obtain ⟨j, hj, rfl, hKj, hcj⟩ := hrel
              by_cases hlt : j < pn
              · have hxj : 0 ≤ x j ∧ x j ≤ 1000 := by
                  have h := listsF_mem (prefix_mem HPRE.out) j (by have := HPL.out; omega)
                  have := HWL.out
                  omega
                have hmx : kc + j < maxLen := by
                  have h2 := listsF_len HFE.out
                  have h3 := (List.IsPrefix.sublist HPRE.out).length_le
                  simp at h3
                  unfold maxLen
                  omega
                have k5 : ∀ W', Kept (fun b => b = w1.heap.size) wr W' → Kept (fun b => b = w1.heap.size) w5 W' := fun W' h => hKj.trans h
                have r0 : ∀ W', Kept (fun b => b = w1.heap.size) wr W' → ∀ i, W'.cell? ⟨w1.heap.size + 1 + 1, i, none⟩ = (#[.pointer (some ⟨w1.heap.size + 1, 0, none⟩)] : Array Value)[i]? := fun W' h => blk_cell ((k5 W' h).keep HBR5.out (by omega))
                have r1 : ∀ W', Kept (fun b => b = w1.heap.size) wr W' → ∀ i, W'.cell? ⟨w1.heap.size + 1, i, none⟩ = (#[.slice A n wc, .slice S pn pc, .int .i64 wrong, .slice (some ⟨g4, 0, none⟩) (k + 1 + 1) cap4, .map (some w1.heap.size)] : Array Value)[i]? := fun W' h => blk_cell ((k5 W' h).keep HBQ5.out (by omega))
                have r2 : ∀ W', Kept (fun b => b = w1.heap.size) wr W' → W'.cell? ⟨W.heap.size, j, none⟩ = some (.int .i64 (x j)) := fun W' h => (blk_cell ((k5 W' h).keep HBO5.out (by have := HSX.out; omega)) j).trans (m7_at x j (by omega))
                have hj0 : (0 : Int) ≤ (j : Int) := by omega
                have hj1 : (j : Int) < 7 := by omega
                obtain ⟨Wg, hWg⟩ : ∃ Wg, wr.drew = Wg := ⟨_, rfl⟩
                have hKg : Kept (fun b => b = w1.heap.size) wr Wg := by rw [← hWg]; exact (Kept.refl _ wr).drew
                have hcg : IsCnt Wg w1.heap.size (kc + j) := by rw [← hWg]; exact hcj
                obtain ⟨cc, cd, v0, st, Wm, Wn, Wo, hlk, hlk2, hme, hes, hes2, hcn, hco, hkm, hkn, hko⟩ := cnt_step2 hcg hmx (j : Int) (x j) ⟨by omega, by omega⟩ hxj
                have HKJ := hid hKj
                have hKm := hKg.trans hkm
                have hKn := hKg.trans hkn
                have hKo := hKg.trans hko
                have HCN := hid hcn
                have HCO := hid hco
                have HMX := hid hmx
                clear hmx hcg hcn hco hkm hkn hko hKj hcj k5
                gi_wp2_with fail
                refine region_roundR (Kept (fun b => b = w1.heap.size) wr) 14 #[false, false, false, false, false, false, false, false, false, false, false, false, false, false] (by kernel_rfl) (by kernel_rfl) (by kernel_rfl) (by kernel_rfl) (fun R HR => ?_)
                rw [hWg]
                refine takeR (i := 0) (oi := ?_) (v := ?_) ?_ (by kernel_rfl) (by kernel_rfl) (by kernel_rfl) ?_ ?_ (by assumption) ?_
                rotate_left 2
                · simp only [List.getElem?_toArray, List.getElem?_cons_succ, List.getElem?_cons_zero]; rfl
                · kernel_rfl
                · intro Wx hSx
                  try dsimp only at hSx
                  go_simp
                  try with_reducible rfl
                simp only [Act.put, List.setIfInBounds_toArray, List.set_cons_zero, List.set_cons_succ]
                refine takeR (i := 1) (oi := ?_) (v := ?_) ?_ (by kernel_rfl) (by kernel_rfl) (by kernel_rfl) ?_ ?_ (by assumption) ?_
                rotate_left 2
                · simp only [List.getElem?_toArray, List.getElem?_cons_succ, List.getElem?_cons_zero]; rfl
                · kernel_rfl
                · intro Wx hSx
                  try dsimp only at hSx
                  go_simp
                  try with_reducible rfl
                simp only [Act.put, List.setIfInBounds_toArray, List.set_cons_zero, List.set_cons_succ]
                refine takeR (i := 2) (oi := ?_) (v := ?_) ?_ (by kernel_rfl) (by kernel_rfl) (by kernel_rfl) ?_ ?_ (by assumption) ?_
                rotate_left 2
                · simp only [List.getElem?_toArray, List.getElem?_cons_succ, List.getElem?_cons_zero]; rfl
                · kernel_rfl
                · intro Wx hSx
                  try dsimp only at hSx
                  go_simp
                  try with_reducible rfl
                simp only [Act.put, List.setIfInBounds_toArray, List.set_cons_zero, List.set_cons_succ]
                refine takeR (i := 3) (oi := ?_) (v := ?_) ?_ (by kernel_rfl) (by kernel_rfl) (by kernel_rfl) ?_ ?_ (by assumption) ?_
                rotate_left 2
                · simp only [List.getElem?_toArray, List.getElem?_cons_succ, List.getElem?_cons_zero]; rfl
                · kernel_rfl
                · intro Wx hSx
                  try dsimp only at hSx
                  go_simp
                  try with_reducible rfl
                simp only [Act.put, List.setIfInBounds_toArray, List.set_cons_zero, List.set_cons_succ]
                refine takeR (i := 4) (oi := ?_) (v := ?_) ?_ (by kernel_rfl) (by kernel_rfl) (by kernel_rfl) ?_ ?_ (by assumption) ?_
                rotate_left 2
                · simp only [List.getElem?_toArray, List.getElem?_cons_succ, List.getElem?_cons_zero]; rfl
                · kernel_rfl
                · intro Wx hSx
                  try dsimp only at hSx
                  go_simp
                  try with_reducible rfl
                simp only [Act.put, List.setIfInBounds_toArray, List.set_cons_zero, List.set_cons_succ]
                refine takeR (i := 5) (oi := ?_) (v := ?_) ?_ (by kernel_rfl) (by kernel_rfl) (by kernel_rfl) ?_ ?_ (by assumption) ?_
                rotate_left 2
                · simp only [List.getElem?_toArray, List.getElem?_cons_succ, List.getElem?_cons_zero]; rfl
                · kernel_rfl
                · intro Wx hSx
                  try dsimp only at hSx
                  go_simp
                  try with_reducible rfl
                simp only [Act.put, List.setIfInBounds_toArray, List.set_cons_zero, List.set_cons_succ]
                refine takeR (i := 6) (oi := ?_) (v := ?_) ?_ (by kernel_rfl) (by kernel_rfl) (by kernel_rfl) ?_ ?_ (by assumption) ?_
                rotate_left 2
                · simp only [List.getElem?_toArray, List.getElem?_cons_succ, List.getElem?_cons_zero]; rfl
                · kernel_rfl
                · intro Wx hSx
                  try dsimp only at hSx
                  go_simp
                  try with_reducible rfl
                simp only [Act.put, List.setIfInBounds_toArray, List.set_cons_zero, List.set_cons_succ]
                refine takeR (i := 7) (oi := ?_) (v := ?_) ?_ (by kernel_rfl) (by kernel_rfl) (by kernel_rfl) ?_ ?_ (by assumption) ?_
                rotate_left 2
                · simp only [List.getElem?_toArray, List.getElem?_cons_succ, List.getElem?_cons_zero]; rfl
                · kernel_rfl
                · intro Wx hSx
                  try dsimp only at hSx
                  go_simp
                  try with_reducible rfl
                simp only [Act.put, List.setIfInBounds_toArray, List.set_cons_zero, List.set_cons_succ]
                refine takeR (i := 8) (oi := ?_) (v := ?_) ?_ (by kernel_rfl) (by kernel_rfl) (by kernel_rfl) ?_ ?_ (by assumption) ?_
                rotate_left 2
                · simp only [List.getElem?_toArray, List.getElem?_cons_succ, List.getElem?_cons_zero]; rfl
                · kernel_rfl
                · intro Wx hSx
                  try dsimp only at hSx
                  go_simp
                  try with_reducible rfl
                simp only [Act.put, List.setIfInBounds_toArray, List.set_cons_zero, List.set_cons_succ]
                refine wpAnyH_ready (rs := [9, 11]) (by kernel_rfl) (by simp) ?_
                refine AllReadyH.cons (o := ?_) ?_ (fun K hK => ?_) ?_
                rotate_left
                · simp only [List.getElem?_toArray, List.getElem?_cons_succ, List.getElem?_cons_zero]; rfl
                · go_simp
                  refine hK.out _ _ hKg (fun hHeld => ?_)
                  clear hK K
                  simp only [Act.put, List.setIfInBounds_toArray, List.set_cons_zero, List.set_cons_succ]
                  refine takeR (i := 10) (oi := ?_) (v := ?_) ?_ (by kernel_rfl) (by kernel_rfl) (by kernel_rfl) ?_ ?_ (by assumption) ?_
                  rotate_left 2
                  · simp only [List.getElem?_toArray, List.getElem?_cons_succ, List.getElem?_cons_zero]; rfl
                  · kernel_rfl
                  · intro Wx hSx
                    try dsimp only at hSx
                    go_simp
                    try with_reducible rfl
                  simp only [Act.put, List.setIfInBounds_toArray, List.set_cons_zero, List.set_cons_succ]
                  refine wpAnyH_ready (rs := [11]) (by kernel_rfl) (by simp) ?_
                  refine AllReadyH.cons (o := ?_) ?_ (fun K hK => ?_) AllReadyH.nil
                  rotate_left
                  · simp only [List.getElem?_toArray, List.getElem?_cons_succ, List.getElem?_cons_zero]; rfl
                  go_simp
                  refine hK.out _ _ hKm (fun hHeld => ?_)
                  clear hK K
                  simp only [Act.put, List.setIfInBounds_toArray, List.set_cons_zero, List.set_cons_succ]
                  refine takeR (i := 12) (oi := ?_) (v := ?_) ?_ (by kernel_rfl) (by kernel_rfl) (by kernel_rfl) ?_ ?_ (by assumption) ?_
                  rotate_left 2
                  · simp only [List.getElem?_toArray, List.getElem?_cons_succ, List.getElem?_cons_zero]; rfl
                  · kernel_rfl
                  · intro Wx hSx
                    try dsimp only at hSx
                    go_simp
                    try with_reducible rfl
                  simp only [Act.put, List.setIfInBounds_toArray, List.set_cons_zero, List.set_cons_succ]
                  refine wpAnyH_ready (rs := [13]) (by kernel_rfl) (by simp) ?_
                  refine AllReadyH.cons (o := ?_) ?_ (fun K hK => ?_) AllReadyH.nil
                  rotate_left
                  · simp only [List.getElem?_toArray, List.getElem?_cons_succ, List.getElem?_cons_zero]; rfl
                  go_simp
                  refine hK.out _ _ hKn (fun hHeld => ?_)
                  clear hK K
                  simp only [Act.put, List.setIfInBounds_toArray, List.set_cons_zero, List.set_cons_succ]
                  refine done_R HR (by kernel_rfl) ?_
                  clear HR hlk hme hes hlk2 hes2
                  gi_wp2_with fail
                  exact ⟨⟨j + 1, hlt, by go_num, HKJ.out.trans hKn, HCN.out⟩, by simp [intOf]; omega⟩
                refine AllReadyH.cons (o := ?_) ?_ (fun K hK => ?_) AllReadyH.nil
                rotate_left
                · simp only [List.getElem?_toArray, List.getElem?_cons_succ, List.getElem?_cons_zero]; rfl
                · go_simp
                  refine hK.out _ _ hKm (fun hHeld => ?_)
                  clear hK K
                  simp only [Act.put, List.setIfInBounds_toArray, List.set_cons_zero, List.set_cons_succ]
                  refine takeR (i := 12) (oi := ?_) (v := ?_) ?_ (by kernel_rfl) (by kernel_rfl) (by kernel_rfl) ?_ ?_ (by assumption) ?_
                  rotate_left 2
                  · simp only [List.getElem?_toArray, List.getElem?_cons_succ, List.getElem?_cons_zero]; rfl
                  · kernel_rfl
                  · intro Wx hSx
                    try dsimp only at hSx
                    go_simp
                    try with_reducible rfl
                  simp only [Act.put, List.setIfInBounds_toArray, List.set_cons_zero, List.set_cons_succ]
                  refine wpAnyH_ready (rs := [9]) (by kernel_rfl) (by simp) ?_
                  refine AllReadyH.cons (o := ?_) ?_ (fun K hK => ?_) AllReadyH.nil
                  rotate_left
                  · simp only [List.getElem?_toArray, List.getElem?_cons_succ, List.getElem?_cons_zero]; rfl
                  go_simp
                  refine hK.out _ _ hKm (fun hHeld => ?_)
                  clear hK K
                  simp only [Act.put, List.setIfInBounds_toArray, List.set_cons_zero, List.set_cons_succ]
                  refine takeR (i := 10) (oi := ?_) (v := ?_) ?_ (by kernel_rfl) (by kernel_rfl) (by kernel_rfl) ?_ ?_ (by assumption) ?_
                  rotate_left 2
                  · simp only [List.getElem?_toArray, List.getElem?_cons_succ, List.getElem?_cons_zero]; rfl
                  · kernel_rfl
                  · intro Wx hSx
                    try dsimp only at hSx
                    go_simp
                    try with_reducible rfl
                  simp only [Act.put, List.setIfInBounds_toArray, List.set_cons_zero, List.set_cons_succ]
                  refine wpAnyH_ready (rs := [13]) (by kernel_rfl) (by simp) ?_
                  refine AllReadyH.cons (o := ?_) ?_ (fun K hK => ?_) AllReadyH.nil
                  rotate_left
                  · simp only [List.getElem?_toArray, List.getElem?_cons_succ, List.getElem?_cons_zero]; rfl
                  go_simp
                  refine hK.out _ _ hKo (fun hHeld => ?_)
                  clear hK K
                  simp only [Act.put, List.setIfInBounds_toArray, List.set_cons_zero, List.set_cons_succ]
                  refine done_R HR (by kernel_rfl) ?_
                  clear HR hlk hme hes hlk2 hes2
                  gi_wp2_with fail
                  exact ⟨⟨j + 1, hlt, by go_num, HKJ.out.trans hKo, HCO.out⟩, by simp [intOf]; omega⟩
              · obtain rfl : j = pn := by omega
                gi_wp2_with fail
                have hfl : (pre ++ [x]).filter (truthP women pieces wrong) = pre.filter (truthP women pieces wrong) ++ [x] := by simp [htr]
                have hall : Kept ow W2 wr := (HKK5.out.mono fun b h => (HI2.out.iff b).2 (h.imp id id |> Or.inr)).trans (hKj.mono fun b h => (HI2.out.iff b).2 (.inl h))
                have hw7 := HPL.out
                refine ⟨hall, fun b => b = w1.heap.size ∨ b = w1.heap.size + 1 ∨ b = g4, ⟨.slice (some ⟨g4, 0, none⟩) (k + 1 + 1) cap4, hKj.keep HBQ5.out (by omega), ?_, ⟨kc + j, by simp; omega, hcj⟩, hKj.keep HBR5.out (by omega), hKj.keep HBT5.out (by omega), hKj.keep (HKK5.out.keep HI2.out.hu (HNE5.out _ (by omega) (by omega))) (by omega), hall.extOld HI2.out.ext (fun b hb h => by
                  rcases (HI2.out.iff b).1 h with h | h | h
                  · omega
                  · omega
                  · have := HBV.out _ h; omega), fun b => by simp [Value.ownBlock, eq_comm]⟩, fun b hb => ?_⟩
                · rw [hfl, List.length_append, HKK.out, ownCells_append]
                  obtain ⟨h1, h2⟩ := HOWN4.out
                  refine ⟨h1, h2.imp id ?_⟩
                  rintro ⟨g', cap', cur, he, hg', hc', r⟩
                  have he' : g' = g4 := by injection he with h; injection h with h; injection h with h; exact h.symm
                  have hgne : g' ≠ w1.heap.size + 1 ∧ g' ≠ w1.heap.size := by omega
                  exact ⟨g', cap', cur, he, hg', hKj.keep (HK45.out.keep hc' hgne.1) hgne.2, r⟩
                · rcases hb with rfl | rfl | rfl
                  · exact .inl ((HI2.out.iff _).2 (.inl rfl))
                  · exact .inl ((HI2.out.iff _).2 (.inr (.inl rfl)))
                  · rcases HG4.out with h | h
                    · exact .inl ((HI2.out.iff _).2 (.inr (.inr h)))
                    · exact .inr (Nat.le_trans HSZ.out h)
      · have htr : truthP women pieces wrong x = false := by rw [truthP, HPL.out, HLL.out]; exact decide_eq_false hT
        have hgt : wrong < (L : Int) := by omega
        gi_wp2_with fail
        refine region_roundR (fun W' => Ext W2 W') 31 #[false, false, false, false, false, false, false, false, false, false, false, false, false, false, false, false, false, false, false, false, false, false, false, false, false, false, false, false, false, false, false] (by kernel_rfl) (by kernel_rfl) (by kernel_rfl) (by kernel_rfl) (fun R HR => ?_)
        refine takeR (i := 0) (oi := ?_) (v := ?_) ?_ (by kernel_rfl) (by kernel_rfl) (by kernel_rfl) ?_ ?_ (by assumption) ?_
        rotate_left 2
        · simp only [List.getElem?_toArray, List.getElem?_cons_succ, List.getElem?_cons_zero]; rfl
        · kernel_rfl
        · intro Wx hSx
          try dsimp only at hSx
          go_simp
          try with_reducible rfl
        simp only [Act.put, List.setIfInBounds_toArray, List.set_cons_zero, List.set_cons_succ]
        refine takeR (i := 1) (oi := ?_) (v := ?_) ?_ (by kernel_rfl) (by kernel_rfl) (by kernel_rfl) ?_ ?_ (by assumption) ?_
        rotate_left 2
        · simp only [List.getElem?_toArray, List.getElem?_cons_succ, List.getElem?_cons_zero]; rfl
        · kernel_rfl
        · intro Wx hSx
          try dsimp only at hSx
          go_simp
          try with_reducible rfl
        simp only [Act.put, List.setIfInBounds_toArray, List.set_cons_zero, List.set_cons_succ]
        refine takeR (i := 4) (oi := ?_) (v := ?_) ?_ (by kernel_rfl) (by kernel_rfl) (by kernel_rfl) ?_ ?_ (by assumption) ?_
        rotate_left 2
        · simp only [List.getElem?_toArray, List.getElem?_cons_succ, List.getElem?_cons_zero]; rfl
        · kernel_rfl
        · intro Wx hSx
          try dsimp only at hSx
          go_simp
          try with_reducible rfl
        simp only [Act.put, List.setIfInBounds_toArray, List.set_cons_zero, List.set_cons_succ]
        refine takeR (i := 5) (oi := ?_) (v := ?_) ?_ (by kernel_rfl) (by kernel_rfl) (by kernel_rfl) ?_ ?_ (by assumption) ?_
        rotate_left 2
        · simp only [List.getElem?_toArray, List.getElem?_cons_succ, List.getElem?_cons_zero]; rfl
        · kernel_rfl
        · intro Wx hSx
          try dsimp only at hSx
          go_simp
          try with_reducible rfl
        simp only [Act.put, List.setIfInBounds_toArray, List.set_cons_zero, List.set_cons_succ]
        refine wpAnyH_ready (rs := [2]) (by kernel_rfl) (by simp) ?_
        refine AllReadyH.cons rfl (fun K hK => ?_) AllReadyH.nil
        go_simp
        refine (wrong_c A n wc women S pn pc wrong x _ (HW1.out.ext (ext_trans HI2.out.ext e0)) HWL.out hn hpn7 (by have := listsF_mem (prefix_mem HPRE.out); rw [HPL.out, HWL.out] at this; exact this)).mono ?_
        rintro e w3 ⟨mv, rfl, hmv, hE3⟩
        obtain ⟨M, mc, rfl⟩ := hmv.val
        rw [HLL.out]
        have e3 : Ext W2 w3 := ext_trans e0 hE3
        refine hK.out _ _ e3 (fun hHeld => ?_)
        clear hK K
        simp only [Act.put, List.setIfInBounds_toArray, List.set_cons_zero, List.set_cons_succ]
        refine takeR (i := 3) (oi := ?_) (v := ?_) ?_ (by kernel_rfl) (by kernel_rfl) (by kernel_rfl) ?_ ?_ (by assumption) ?_
        rotate_left 2
        · simp only [List.getElem?_toArray, List.getElem?_cons_succ, List.getElem?_cons_zero]; rfl
        · kernel_rfl
        · intro Wx hSx
          try dsimp only at hSx
          go_simp
          try with_reducible rfl
        simp only [Act.put, List.setIfInBounds_toArray, List.set_cons_zero, List.set_cons_succ]
        refine takeR (i := 6) (oi := ?_) (v := ?_) ?_ (by kernel_rfl) (by kernel_rfl) (by kernel_rfl) ?_ ?_ (by assumption) ?_
        rotate_left 2
        · simp only [List.getElem?_toArray, List.getElem?_cons_succ, List.getElem?_cons_zero]; rfl
        · kernel_rfl
        · intro Wx hSx
          try dsimp only at hSx
          go_simp
          try with_reducible rfl
        simp only [Act.put, List.setIfInBounds_toArray, List.set_cons_zero, List.set_cons_succ]
        refine takeR (i := 7) (oi := ?_) (v := ?_) ?_ (by kernel_rfl) (by kernel_rfl) (by kernel_rfl) ?_ ?_ (by assumption) ?_
        rotate_left 2
        · simp only [List.getElem?_toArray, List.getElem?_cons_succ, List.getElem?_cons_zero]; rfl
        · kernel_rfl
        · intro Wx hSx
          try dsimp only at hSx
          go_simp
          try with_reducible rfl
        simp only [Act.put, List.setIfInBounds_toArray, List.set_cons_zero, List.set_cons_succ]
        refine skipR (i := 8) (oi := ?_) ?_ (by kernel_rfl) (by kernel_rfl) (by kernel_rfl) ?_ (by assumption) ?_
        rotate_left 1
        · simp only [List.getElem?_toArray, List.getElem?_cons_succ, List.getElem?_cons_zero]; rfl
        · kernel_rfl
        simp only [Act.put, List.setIfInBounds_toArray, List.set_cons_zero, List.set_cons_succ]
        refine skipR (i := 9) (oi := ?_) ?_ (by kernel_rfl) (by kernel_rfl) (by kernel_rfl) ?_ (by assumption) ?_
        rotate_left 1
        · simp only [List.getElem?_toArray, List.getElem?_cons_succ, List.getElem?_cons_zero]; rfl
        · kernel_rfl
        simp only [Act.put, List.setIfInBounds_toArray, List.set_cons_zero, List.set_cons_succ]
        refine skipR (i := 10) (oi := ?_) ?_ (by kernel_rfl) (by kernel_rfl) (by kernel_rfl) ?_ (by assumption) ?_
        rotate_left 1
        · simp only [List.getElem?_toArray, List.getElem?_cons_succ, List.getElem?_cons_zero]; rfl
        · kernel_rfl
        simp only [Act.put, List.setIfInBounds_toArray, List.set_cons_zero, List.set_cons_succ]
        refine skipR (i := 11) (oi := ?_) ?_ (by kernel_rfl) (by kernel_rfl) (by kernel_rfl) ?_ (by assumption) ?_
        rotate_left 1
        · simp only [List.getElem?_toArray, List.getElem?_cons_succ, List.getElem?_cons_zero]; rfl
        · kernel_rfl
        simp only [Act.put, List.setIfInBounds_toArray, List.set_cons_zero, List.set_cons_succ]
        refine skipR (i := 12) (oi := ?_) ?_ (by kernel_rfl) (by kernel_rfl) (by kernel_rfl) ?_ (by assumption) ?_
        rotate_left 1
        · simp only [List.getElem?_toArray, List.getElem?_cons_succ, List.getElem?_cons_zero]; rfl
        · kernel_rfl
        simp only [Act.put, List.setIfInBounds_toArray, List.set_cons_zero, List.set_cons_succ]
        refine skipR (i := 13) (oi := ?_) ?_ (by kernel_rfl) (by kernel_rfl) (by kernel_rfl) ?_ (by assumption) ?_
        rotate_left 1
        · simp only [List.getElem?_toArray, List.getElem?_cons_succ, List.getElem?_cons_zero]; rfl
        · kernel_rfl
        simp only [Act.put, List.setIfInBounds_toArray, List.set_cons_zero, List.set_cons_succ]
        refine skipR (i := 14) (oi := ?_) ?_ (by kernel_rfl) (by kernel_rfl) (by kernel_rfl) ?_ (by assumption) ?_
        rotate_left 1
        · simp only [List.getElem?_toArray, List.getElem?_cons_succ, List.getElem?_cons_zero]; rfl
        · kernel_rfl
        simp only [Act.put, List.setIfInBounds_toArray, List.set_cons_zero, List.set_cons_succ]
        refine skipR (i := 15) (oi := ?_) ?_ (by kernel_rfl) (by kernel_rfl) (by kernel_rfl) ?_ (by assumption) ?_
        rotate_left 1
        · simp only [List.getElem?_toArray, List.getElem?_cons_succ, List.getElem?_cons_zero]; rfl
        · kernel_rfl
        simp only [Act.put, List.setIfInBounds_toArray, List.set_cons_zero, List.set_cons_succ]
        refine skipR (i := 16) (oi := ?_) ?_ (by kernel_rfl) (by kernel_rfl) (by kernel_rfl) ?_ (by assumption) ?_
        rotate_left 1
        · simp only [List.getElem?_toArray, List.getElem?_cons_succ, List.getElem?_cons_zero]; rfl
        · kernel_rfl
        simp only [Act.put, List.setIfInBounds_toArray, List.set_cons_zero, List.set_cons_succ]
        refine skipR (i := 17) (oi := ?_) ?_ (by kernel_rfl) (by kernel_rfl) (by kernel_rfl) ?_ (by assumption) ?_
        rotate_left 1
        · simp only [List.getElem?_toArray, List.getElem?_cons_succ, List.getElem?_cons_zero]; rfl
        · kernel_rfl
        simp only [Act.put, List.setIfInBounds_toArray, List.set_cons_zero, List.set_cons_succ]
        refine skipR (i := 18) (oi := ?_) ?_ (by kernel_rfl) (by kernel_rfl) (by kernel_rfl) ?_ (by assumption) ?_
        rotate_left 1
        · simp only [List.getElem?_toArray, List.getElem?_cons_succ, List.getElem?_cons_zero]; rfl
        · kernel_rfl
        simp only [Act.put, List.setIfInBounds_toArray, List.set_cons_zero, List.set_cons_succ]
        refine skipR (i := 19) (oi := ?_) ?_ (by kernel_rfl) (by kernel_rfl) (by kernel_rfl) ?_ (by assumption) ?_
        rotate_left 1
        · simp only [List.getElem?_toArray, List.getElem?_cons_succ, List.getElem?_cons_zero]; rfl
        · kernel_rfl
        simp only [Act.put, List.setIfInBounds_toArray, List.set_cons_zero, List.set_cons_succ]
        refine skipR (i := 20) (oi := ?_) ?_ (by kernel_rfl) (by kernel_rfl) (by kernel_rfl) ?_ (by assumption) ?_
        rotate_left 1
        · simp only [List.getElem?_toArray, List.getElem?_cons_succ, List.getElem?_cons_zero]; rfl
        · kernel_rfl
        simp only [Act.put, List.setIfInBounds_toArray, List.set_cons_zero, List.set_cons_succ]
        refine skipR (i := 21) (oi := ?_) ?_ (by kernel_rfl) (by kernel_rfl) (by kernel_rfl) ?_ (by assumption) ?_
        rotate_left 1
        · simp only [List.getElem?_toArray, List.getElem?_cons_succ, List.getElem?_cons_zero]; rfl
        · kernel_rfl
        simp only [Act.put, List.setIfInBounds_toArray, List.set_cons_zero, List.set_cons_succ]
        refine skipR (i := 22) (oi := ?_) ?_ (by kernel_rfl) (by kernel_rfl) (by kernel_rfl) ?_ (by assumption) ?_
        rotate_left 1
        · simp only [List.getElem?_toArray, List.getElem?_cons_succ, List.getElem?_cons_zero]; rfl
        · kernel_rfl
        simp only [Act.put, List.setIfInBounds_toArray, List.set_cons_zero, List.set_cons_succ]
        refine skipR (i := 23) (oi := ?_) ?_ (by kernel_rfl) (by kernel_rfl) (by kernel_rfl) ?_ (by assumption) ?_
        rotate_left 1
        · simp only [List.getElem?_toArray, List.getElem?_cons_succ, List.getElem?_cons_zero]; rfl
        · kernel_rfl
        simp only [Act.put, List.setIfInBounds_toArray, List.set_cons_zero, List.set_cons_succ]
        refine skipR (i := 24) (oi := ?_) ?_ (by kernel_rfl) (by kernel_rfl) (by kernel_rfl) ?_ (by assumption) ?_
        rotate_left 1
        · simp only [List.getElem?_toArray, List.getElem?_cons_succ, List.getElem?_cons_zero]; rfl
        · kernel_rfl
        simp only [Act.put, List.setIfInBounds_toArray, List.set_cons_zero, List.set_cons_succ]
        refine skipR (i := 25) (oi := ?_) ?_ (by kernel_rfl) (by kernel_rfl) (by kernel_rfl) ?_ (by assumption) ?_
        rotate_left 1
        · simp only [List.getElem?_toArray, List.getElem?_cons_succ, List.getElem?_cons_zero]; rfl
        · kernel_rfl
        simp only [Act.put, List.setIfInBounds_toArray, List.set_cons_zero, List.set_cons_succ]
        refine skipR (i := 26) (oi := ?_) ?_ (by kernel_rfl) (by kernel_rfl) (by kernel_rfl) ?_ (by assumption) ?_
        rotate_left 1
        · simp only [List.getElem?_toArray, List.getElem?_cons_succ, List.getElem?_cons_zero]; rfl
        · kernel_rfl
        simp only [Act.put, List.setIfInBounds_toArray, List.set_cons_zero, List.set_cons_succ]
        refine skipR (i := 27) (oi := ?_) ?_ (by kernel_rfl) (by kernel_rfl) (by kernel_rfl) ?_ (by assumption) ?_
        rotate_left 1
        · simp only [List.getElem?_toArray, List.getElem?_cons_succ, List.getElem?_cons_zero]; rfl
        · kernel_rfl
        simp only [Act.put, List.setIfInBounds_toArray, List.set_cons_zero, List.set_cons_succ]
        refine skipR (i := 28) (oi := ?_) ?_ (by kernel_rfl) (by kernel_rfl) (by kernel_rfl) ?_ (by assumption) ?_
        rotate_left 1
        · simp only [List.getElem?_toArray, List.getElem?_cons_succ, List.getElem?_cons_zero]; rfl
        · kernel_rfl
        simp only [Act.put, List.setIfInBounds_toArray, List.set_cons_zero, List.set_cons_succ]
        refine skipR (i := 29) (oi := ?_) ?_ (by kernel_rfl) (by kernel_rfl) (by kernel_rfl) ?_ (by assumption) ?_
        rotate_left 1
        · simp only [List.getElem?_toArray, List.getElem?_cons_succ, List.getElem?_cons_zero]; rfl
        · kernel_rfl
        simp only [Act.put, List.setIfInBounds_toArray, List.set_cons_zero, List.set_cons_succ]
        refine takeR (i := 30) (oi := ?_) (v := ?_) ?_ (by kernel_rfl) (by kernel_rfl) (by kernel_rfl) ?_ ?_ (by assumption) ?_
        rotate_left 2
        · simp only [List.getElem?_toArray, List.getElem?_cons_succ, List.getElem?_cons_zero]; rfl
        · kernel_rfl
        · intro Wx hSx
          try dsimp only at hSx
          go_simp
          try with_reducible rfl
        simp only [Act.put, List.setIfInBounds_toArray, List.set_cons_zero, List.set_cons_succ]
        refine done_R HR (by kernel_rfl) ?_
        clear HR
        gi_wp2_with fail
        exact ⟨Kept.of_ext e3, ow, ⟨tv, (HI2.out.kept rfl hlt1 (by omega) (Kept.of_ext e3 : Kept (fun _ => False) _ _) (fun _ _ h => h)).skip htr⟩, fun b hb => Or.inl hb⟩
    case hdone =>
      rintro ow W ⟨tv, hI⟩ hK
      obtain ⟨T, tc, rfl⟩ := own_slice hI.own
      have HI := hid hI
      have HK := hid hK
      have cr : W.cell? ⟨w1.heap.size + 1 + 1, 0, none⟩ = some (.pointer (some ⟨w1.heap.size + 1, 0, none⟩)) := blk_cell hI.hr 0
      obtain ⟨tn, htn⟩ : ∃ tn, ((listsF women pieces).filter (truthP women pieces wrong)).length = tn := ⟨_, rfl⟩
      rw [htn] at HI
      have cq : ∀ j, W.cell? ⟨w1.heap.size + 1, j, none⟩ = (#[.slice A n wc, .slice S pn pc, .int .i64 wrong, .slice T tn tc, .map (some w1.heap.size)] : Array Value)[j]? := blk_cell HI.out.hq
      have HTN := hid htn
      have hKW : Kept (fun b => b = Wd.heap.size) W (W.putObj Wd.heap.size (.deferred none)) := (Kept.refl _ W).putObj _ rfl
      have HKW := hid hKW
      have hEW : Ext w (W.putObj Wd.heap.size (.deferred none)) := hKW.extOld (ext_trans HE1.out HI.out.ext) (fun b hb e => by
        have := HSD.out
        omega)
      have HEW := hid hEW
      clear hI hK hKW hEW htn hmm hWc hWd
      by_cases hz : tn = 0
      · subst hz
        go_wp2
        refine leaves_mark HK.out (results_tmp2 rfl _ _ _) ?_
        have hE : askedE women pieces wrong = 11 := by rw [askedE, HFE.out, if_pos rfl, truthsF, HTN.out, if_pos rfl]
        exact ⟨HEW.out, .inl ⟨by rw [hE]; decide, by rw [hE]; rfl⟩⟩
      · have hz' : ((tn : Int) == 0) = false := by rw [beq_eq_false_iff_ne]; omega
        go_wp2
        refine leaves_mark HK.out (results_tmp2 rfl _ _ _) ?_
        have hE : askedE women pieces wrong = 0 := by rw [askedE, HFE.out, if_pos rfl, truthsF, HTN.out, if_neg hz]
        refine ⟨HEW.out, .inr ⟨hE, w1.heap.size + 1, T, tc, .map (some w1.heap.size), rfl, by omega, ?_, ?_⟩⟩
        · rw [truthsF, HTN.out]
          exact HKW.out.keep HI.out.hq (by have := HSD.out; omega)
        · rw [truthsF, HTN.out]
          have hle := List.length_filter_le (truthP women pieces wrong) (listsF women pieces)
          rw [HTN.out] at hle
          have := listsF_len HFE.out
          have ho := HI.out.own
          rw [HTN.out] at ho
          refine own_owns (base := w1.heap.size + 6) HTN.out ⟨ho.1, ho.2.imp id ?_⟩ (by omega)
          rintro ⟨g, cap, cur, h1, h2, h3, r⟩
          exact ⟨g, cap, cur, h1, h2, HKW.out.keep h3 (by have := HSD.out; omega), r⟩
  · have h0' : (fe == 0) = false := beq_eq_false_iff_ne.2 h0
    go_wp2_with (first
      | (go_at_call 123; refine (checkTable_c A n wc women S pn pc pieces wrong _ (KW.out.ext (by go_grown)) HWL.out (KP.out.ext (by go_grown)) HPL.out hn hpn).mono ?_; rintro e w1 ⟨rfl, hB1⟩; rw [HFE.out]))
    refine leaves_nil (results_tmp2 rfl _ _ _) ?_
    have hE : askedE women pieces wrong = fe := by rw [askedE, HFE.out, if_neg h0]
    refine ⟨ext_trans (by go_grown) hB1, .inl ⟨by rw [hE]; exact h0, by rw [hE]; rfl⟩⟩
end Go.Proofs.YtlcakmbejjlmeaaGreat
