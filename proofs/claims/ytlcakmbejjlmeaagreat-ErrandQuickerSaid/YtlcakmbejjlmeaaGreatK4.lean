/- The contract of bundle's 'Moves'. -/
import Derived.Test.YtlcakmbejjlmeaaGreatK3
set_option linter.unusedVariables false
set_option linter.unusedSimpArgs false
namespace Go.Proofs.YtlcakmbejjlmeaaGreat
open Go.RowKit

theorem asked_no (A : Option Addr) (n wc : Nat) (women : List Wom) (S : Option Addr) (pn pc : Nat) (pieces : List Pce) (wrong : Int) (w : World) (hW : IsWoms w (.slice A n wc) women) (hwl : women.length = n) (hP : IsPces w (.slice S pn pc) pieces) (hpl : pieces.length = pn) (hn : n ≤ 1000) (hpn : pn ≤ 1000) (h : askedE women pieces wrong ≠ 0) :
    Calls Tryz.prog 95 #[.agg #[.slice A n wc, .slice S pn pc, .int .i64 wrong]] w fun e w' => e = .returned (.tuple #[.pointer none, .int .i64 (askedE women pieces wrong)]) ∧ Ext w w' :=
  (asked_c A n wc women S pn pc pieces wrong w hW hwl hP hpl hn hpn).mono fun e w' h' => by
    obtain ⟨hE, ⟨_, he⟩ | ⟨h0, _⟩⟩ := h'
    · exact ⟨he, hE⟩
    · exact absurd h0 h
def AskYes (A : Option Addr) (n wc : Nat) (women : List Wom) (S : Option Addr) (pn pc : Nat) (pieces : List Pce) (wrong : Int) (w : World) (e : Ending) (w' : World) : Prop :=
  ∃ q T tc mv, e = .returned (.tuple #[.pointer (some ⟨q, 0, none⟩), .int .i64 0]) ∧ w.heap.size ≤ q ∧
      w'.heap[q]? = some (.cells #[.slice A n wc, .slice S pn pc, .int .i64 wrong, .slice T (truthsF women pieces wrong).length tc, mv] 142 (0, 0)) ∧ IsOwns w' (.slice T (truthsF women pieces wrong).length tc) (truthsF women pieces wrong) ∧ Ext w w'
theorem asked_yes (A : Option Addr) (n wc : Nat) (women : List Wom) (S : Option Addr) (pn pc : Nat) (pieces : List Pce) (wrong : Int) (w : World) (hW : IsWoms w (.slice A n wc) women) (hwl : women.length = n) (hP : IsPces w (.slice S pn pc) pieces) (hpl : pieces.length = pn) (hn : n ≤ 1000) (hpn : pn ≤ 1000) (h : askedE women pieces wrong = 0) :
    Calls Tryz.prog 95 #[.agg #[.slice A n wc, .slice S pn pc, .int .i64 wrong]] w (AskYes A n wc women S pn pc pieces wrong w) :=
  (asked_c A n wc women S pn pc pieces wrong w hW hwl hP hpl hn hpn).mono fun e w' h' => by
    obtain ⟨hE, ⟨h0, _⟩ | ⟨_, q, T, tc, mv, he, h1, h2, h3⟩⟩ := h'
    · exact absurd h h0
    · exact ⟨q, T, tc, mv, he, h1, h2, h3, hE⟩
theorem askedE_zero {women : List Wom} {pieces : List Pce} {wrong : Int} (h : askedE women pieces wrong = 0) : tabFault women pieces wrong = 0 ∧ 0 < (truthsF women pieces wrong).length ∧ (truthsF women pieces wrong).length ≤ 2000 ∧ pieces.length ≤ 7 ∧ women.length ≤ 5 := by
  rw [askedE] at h
  split at h
  · rename_i h0
    split at h
    · simp at h
    · rename_i h1
      refine ⟨h0, by omega, Nat.le_trans (List.length_filter_le _ _) (listsF_len h0), ?_⟩
      rw [tabFault] at h0
      split at h0
      · simp at h0
      · omega
  · exact absurd h (by assumption)

/-- The best truth; the moves. -/
def bestO (women : List Wom) (pieces : List Pce) (wrong : Int) : Nat → Int := bestF pieces (truthsF women pieces wrong)
def movK (pieces : List Pce) (o : Nat → Int) (l : List Int) : List Mov := l.map fun i => ⟨i, pBd pieces i.toNat, o i.toNat⟩
def movesF (women : List Wom) (pieces : List Pce) (wrong : Int) : List Mov := movK pieces (bestO women pieces wrong) (astrayF pieces (bestO women pieces wrong))
theorem astrayF_at {pieces : List Pce} {o : Nat → Int} {i : Nat} (h : i < (astrayF pieces o).length) : ∃ k : Nat, k < pieces.length ∧ at0 (astrayF pieces o) i = (k : Int) := by
  have h1 := at0_mem h
  obtain ⟨k, hk, _, he⟩ := (mem_selK _ _ _).1 h1
  exact ⟨k, hk, he⟩
theorem astrayF_len (pieces : List Pce) (o : Nat → Int) : (astrayF pieces o).length ≤ pieces.length := selK_len _ _
theorem movesF_len (women : List Wom) (pieces : List Pce) (wrong : Int) : (movesF women pieces wrong).length ≤ pieces.length := by
  rw [movesF, movK, List.length_map]; exact astrayF_len _ _

def movRow (m : Mov) : List Value := [.int .i64 m.piece, .int .i64 m.src, .int .i64 m.dst]
def movCells (l : List Mov) : List Value := l.flatMap movRow
theorem movCells_at : ∀ (l : List Mov) (i : Nat), i < l.length → (movCells l)[i * 3]? = some (.int .i64 (mPc l i)) ∧ (movCells l)[i * 3 + 1]? = some (.int .i64 (mSr l i)) ∧ (movCells l)[i * 3 + 2]? = some (.int .i64 (mDs l i))
  | [], i, hi => absurd hi (Nat.not_lt_zero i)
  | m :: l, 0, _ => by simp [movCells, movRow, mPc, mSr, mDs]
  | m :: l, i + 1, hi => by
    have ih := movCells_at l i (by simpa using hi)
    have h1 : movCells (m :: l) = movRow m ++ movCells l := by simp [movCells]
    have h2 : ∀ j, (movCells (m :: l))[(i + 1) * 3 + j]? = (movCells l)[i * 3 + j]? := fun j => by
      rw [h1, List.getElem?_append_right (by simp [movRow]; omega)]
      congr 1
      simp [movRow]; omega
    have h3 := h2 0
    simp only [Nat.add_zero] at h3
    rw [h3, h2 1, h2 2]
    simpa [mPc, mSr, mDs] using ih
theorem own_movs {W : World} {base : Nat} {v : Value} {l : List Mov} {n : Nat} {e : TypeId} (hn : l.length = n) (h : W.ownsRow base e 3 v n (movCells l)) (hl : n ≤ 1000000) : IsMovs W v l := by
  subst hn
  obtain ⟨h1, h2⟩ := h
  refine ⟨by omega, ?_⟩
  rcases h2 with ⟨rfl, h0⟩ | ⟨g, cap, cur, rfl, hg, hc, hcap, hmax, hsz, htk⟩
  · exact ⟨none, 0, by rw [h0], fun h => by omega⟩
  · refine ⟨_, cap, rfl, fun _ => ⟨g, 0, rfl, fun i hi => ?_⟩⟩
    have h3 := movCells_at l i hi
    rw [← htk] at h3
    rw [List.getElem?_take_of_lt (by omega), List.getElem?_take_of_lt (by omega), List.getElem?_take_of_lt (by omega)] at h3
    rw [blk_cell hc, blk_cell hc, blk_cell hc, Nat.zero_add]
    simpa using h3

theorem step_app_one {P : Program} {ops : Array Oper} {o : Oper} {a : Act} {K : Act → World → Prop} {Q : Exit → Act → World → Prop} {E : Prop} {w W0 : World} (hgd : o.guard = none) (s x : Operand) (t e : TypeId)
    (ho : o.op = .call { callee := .builtin .append, args := #[s, x], argTypes := #[t, t] }) (ht : P.underlying t = some (.slice e)) (z : Value) (bytes : Nat) (cs : Array Value)
    (hinfo : (P.info? e).map (fun i => (i.zero, i.size, i.bytes)) = some (some z, cs.size, bytes)) (hzs : z.cells.size = cs.size) (hsz : 0 < cs.size) (hsz2 : cs.size ≤ 100) (hby : bytes ≤ 100) (h1 : ∀ u ∈ cs.toList, u.oneCell' = true)
    (base : Nat) (v : Value) (n : Nat) (xs : List Value) (hs : a.eval s = v) (hown : W0.ownsRow base e cs.size v n xs) (hext : Ext W0 w) (H : Nat) (hx : a.eval x = .slice (some ⟨H, 0, none⟩) 1 1) (hH : w.heap[H]? = some (.cells cs e (0, 0))) (hbase : base ≤ W0.heap.size) (hl : n ≤ 1000000)
    (h : ∀ g cap w', w'.ownsRow base e cs.size (.slice (some ⟨g, 0, none⟩) (n + 1) cap) (n + 1) (xs ++ cs.toList) → Below base w w' → w.grownBy w' v.ownBlock → (v.ownBlock = some g ∨ w.heap.size ≤ g) → K (a.put o.dst (.slice (some ⟨g, 0, none⟩) (n + 1) cap)) w') :
    if Region.wanted o (yielded ops a.tmps) = true then Oper.wp P o a w K Q else E := by
  have hown' := own_ext hown hext
  obtain ⟨g, cap, w', hr, h2, h3, h4⟩ := run_app_one (P := P) (w := w) t o.type e ht z bytes cs hinfo hzs hsz hsz2 hby h1 base v n xs hown' H hH (Nat.le_trans hbase hext.size) hl
  exact step_run_app hgd s x t ho hs hx hr (h g cap w' h2 ((Below.refl base w).grown h3 (Nat.le_trans hbase hext.size) fun k hk => (own_block hown' k hk).1) h3 h4)
theorem movK_succ (pieces : List Pce) (o : Nat → Int) (l : List Int) (k : Nat) (a : Nat) (h : k < l.length) (ha : at0 l k = (a : Int)) : movK pieces o (l.take (k + 1)) = movK pieces o (l.take k) ++ [⟨a, pBd pieces a, o a⟩] := by
  have e : l[k] = (a : Int) := by rw [← ha]; simp [at0, List.getD_eq_getElem?_getD, List.getElem?_eq_getElem h]
  rw [List.take_succ_eq_append_getElem h, movK, movK, List.map_append, e]
  simp
theorem movK_len (pieces : List Pce) (o : Nat → Int) (l : List Int) : (movK pieces o l).length = l.length := by simp [movK]
theorem movCells_append (a b : List Mov) : movCells (a ++ b) = movCells a ++ movCells b := by simp [movCells]

def MovPost (women : List Wom) (pieces : List Pce) (wrong : Int) (w : World) (e : Ending) (w' : World) : Prop :=
  Ext w w' ∧ ((askedE women pieces wrong ≠ 0 ∧ e = .returned (.tuple #[.slice none 0 0, .int .i64 (askedE women pieces wrong)])) ∨
    (askedE women pieces wrong = 0 ∧ ∃ v, e = .returned (.tuple #[v, .int .i64 0]) ∧ IsMovs w' v (movesF women pieces wrong)))
set_option maxHeartbeats 3200000 in
set_option maxRecDepth 100000 in
theorem moves_c (A : Option Addr) (n wc : Nat) (women : List Wom) (S : Option Addr) (pn pc : Nat) (pieces : List Pce) (wrong : Int) (w : World) (hW : IsWoms w (.slice A n wc) women) (hwl : women.length = n) (hP : IsPces w (.slice S pn pc) pieces) (hpl : pieces.length = pn) (hn : n ≤ 1000) (hpn : pn ≤ 1000) :
    Calls Tryz.prog 50 #[.agg #[.slice A n wc, .slice S pn pc, .int .i64 wrong]] w (MovPost women pieces wrong w) := by
  have KW := hid hW
  have KP := hid hP
  have HWL := hid hwl
  have HPL := hid hpl
  clear hW hwl hP hpl
  obtain ⟨ae, hae⟩ : ∃ ae, askedE women pieces wrong = ae := ⟨_, rfl⟩
  have HAE := hid hae
  clear hae
  by_cases h0 : ae = 0
  · subst h0
    obtain ⟨_, ht0, ht1, hp7, hw5⟩ := askedE_zero HAE.out
    rw [HPL.out] at hp7
    obtain ⟨tn, htn⟩ : ∃ tn, (truthsF women pieces wrong).length = tn := ⟨_, rfl⟩
    rw [htn] at ht0 ht1
    have HTN := hid htn
    obtain ⟨o, ho⟩ : ∃ o, bestF pieces (truthsF women pieces wrong) = o := ⟨_, rfl⟩
    have HO := hid ho
    clear htn hw5 ho
    go_enter Tryz.func50, Tryz.ntmps50
    go_wp2_with (first
      | (go_at_call 95; refine (asked_yes A n wc women S pn pc pieces wrong _ (KW.out.ext (by go_grown)) HWL.out (KP.out.ext (by go_grown)) HPL.out hn hpn HAE.out).mono ?_; unfold AskYes; rintro e w1 ⟨q, T, tc, mv, rfl, hq, hqb, hT, hE1⟩; rw [HTN.out] at hqb hT; have HQ := hid hqb; have HT := hid hT; have b1 : w1.heap[w.heap.size]? = some (.cells #[.slice A n wc, .slice S pn pc, .int .i64 wrong] 38 (0, 0)) := ext_blk_keep hE1 (heap_alloc_new w _); have HB1 := hid b1; have HE1 := hid (ext_trans (by go_grown) hE1 : Ext w w1); clear hqb hT b1)
      | (go_at_call 96; refine (best_c q _ mv T tn tc (truthsF women pieces wrong) S pn pc pieces wrong _ HQ.out (KP.out.ext HE1.out) HPL.out hp7 HT.out HTN.out ht0 (by omega)).mono ?_; rintro e w2 ⟨rfl, hB2⟩; rw [HO.out]))
    have HE2 := hid (ext_trans HE1.out hB2)
    refine wp_gen ?_
    intro W0 hW0
    have hB0 : Ext w2 W0 := by rw [hW0]; go_grown
    have b6 : W0.heap[w2.heap.size]? = some (.cells #[.int .i64 (o 0), .int .i64 (o 1), .int .i64 (o 2), .int .i64 (o 3), .int .i64 (o 4), .int .i64 (o 5), .int .i64 (o 6)] 136 (0, 0)) := by rw [hW0]; first | exact (by repeat (first | exact heap_alloc_at _ _ (by simp) | refine heap_alloc_keep ?_)) | exact set7 (by repeat (first | exact heap_alloc_at _ _ (by simp) | refine heap_alloc_keep ?_)) rfl _ _ _ _ _ _ _
    have hq0 := ext_blk_keep (ext_trans hB2 hB0) HQ.out
    clear hW0
    have f1 := ext_blk b6
    have f2 := ext_blk hq0
    have e0 : Ext W0 W0 := ext_refl W0
    go_region_held3 (fun W => Ext W0 W)
      (first | exact Below.drew (by assumption) | assumption | exact ext_trans (by assumption) (by assumption))
      ((go_at_call 97; refine (astray_c _ S pn pc pieces wrong o _ (KP.out.ext (ext_trans HE2.out (ext_trans hB0 (by assumption)))) HPL.out hp7).mono ?_; rintro e w3 ⟨v, rfl, hv, hB3⟩; obtain ⟨V, vc, rfl⟩ := hv.val))
    have e3 : Ext W0 w3 := by assumption
    obtain ⟨al, hal⟩ : ∃ al, (astrayF pieces o).length = al := ⟨_, rfl⟩
    have hal7 : al ≤ 7 := by have := astrayF_len pieces o; have := HPL.out; omega
    rw [hal] at hv
    rw [hal]
    have HAL := hid hal
    have HV := hid hv
    have HT1 := hid (ext_blk_keep (ext_trans hB2 (ext_trans hB0 e3)) HB1.out)
    have HB6 := hid (ext_blk_keep e3 b6)
    have HE3 := hid (ext_trans HE2.out (ext_trans hB0 e3))
    clear hal hv f1 f2 b6 hq0
    go_wp2
    go_loopw [7, 27] (fun out i wr => ∃ k : Nat, k ≤ al ∧ i = .int .i64 k ∧ wr.ownsRow w3.heap.size 85 3 out k (movCells (movK pieces o ((astrayF pieces o).take k))) ∧ Ext w3 wr) (fun _ i _ => al - (intOf i).toNat)
    case atStart => exact ⟨0, Nat.zero_le _, rfl, own_nil _ _ _ _, ext_refl _⟩
    case round =>
      obtain ⟨k, hk, rfl, hown, hE⟩ := hrel
      by_cases hlt : k < al
      · obtain ⟨a, hap, haa⟩ := astrayF_at (pieces := pieces) (o := o) (i := k) (by have := HAL.out; omega)
        rw [HPL.out] at hap
        obtain ⟨vb, vo, rfl, hvc⟩ := HV.out.at (by omega)
        have cv : wr.cell? ⟨vb, vo + k, none⟩ = some (.int .i64 (a : Int)) := by rw [← haa]; exact cell_ext hE (hvc k hlt)
        obtain ⟨pb, po, rfl, hpcs⟩ := (KP.out.ext HE3.out).at (by omega)
        obtain ⟨mv', _, _, hbd⟩ := hpcs a hap
        have g1 := ext_blk HT1.out
        have g2 := ext_cell hbd (ext_refl w3) (Nat.le_refl _)
        have g3 : ∀ W, Ext w3 W → W.cell? ⟨w2.heap.size, a, none⟩ = some (.int .i64 (o a)) := fun W h => (ext_blk HB6.out W h a).trans (m7_at o a (by omega))
        obtain ⟨O, oc, rfl⟩ := own_slice hown
        have hi0 : (0 : Int) ≤ (a : Int) := by omega
        have hi1 : (a : Int) < (pn : Int) := by omega
        have hi2 : (a : Int) < 7 := by omega
        have HOWN := hid hown
        have HAA := hid haa
        clear hvc hpcs hbd hown haa
        go_wp2
        go_region_held3 (fun W => Ext w3 W)
          (first | exact Below.drew (by assumption) | assumption | exact ext_trans (by assumption) (by assumption) | exact ext_alloc (by assumption) _ | exact Below.trans (by assumption) (by assumption) | go_grown)
          ((refine step_app_one (W0 := wr) (by rfl) _ _ 78 85 (by rfl) Tryz.underlying78 (.agg #[.int .i64 0, .int .i64 0, .int .i64 0]) 24 #[.int .i64 (a : Int), .int .i64 (pBd pieces a), .int .i64 (o a)] (by kernel_rfl) rfl (by simp) (by simp) (by decide) (by simp [Value.oneCell']) w3.heap.size _ k _ (by rfl) HOWN.out (by first | exact ext_alloc (ext_refl wr).drew _ | go_grown) _ (by rfl) (heap_alloc_at _ _ (by simp)) hE.size (by omega) ?_
            intro g cap w4 hown4 hB4 hg4 hor4))
        have hs := movK_succ pieces o (astrayF pieces o) k a (by have := HAL.out; omega) HAA.out
        have e4 : Ext w3 w4 := by assumption
        have hrow : movCells (movK pieces o ((astrayF pieces o).take (k + 1))) = movCells (movK pieces o ((astrayF pieces o).take k)) ++ [.int .i64 (a : Int), .int .i64 (pBd pieces a), .int .i64 (o a)] := by
          rw [hs, movCells_append]; rfl
        have HROW := hid hrow
        clear hrow hs g1 g2 g3 cv
        go_wp2
        go_roundw
        case rel => exact ⟨k + 1, hlt, by go_num, by rw [HROW.out]; exact hown4, e4⟩
        case measure => simp [intOf]; omega
      · obtain rfl : k = al := by omega
        have HOWN := hid hown
        clear hown
        go_wp2
        go_ret2
        refine ⟨ext_trans HE3.out hE, .inr ⟨HAE.out, _, rfl, ?_⟩⟩
        have h1 := HOWN.out
        rw [List.take_of_length_le (by have := HAL.out; omega)] at h1
        have h2 : movesF women pieces wrong = movK pieces o (astrayF pieces o) := by rw [movesF, bestO, HO.out]
        rw [h2]
        exact own_movs (by rw [movK_len]; exact HAL.out) h1 (by omega)
  · have h0' : (ae == 0) = false := beq_eq_false_iff_ne.2 h0
    go_enter Tryz.func50, Tryz.ntmps50
    go_wp2_with (go_at_call 95; refine (asked_no A n wc women S pn pc pieces wrong _ (KW.out.ext (by go_grown)) HWL.out (KP.out.ext (by go_grown)) HPL.out hn hpn (by rw [HAE.out]; exact h0)).mono ?_; rintro e w1 ⟨rfl, hE1⟩; rw [HAE.out])
    go_ret2
    exact ⟨ext_trans (by go_grown) hE1, .inl ⟨by rw [HAE.out]; exact h0, by rw [HAE.out]; rfl⟩⟩
theorem moves_no (A : Option Addr) (n wc : Nat) (women : List Wom) (S : Option Addr) (pn pc : Nat) (pieces : List Pce) (wrong : Int) (w : World) (hW : IsWoms w (.slice A n wc) women) (hwl : women.length = n) (hP : IsPces w (.slice S pn pc) pieces) (hpl : pieces.length = pn) (hn : n ≤ 1000) (hpn : pn ≤ 1000) (h : askedE women pieces wrong ≠ 0) :
    Calls Tryz.prog 50 #[.agg #[.slice A n wc, .slice S pn pc, .int .i64 wrong]] w fun e w' => e = .returned (.tuple #[.slice none 0 0, .int .i64 (askedE women pieces wrong)]) ∧ Ext w w' :=
  (moves_c A n wc women S pn pc pieces wrong w hW hwl hP hpl hn hpn).mono fun e w' h' => by
    obtain ⟨hE, ⟨_, he⟩ | ⟨h0, _⟩⟩ := h'
    · exact ⟨he, hE⟩
    · exact absurd h0 h
theorem moves_yes (A : Option Addr) (n wc : Nat) (women : List Wom) (S : Option Addr) (pn pc : Nat) (pieces : List Pce) (wrong : Int) (w : World) (hW : IsWoms w (.slice A n wc) women) (hwl : women.length = n) (hP : IsPces w (.slice S pn pc) pieces) (hpl : pieces.length = pn) (hn : n ≤ 1000) (hpn : pn ≤ 1000) (h : askedE women pieces wrong = 0) :
    Calls Tryz.prog 50 #[.agg #[.slice A n wc, .slice S pn pc, .int .i64 wrong]] w fun e w' => ∃ M mc, e = .returned (.tuple #[.slice M (movesF women pieces wrong).length mc, .int .i64 0]) ∧ IsMovs w' (.slice M (movesF women pieces wrong).length mc) (movesF women pieces wrong) ∧ Ext w w' :=
  (moves_c A n wc women S pn pc pieces wrong w hW hwl hP hpl hn hpn).mono fun e w' h' => by
    obtain ⟨hE, ⟨h0, _⟩ | ⟨_, v, he, hv⟩⟩ := h'
    · exact absurd h h0
    · obtain ⟨M, mc, rfl⟩ := hv.val
      exact ⟨M, mc, he, hv, hE⟩
end Go.Proofs.YtlcakmbejjlmeaaGreat
/- The contract of errand's 'CheckErrand'. -/
set_option linter.unusedVariables false
set_option linter.unusedSimpArgs false
namespace Go.Proofs.YtlcakmbejjlmeaaGreat
open Go.RowKit

/-- An errand's four lists lie in memory. -/
structure ErrAt (w : World) (A : Option Addr) (n wc : Nat) (S : Option Addr) (pn pc : Nat) (H : Option Addr) (hn hc : Nat) (T : Option Addr) (sn sc : Nat) (women : List Wom) (pieces : List Pce) (home streets : List Rng) : Prop where
  W : IsWoms w (.slice A n wc) women
  wl : women.length = n
  P : IsPces w (.slice S pn pc) pieces
  pl : pieces.length = pn
  H : IsRngs w (.slice H hn hc) home
  hl : home.length = hn
  T : IsRngs w (.slice T sn sc) streets
  tl : streets.length = sn
  n3 : n ≤ 1000
  p3 : pn ≤ 1000
  h3 : hn ≤ 1000
  s3 : sn ≤ 1000
theorem ErrAt.ext {w w' : World} {A : Option Addr} {n wc : Nat} {S : Option Addr} {pn pc : Nat} {H : Option Addr} {hn hc : Nat} {T : Option Addr} {sn sc : Nat} {women : List Wom} {pieces : List Pce} {home streets : List Rng} (h : ErrAt w A n wc S pn pc H hn hc T sn sc women pieces home streets) (e : Ext w w') : ErrAt w' A n wc S pn pc H hn hc T sn sc women pieces home streets :=
  ⟨h.W.ext e, h.wl, h.P.ext e, h.pl, h.H.ext e, h.hl, h.T.ext e, h.tl, h.n3, h.p3, h.h3, h.s3⟩
def bndT (lim : Int) (l : List Rng) : Bool := allT (fun i => bndOk lim (rLo l i) (rHi l i)) l.length
/-- The error of an errand. -/
def errE (women : List Wom) (pieces : List Pce) (wrong : Int) (home streets : List Rng) (start calls : Int) : Int :=
  if askedE women pieces wrong ≠ 0 then askedE women pieces wrong
  else if 4 < women.length ∨ 7 < calls then 3
  else if home.length = women.length ∧ streets.length = women.length * (women.length + 1) / 2 ∧ 0 ≤ calls ∧ ((decide (0 ≤ start) && decide (start ≤ 1439)) && bndT 1439 home && bndT 60 streets) = true then 0 else 1

section
variable (A : Option Addr) (n wc : Nat) (S : Option Addr) (pn pc : Nat) (wrong : Int) (H : Option Addr) (hn hc : Nat) (T : Option Addr) (sn sc : Nat) (start calls : Int) (women : List Wom) (pieces : List Pce) (home streets : List Rng)
set_option maxHeartbeats 6400000 in
set_option maxRecDepth 100000 in
theorem checkErrand_c (w : World) (h : ErrAt w A n wc S pn pc H hn hc T sn sc women pieces home streets) :
    Calls Tryz.prog 26 #[.agg #[.slice A n wc, .slice S pn pc, .int .i64 wrong, .slice H hn hc, .slice T sn sc, .int .i64 start, .int .i64 calls]] w
      fun e w' => e = .returned (.int .i64 (errE women pieces wrong home streets start calls)) ∧ Ext w w' := by
  have KE := hid h
  clear h
  obtain ⟨ae, hae⟩ : ∃ ae, askedE women pieces wrong = ae := ⟨_, rfl⟩
  have HAE := hid hae
  clear hae
  by_cases h0 : ae = 0
  · subst h0
    have HH : True := trivial
    have hn5 : n ≤ 5 := by have := (askedE_zero HAE.out).2.2.2.2; rw [KE.out.wl] at this; exact this
    by_cases h4 : 4 < n
    · have hf : Hid (errE women pieces wrong home streets start calls = 3) := hid (by rw [errE, if_neg (by rw [HAE.out]; simp), if_pos (by rw [KE.out.wl]; exact .inl h4)])
      go_enter Tryz.func26, Tryz.ntmps26
      go_wp2_with (first
        | (go_at_call 50; refine (moves_yes A n wc women S pn pc pieces wrong _ (KE.out.W.ext (by go_grown)) KE.out.wl (KE.out.P.ext (by go_grown)) KE.out.pl KE.out.n3 KE.out.p3 HAE.out).mono ?_; rintro e w1 ⟨M, mc, rfl, _, hB1⟩; have hc1 := blk_cell (ext_blk_keep hB1 (heap_alloc_new w _)))
        | (go_at_call 74; refine (women_c _ _ _ _ _ _ _ _ _ _).mono ?_; rintro e w2 ⟨rfl, hB2⟩; have hc2 := blk_cell (ext_blk_keep hB2 (ext_blk_keep hB1 (heap_alloc_new w _))); have e2 : Ext w w2 := ext_trans (by go_grown : Ext w (w.alloc _)) (ext_trans hB1 hB2); have b2 := ext_blk_keep hB2 (ext_blk_keep hB1 (heap_alloc_new w _)); clear hc1)
        | (go_at_call 75; refine (within_c _ _ _ _).mono ?_; rintro e w3 ⟨rfl, rfl⟩; rw [HX.out])
        | (go_at_call 76; have tokH := HH; clear HH; refine (rng_all H hn hc home 1439 (fun i => bndOk 1439 (rLo home i) (rHi home i)) _ (KE.out.H.ext e2) (by have := KE.out.h3; omega) (hid fun W' _ i _ => bounds_c _ _ _ W')).mono ?_; rintro e w4 ⟨rfl, hB4⟩; have hc4 := blk_cell (ext_blk_keep hB4 b2); rw [HY.out])
        | (go_at_call 76; refine (rng_all T sn sc streets 60 (fun i => bndOk 60 (rLo streets i) (rHi streets i)) _ (KE.out.T.ext (ext_trans e2 hB4)) (by have := KE.out.s3; omega) (hid fun W' _ i _ => bounds_c _ _ _ W')).mono ?_; rintro e w5 ⟨rfl, hB5⟩; have hc5 := blk_cell (ext_blk_keep hB5 (ext_blk_keep hB4 b2)); rw [HZ.out]))
      go_ret
      exact ⟨ret_int hf.out.symm, e2⟩
    by_cases h7 : 7 < calls
    · have hf : Hid (errE women pieces wrong home streets start calls = 3) := hid (by rw [errE, if_neg (by rw [HAE.out]; simp), if_pos (.inr h7)])
      go_enter Tryz.func26, Tryz.ntmps26
      go_wp2_with (first
        | (go_at_call 50; refine (moves_yes A n wc women S pn pc pieces wrong _ (KE.out.W.ext (by go_grown)) KE.out.wl (KE.out.P.ext (by go_grown)) KE.out.pl KE.out.n3 KE.out.p3 HAE.out).mono ?_; rintro e w1 ⟨M, mc, rfl, _, hB1⟩; have hc1 := blk_cell (ext_blk_keep hB1 (heap_alloc_new w _)))
        | (go_at_call 74; refine (women_c _ _ _ _ _ _ _ _ _ _).mono ?_; rintro e w2 ⟨rfl, hB2⟩; have hc2 := blk_cell (ext_blk_keep hB2 (ext_blk_keep hB1 (heap_alloc_new w _))); have e2 : Ext w w2 := ext_trans (by go_grown : Ext w (w.alloc _)) (ext_trans hB1 hB2); have b2 := ext_blk_keep hB2 (ext_blk_keep hB1 (heap_alloc_new w _)); clear hc1)
        | (go_at_call 75; refine (within_c _ _ _ _).mono ?_; rintro e w3 ⟨rfl, rfl⟩; rw [HX.out])
        | (go_at_call 76; have tokH := HH; clear HH; refine (rng_all H hn hc home 1439 (fun i => bndOk 1439 (rLo home i) (rHi home i)) _ (KE.out.H.ext e2) (by have := KE.out.h3; omega) (hid fun W' _ i _ => bounds_c _ _ _ W')).mono ?_; rintro e w4 ⟨rfl, hB4⟩; have hc4 := blk_cell (ext_blk_keep hB4 b2); rw [HY.out])
        | (go_at_call 76; refine (rng_all T sn sc streets 60 (fun i => bndOk 60 (rLo streets i) (rHi streets i)) _ (KE.out.T.ext (ext_trans e2 hB4)) (by have := KE.out.s3; omega) (hid fun W' _ i _ => bounds_c _ _ _ W')).mono ?_; rintro e w5 ⟨rfl, hB5⟩; have hc5 := blk_cell (ext_blk_keep hB5 (ext_blk_keep hB4 b2)); rw [HZ.out]))
      go_ret
      exact ⟨ret_int hf.out.symm, e2⟩
    obtain ⟨x, hx⟩ : ∃ x, (decide (0 ≤ start) && decide (start ≤ 1439)) = x := ⟨_, rfl⟩
    obtain ⟨y, hy⟩ : ∃ y, allT (fun i => bndOk 1439 (rLo home i) (rHi home i)) hn = y := ⟨_, rfl⟩
    obtain ⟨z, hz⟩ : ∃ z, allT (fun i => bndOk 60 (rLo streets i) (rHi streets i)) sn = z := ⟨_, rfl⟩
    have HX := hid hx
    have HY := hid hy
    have HZ := hid hz
    obtain ⟨q2, q, hq2, hqb, hqq, hq⟩ : ∃ q2 q : Nat, (n : Int) * ((n : Int) + 1) = (q2 : Int) ∧ q2 ≤ 20 ∧ (q2 : Int) / 2 = (q : Int) ∧ n * (n + 1) / 2 = q := by
      have : n = 0 ∨ n = 1 ∨ n = 2 ∨ n = 3 ∨ n = 4 := by omega
      rcases this with rfl | rfl | rfl | rfl | rfl
      · exact ⟨0, 0, by decide, by decide, by decide, by decide⟩
      · exact ⟨2, 1, by decide, by decide, by decide, by decide⟩
      · exact ⟨6, 3, by decide, by decide, by decide, by decide⟩
      · exact ⟨12, 6, by decide, by decide, by decide, by decide⟩
      · exact ⟨20, 10, by decide, by decide, by decide, by decide⟩
    have hf0 : Hid (errE women pieces wrong home streets start calls = if hn = n ∧ sn = q ∧ 0 ≤ calls ∧ (x && y && z) = true then 0 else 1) := hid (by
      rw [errE, if_neg (by rw [HAE.out]; simp), if_neg (by rw [KE.out.wl]; omega), bndT, bndT, KE.out.wl, KE.out.hl, KE.out.tl, hx, hy, hz, hq])
    clear hx hy hz hq
    by_cases k1 : hn = n
    · have k1' : ((hn : Int) != (n : Int)) = false := by rw [bne_eq_false_iff_eq]; omega
      have K1 := hid k1
      clear k1
      by_cases k2 : sn = q
      · have k2' : ((sn : Int) != (q : Int)) = false := by rw [bne_eq_false_iff_eq]; omega
        have K2 := hid k2
        clear k2
        by_cases k3 : calls < 0
        · skip
          go_enter Tryz.func26, Tryz.ntmps26
          go_wp2_with (first
            | (go_at_call 50; refine (moves_yes A n wc women S pn pc pieces wrong _ (KE.out.W.ext (by go_grown)) KE.out.wl (KE.out.P.ext (by go_grown)) KE.out.pl KE.out.n3 KE.out.p3 HAE.out).mono ?_; rintro e w1 ⟨M, mc, rfl, _, hB1⟩; have hc1 := blk_cell (ext_blk_keep hB1 (heap_alloc_new w _)))
            | (go_at_call 74; refine (women_c _ _ _ _ _ _ _ _ _ _).mono ?_; rintro e w2 ⟨rfl, hB2⟩; have hc2 := blk_cell (ext_blk_keep hB2 (ext_blk_keep hB1 (heap_alloc_new w _))); have e2 : Ext w w2 := ext_trans (by go_grown : Ext w (w.alloc _)) (ext_trans hB1 hB2); have b2 := ext_blk_keep hB2 (ext_blk_keep hB1 (heap_alloc_new w _)); clear hc1)
            | (go_at_call 75; refine (within_c _ _ _ _).mono ?_; rintro e w3 ⟨rfl, rfl⟩; rw [HX.out])
            | (go_at_call 76; have tokH := HH; clear HH; refine (rng_all H hn hc home 1439 (fun i => bndOk 1439 (rLo home i) (rHi home i)) _ (KE.out.H.ext e2) (by have := KE.out.h3; omega) (hid fun W' _ i _ => bounds_c _ _ _ W')).mono ?_; rintro e w4 ⟨rfl, hB4⟩; have hc4 := blk_cell (ext_blk_keep hB4 b2); rw [HY.out])
            | (go_at_call 76; refine (rng_all T sn sc streets 60 (fun i => bndOk 60 (rLo streets i) (rHi streets i)) _ (KE.out.T.ext (ext_trans e2 hB4)) (by have := KE.out.s3; omega) (hid fun W' _ i _ => bounds_c _ _ _ W')).mono ?_; rintro e w5 ⟨rfl, hB5⟩; have hc5 := blk_cell (ext_blk_keep hB5 (ext_blk_keep hB4 b2)); rw [HZ.out]))
          go_ret
          exact ⟨ret_int (by rw [hf0.out, if_neg (by omega)]), e2⟩
        · cases x
          · skip
            go_enter Tryz.func26, Tryz.ntmps26
            go_wp2_with (first
              | (go_at_call 50; refine (moves_yes A n wc women S pn pc pieces wrong _ (KE.out.W.ext (by go_grown)) KE.out.wl (KE.out.P.ext (by go_grown)) KE.out.pl KE.out.n3 KE.out.p3 HAE.out).mono ?_; rintro e w1 ⟨M, mc, rfl, _, hB1⟩; have hc1 := blk_cell (ext_blk_keep hB1 (heap_alloc_new w _)))
              | (go_at_call 74; refine (women_c _ _ _ _ _ _ _ _ _ _).mono ?_; rintro e w2 ⟨rfl, hB2⟩; have hc2 := blk_cell (ext_blk_keep hB2 (ext_blk_keep hB1 (heap_alloc_new w _))); have e2 : Ext w w2 := ext_trans (by go_grown : Ext w (w.alloc _)) (ext_trans hB1 hB2); have b2 := ext_blk_keep hB2 (ext_blk_keep hB1 (heap_alloc_new w _)); clear hc1)
              | (go_at_call 75; refine (within_c _ _ _ _).mono ?_; rintro e w3 ⟨rfl, rfl⟩; rw [HX.out])
              | (go_at_call 76; have tokH := HH; clear HH; refine (rng_all H hn hc home 1439 (fun i => bndOk 1439 (rLo home i) (rHi home i)) _ (KE.out.H.ext e2) (by have := KE.out.h3; omega) (hid fun W' _ i _ => bounds_c _ _ _ W')).mono ?_; rintro e w4 ⟨rfl, hB4⟩; have hc4 := blk_cell (ext_blk_keep hB4 b2); rw [HY.out])
              | (go_at_call 76; refine (rng_all T sn sc streets 60 (fun i => bndOk 60 (rLo streets i) (rHi streets i)) _ (KE.out.T.ext (ext_trans e2 hB4)) (by have := KE.out.s3; omega) (hid fun W' _ i _ => bounds_c _ _ _ W')).mono ?_; rintro e w5 ⟨rfl, hB5⟩; have hc5 := blk_cell (ext_blk_keep hB5 (ext_blk_keep hB4 b2)); rw [HZ.out]))
            go_ret
            exact ⟨ret_int (by rw [hf0.out, if_neg (by simp)]), e2⟩
          · cases y
            · skip
              go_enter Tryz.func26, Tryz.ntmps26
              go_wp2_with (first
                | (go_at_call 50; refine (moves_yes A n wc women S pn pc pieces wrong _ (KE.out.W.ext (by go_grown)) KE.out.wl (KE.out.P.ext (by go_grown)) KE.out.pl KE.out.n3 KE.out.p3 HAE.out).mono ?_; rintro e w1 ⟨M, mc, rfl, _, hB1⟩; have hc1 := blk_cell (ext_blk_keep hB1 (heap_alloc_new w _)))
                | (go_at_call 74; refine (women_c _ _ _ _ _ _ _ _ _ _).mono ?_; rintro e w2 ⟨rfl, hB2⟩; have hc2 := blk_cell (ext_blk_keep hB2 (ext_blk_keep hB1 (heap_alloc_new w _))); have e2 : Ext w w2 := ext_trans (by go_grown : Ext w (w.alloc _)) (ext_trans hB1 hB2); have b2 := ext_blk_keep hB2 (ext_blk_keep hB1 (heap_alloc_new w _)); clear hc1)
                | (go_at_call 75; refine (within_c _ _ _ _).mono ?_; rintro e w3 ⟨rfl, rfl⟩; rw [HX.out])
                | (go_at_call 76; have tokH := HH; clear HH; refine (rng_all H hn hc home 1439 (fun i => bndOk 1439 (rLo home i) (rHi home i)) _ (KE.out.H.ext e2) (by have := KE.out.h3; omega) (hid fun W' _ i _ => bounds_c _ _ _ W')).mono ?_; rintro e w4 ⟨rfl, hB4⟩; have hc4 := blk_cell (ext_blk_keep hB4 b2); rw [HY.out])
                | (go_at_call 76; refine (rng_all T sn sc streets 60 (fun i => bndOk 60 (rLo streets i) (rHi streets i)) _ (KE.out.T.ext (ext_trans e2 hB4)) (by have := KE.out.s3; omega) (hid fun W' _ i _ => bounds_c _ _ _ W')).mono ?_; rintro e w5 ⟨rfl, hB5⟩; have hc5 := blk_cell (ext_blk_keep hB5 (ext_blk_keep hB4 b2)); rw [HZ.out]))
              go_ret
              exact ⟨ret_int (by rw [hf0.out, if_neg (by simp)]), ext_trans e2 hB4⟩
            · cases z
              · skip
                go_enter Tryz.func26, Tryz.ntmps26
                go_wp2_with (first
                  | (go_at_call 50; refine (moves_yes A n wc women S pn pc pieces wrong _ (KE.out.W.ext (by go_grown)) KE.out.wl (KE.out.P.ext (by go_grown)) KE.out.pl KE.out.n3 KE.out.p3 HAE.out).mono ?_; rintro e w1 ⟨M, mc, rfl, _, hB1⟩; have hc1 := blk_cell (ext_blk_keep hB1 (heap_alloc_new w _)))
                  | (go_at_call 74; refine (women_c _ _ _ _ _ _ _ _ _ _).mono ?_; rintro e w2 ⟨rfl, hB2⟩; have hc2 := blk_cell (ext_blk_keep hB2 (ext_blk_keep hB1 (heap_alloc_new w _))); have e2 : Ext w w2 := ext_trans (by go_grown : Ext w (w.alloc _)) (ext_trans hB1 hB2); have b2 := ext_blk_keep hB2 (ext_blk_keep hB1 (heap_alloc_new w _)); clear hc1)
                  | (go_at_call 75; refine (within_c _ _ _ _).mono ?_; rintro e w3 ⟨rfl, rfl⟩; rw [HX.out])
                  | (go_at_call 76; have tokH := HH; clear HH; refine (rng_all H hn hc home 1439 (fun i => bndOk 1439 (rLo home i) (rHi home i)) _ (KE.out.H.ext e2) (by have := KE.out.h3; omega) (hid fun W' _ i _ => bounds_c _ _ _ W')).mono ?_; rintro e w4 ⟨rfl, hB4⟩; have hc4 := blk_cell (ext_blk_keep hB4 b2); rw [HY.out])
                  | (go_at_call 76; refine (rng_all T sn sc streets 60 (fun i => bndOk 60 (rLo streets i) (rHi streets i)) _ (KE.out.T.ext (ext_trans e2 hB4)) (by have := KE.out.s3; omega) (hid fun W' _ i _ => bounds_c _ _ _ W')).mono ?_; rintro e w5 ⟨rfl, hB5⟩; have hc5 := blk_cell (ext_blk_keep hB5 (ext_blk_keep hB4 b2)); rw [HZ.out]))
                go_ret
                exact ⟨ret_int (by rw [hf0.out, if_neg (by simp)]), ext_trans e2 (ext_trans hB4 hB5)⟩
              · skip
                go_enter Tryz.func26, Tryz.ntmps26
                go_wp2_with (first
                  | (go_at_call 50; refine (moves_yes A n wc women S pn pc pieces wrong _ (KE.out.W.ext (by go_grown)) KE.out.wl (KE.out.P.ext (by go_grown)) KE.out.pl KE.out.n3 KE.out.p3 HAE.out).mono ?_; rintro e w1 ⟨M, mc, rfl, _, hB1⟩; have hc1 := blk_cell (ext_blk_keep hB1 (heap_alloc_new w _)))
                  | (go_at_call 74; refine (women_c _ _ _ _ _ _ _ _ _ _).mono ?_; rintro e w2 ⟨rfl, hB2⟩; have hc2 := blk_cell (ext_blk_keep hB2 (ext_blk_keep hB1 (heap_alloc_new w _))); have e2 : Ext w w2 := ext_trans (by go_grown : Ext w (w.alloc _)) (ext_trans hB1 hB2); have b2 := ext_blk_keep hB2 (ext_blk_keep hB1 (heap_alloc_new w _)); clear hc1)
                  | (go_at_call 75; refine (within_c _ _ _ _).mono ?_; rintro e w3 ⟨rfl, rfl⟩; rw [HX.out])
                  | (go_at_call 76; have tokH := HH; clear HH; refine (rng_all H hn hc home 1439 (fun i => bndOk 1439 (rLo home i) (rHi home i)) _ (KE.out.H.ext e2) (by have := KE.out.h3; omega) (hid fun W' _ i _ => bounds_c _ _ _ W')).mono ?_; rintro e w4 ⟨rfl, hB4⟩; have hc4 := blk_cell (ext_blk_keep hB4 b2); rw [HY.out])
                  | (go_at_call 76; refine (rng_all T sn sc streets 60 (fun i => bndOk 60 (rLo streets i) (rHi streets i)) _ (KE.out.T.ext (ext_trans e2 hB4)) (by have := KE.out.s3; omega) (hid fun W' _ i _ => bounds_c _ _ _ W')).mono ?_; rintro e w5 ⟨rfl, hB5⟩; have hc5 := blk_cell (ext_blk_keep hB5 (ext_blk_keep hB4 b2)); rw [HZ.out]))
                go_ret
                exact ⟨ret_int (by rw [hf0.out, if_pos ⟨K1.out, K2.out, by omega, rfl⟩]), ext_trans e2 (ext_trans hB4 hB5)⟩
      · have k2' : ((sn : Int) != (q : Int)) = true := by rw [bne_iff_ne]; omega
        go_enter Tryz.func26, Tryz.ntmps26
        go_wp2_with (first
          | (go_at_call 50; refine (moves_yes A n wc women S pn pc pieces wrong _ (KE.out.W.ext (by go_grown)) KE.out.wl (KE.out.P.ext (by go_grown)) KE.out.pl KE.out.n3 KE.out.p3 HAE.out).mono ?_; rintro e w1 ⟨M, mc, rfl, _, hB1⟩; have hc1 := blk_cell (ext_blk_keep hB1 (heap_alloc_new w _)))
          | (go_at_call 74; refine (women_c _ _ _ _ _ _ _ _ _ _).mono ?_; rintro e w2 ⟨rfl, hB2⟩; have hc2 := blk_cell (ext_blk_keep hB2 (ext_blk_keep hB1 (heap_alloc_new w _))); have e2 : Ext w w2 := ext_trans (by go_grown : Ext w (w.alloc _)) (ext_trans hB1 hB2); have b2 := ext_blk_keep hB2 (ext_blk_keep hB1 (heap_alloc_new w _)); clear hc1)
          | (go_at_call 75; refine (within_c _ _ _ _).mono ?_; rintro e w3 ⟨rfl, rfl⟩; rw [HX.out])
          | (go_at_call 76; have tokH := HH; clear HH; refine (rng_all H hn hc home 1439 (fun i => bndOk 1439 (rLo home i) (rHi home i)) _ (KE.out.H.ext e2) (by have := KE.out.h3; omega) (hid fun W' _ i _ => bounds_c _ _ _ W')).mono ?_; rintro e w4 ⟨rfl, hB4⟩; have hc4 := blk_cell (ext_blk_keep hB4 b2); rw [HY.out])
          | (go_at_call 76; refine (rng_all T sn sc streets 60 (fun i => bndOk 60 (rLo streets i) (rHi streets i)) _ (KE.out.T.ext (ext_trans e2 hB4)) (by have := KE.out.s3; omega) (hid fun W' _ i _ => bounds_c _ _ _ W')).mono ?_; rintro e w5 ⟨rfl, hB5⟩; have hc5 := blk_cell (ext_blk_keep hB5 (ext_blk_keep hB4 b2)); rw [HZ.out]))
        go_ret
        exact ⟨ret_int (by rw [hf0.out, if_neg (by omega)]), e2⟩
    · have k1' : ((hn : Int) != (n : Int)) = true := by rw [bne_iff_ne]; omega
      go_enter Tryz.func26, Tryz.ntmps26
      go_wp2_with (first
        | (go_at_call 50; refine (moves_yes A n wc women S pn pc pieces wrong _ (KE.out.W.ext (by go_grown)) KE.out.wl (KE.out.P.ext (by go_grown)) KE.out.pl KE.out.n3 KE.out.p3 HAE.out).mono ?_; rintro e w1 ⟨M, mc, rfl, _, hB1⟩; have hc1 := blk_cell (ext_blk_keep hB1 (heap_alloc_new w _)))
        | (go_at_call 74; refine (women_c _ _ _ _ _ _ _ _ _ _).mono ?_; rintro e w2 ⟨rfl, hB2⟩; have hc2 := blk_cell (ext_blk_keep hB2 (ext_blk_keep hB1 (heap_alloc_new w _))); have e2 : Ext w w2 := ext_trans (by go_grown : Ext w (w.alloc _)) (ext_trans hB1 hB2); have b2 := ext_blk_keep hB2 (ext_blk_keep hB1 (heap_alloc_new w _)); clear hc1)
        | (go_at_call 75; refine (within_c _ _ _ _).mono ?_; rintro e w3 ⟨rfl, rfl⟩; rw [HX.out])
        | (go_at_call 76; have tokH := HH; clear HH; refine (rng_all H hn hc home 1439 (fun i => bndOk 1439 (rLo home i) (rHi home i)) _ (KE.out.H.ext e2) (by have := KE.out.h3; omega) (hid fun W' _ i _ => bounds_c _ _ _ W')).mono ?_; rintro e w4 ⟨rfl, hB4⟩; have hc4 := blk_cell (ext_blk_keep hB4 b2); rw [HY.out])
        | (go_at_call 76; refine (rng_all T sn sc streets 60 (fun i => bndOk 60 (rLo streets i) (rHi streets i)) _ (KE.out.T.ext (ext_trans e2 hB4)) (by have := KE.out.s3; omega) (hid fun W' _ i _ => bounds_c _ _ _ W')).mono ?_; rintro e w5 ⟨rfl, hB5⟩; have hc5 := blk_cell (ext_blk_keep hB5 (ext_blk_keep hB4 b2)); rw [HZ.out]))
      go_ret
      exact ⟨ret_int (by rw [hf0.out, if_neg (by omega)]), e2⟩
  · have h0' : (ae == 0) = false := beq_eq_false_iff_ne.2 h0
    go_enter Tryz.func26, Tryz.ntmps26
    go_wp2_with (go_at_call 50; refine (moves_no A n wc women S pn pc pieces wrong _ (KE.out.W.ext (by go_grown)) KE.out.wl (KE.out.P.ext (by go_grown)) KE.out.pl KE.out.n3 KE.out.p3 (by rw [HAE.out]; exact h0)).mono ?_; rintro e w1 ⟨rfl, hB1⟩; have hc1 := blk_cell (ext_blk_keep hB1 (heap_alloc_new w _)); rw [HAE.out])
    go_ret
    exact ⟨ret_int (by rw [errE, if_pos (by rw [HAE.out]; exact h0), HAE.out]), ext_trans (by go_grown) hB1⟩
end
end Go.Proofs.YtlcakmbejjlmeaaGreat
/- The contracts of errand's 'asked', for each function that it is given; the functions themselves. -/
set_option linter.unusedVariables false
set_option linter.unusedSimpArgs false
namespace Go.Proofs.YtlcakmbejjlmeaaGreat
open Go.RowKit

theorem errE_zero {women : List Wom} {pieces : List Pce} {wrong : Int} {home streets : List Rng} {start calls : Int} (h : errE women pieces wrong home streets start calls = 0) :
    askedE women pieces wrong = 0 ∧ women.length ≤ 4 ∧ calls ≤ 7 ∧ 0 ≤ calls ∧ home.length = women.length ∧ streets.length = women.length * (women.length + 1) / 2 ∧ 0 ≤ start ∧ start ≤ 1439 ∧ bndT 1439 home = true ∧ bndT 60 streets = true := by
  rw [errE] at h
  split at h
  · rename_i h1; exact absurd h h1
  · rename_i h1
    split at h
    · simp at h
    · rename_i h2
      split at h
      · rename_i h3
        obtain ⟨a, b, c, d⟩ := h3
        simp only [Bool.and_eq_true, decide_eq_true_eq] at d
        exact ⟨by omega, by omega, by omega, c, a, b, d.1.1.1, d.1.1.2, d.1.2, d.2⟩
      · simp at h
/-- A work at an address. -/
structure WorkAt (w : World) (q : Nat) (A : Option Addr) (n wc : Nat) (S : Option Addr) (pn pc : Nat) (wrong : Int) (H : Option Addr) (hn hc : Nat) (T : Option Addr) (sn sc : Nat) (start calls : Int) (M : Option Addr) (mn mc : Nat) (moves : List Mov) : Prop where
  cells : w.heap[q]? = some (.cells #[.slice A n wc, .slice S pn pc, .int .i64 wrong, .slice H hn hc, .slice T sn sc, .int .i64 start, .int .i64 calls, .slice M mn mc] 122 (0, 0))
  movs : IsMovs w (.slice M mn mc) moves
  ml : moves.length = mn
  m7 : mn ≤ 7
theorem WorkAt.ext {w w' : World} {q : Nat} {A : Option Addr} {n wc : Nat} {S : Option Addr} {pn pc : Nat} {wrong : Int} {H : Option Addr} {hn hc : Nat} {T : Option Addr} {sn sc : Nat} {start calls : Int} {M : Option Addr} {mn mc : Nat} {moves : List Mov}
    (h : WorkAt w q A n wc S pn pc wrong H hn hc T sn sc start calls M mn mc moves) (e : Ext w w') : WorkAt w' q A n wc S pn pc wrong H hn hc T sn sc start calls M mn mc moves :=
  ⟨ext_blk_keep e h.cells, h.movs.ext e, h.ml, h.m7⟩
def wErr (ee : Int) (b : Bool) : Int := if ee ≠ 0 then ee else if b then 0 else 2

section
variable (A : Option Addr) (n wc : Nat) (S : Option Addr) (pn pc : Nat) (wrong : Int) (H : Option Addr) (hn hc : Nat) (T : Option Addr) (sn sc : Nat) (start calls : Int) (women : List Wom) (pieces : List Pce) (home streets : List Rng)
def WaskOk (w : World) (e : Ending) (w' : World) : Prop :=
  ∃ q M mn mc, e = .returned (.tuple #[.pointer (some ⟨q, 0, none⟩), .int .i64 0]) ∧ w.heap.size ≤ q ∧ (movesF women pieces wrong).length = mn ∧ WorkAt w' q A n wc S pn pc wrong H hn hc T sn sc start calls M mn mc (movesF women pieces wrong) ∧ Ext w w'
set_option maxHeartbeats 1600000 in
set_option maxRecDepth 100000 in
theorem wask_no_play (p1 p2 p3 : Addr) (b : Bool) (w : World) (h : ErrAt w A n wc S pn pc H hn hc T sn sc women pieces home streets)
    (hcall : Hid (∀ W, Ext w W → Calls Tryz.prog 67 #[.pointer (some p1), .pointer (some p2), .pointer (some p3)] W fun e w' => e = .returned (.bool b) ∧ Ext W w')) (code : Int) (hcode : Hid (wErr (errE women pieces wrong home streets start calls) b = code)) (hne : code ≠ 0) :
    Calls Tryz.prog 66 #[.agg #[.slice A n wc, .slice S pn pc, .int .i64 wrong, .slice H hn hc, .slice T sn sc, .int .i64 start, .int .i64 calls], .func (.func 67) #[] #[.pointer (some p1), .pointer (some p2), .pointer (some p3)]] w
      fun e w' => e = .returned (.tuple #[.pointer none, .int .i64 code]) ∧ Ext w w' := by
  have KE := hid h
  clear h
  obtain ⟨ee, hee⟩ : ∃ ee, errE women pieces wrong home streets start calls = ee := ⟨_, rfl⟩
  have HEE := hid hee
  clear hee
  by_cases h0 : ee = 0
  · subst h0
    have hb : b = false ∧ code = 2 := by
      have := hcode.out
      rw [HEE.out, wErr] at this
      cases b <;> simp at this <;> first | (exact absurd this.symm hne) | exact ⟨rfl, this.symm⟩
    obtain ⟨rfl, rfl⟩ := hb
    go_enter Tryz.func66, Tryz.ntmps66
    go_wp2_with (first
      | (go_at_call 26; refine (checkErrand_c A n wc S pn pc wrong H hn hc T sn sc start calls women pieces home streets _ (KE.out.ext (by go_grown))).mono ?_; rintro e w1 ⟨rfl, hB1⟩; have hc1 := blk_cell (ext_blk_keep hB1 (heap_alloc_new w _)); rw [HEE.out])
      | (go_at_call 67; refine (hcall.out _ (ext_trans (by go_grown) hB1)).mono ?_; rintro e w2 ⟨rfl, hB2⟩; have hc2 := blk_cell (ext_blk_keep hB2 (ext_blk_keep hB1 (heap_alloc_new w _)))))
    go_ret2
    exact ⟨rfl, ext_trans (by go_grown) (ext_trans hB1 hB2)⟩
  · obtain rfl : code = ee := by
      have := hcode.out
      rw [HEE.out, wErr, if_pos h0] at this
      exact this.symm
    have h0' : (code == 0) = false := beq_eq_false_iff_ne.2 h0
    go_enter Tryz.func66, Tryz.ntmps66
    go_wp2_with (first
      | (go_at_call 26; refine (checkErrand_c A n wc S pn pc wrong H hn hc T sn sc start calls women pieces home streets _ (KE.out.ext (by go_grown))).mono ?_; rintro e w1 ⟨rfl, hB1⟩; have hc1 := blk_cell (ext_blk_keep hB1 (heap_alloc_new w _)); rw [HEE.out]))
    go_ret2
    exact ⟨rfl, ext_trans (by go_grown) hB1⟩
set_option maxHeartbeats 1600000 in
set_option maxRecDepth 100000 in
theorem wask_yes_play (p1 p2 p3 : Addr) (w : World) (h : ErrAt w A n wc S pn pc H hn hc T sn sc women pieces home streets)
    (hcall : Hid (∀ W, Ext w W → Calls Tryz.prog 67 #[.pointer (some p1), .pointer (some p2), .pointer (some p3)] W fun e w' => e = .returned (.bool true) ∧ Ext W w')) (h0 : errE women pieces wrong home streets start calls = 0) :
    Calls Tryz.prog 66 #[.agg #[.slice A n wc, .slice S pn pc, .int .i64 wrong, .slice H hn hc, .slice T sn sc, .int .i64 start, .int .i64 calls], .func (.func 67) #[] #[.pointer (some p1), .pointer (some p2), .pointer (some p3)]] w
      (WaskOk A n wc S pn pc wrong H hn hc T sn sc start calls women pieces w) := by
  have KE := hid h
  have H0 := hid h0
  have HA := hid (errE_zero h0).1
  clear h h0
  obtain ⟨mn, hmn⟩ : ∃ mn, (movesF women pieces wrong).length = mn := ⟨_, rfl⟩
  have HMN := hid hmn
  clear hmn
  go_enter Tryz.func66, Tryz.ntmps66
  go_wp2_with (first
    | (go_at_call 26; refine (checkErrand_c A n wc S pn pc wrong H hn hc T sn sc start calls women pieces home streets _ (KE.out.ext (by go_grown))).mono ?_; rintro e w1 ⟨rfl, hB1⟩; have hc1 := blk_cell (ext_blk_keep hB1 (heap_alloc_new w _)); rw [H0.out])
    | (go_at_call 67; refine (hcall.out _ (ext_trans (by go_grown) hB1)).mono ?_; rintro e w2 ⟨rfl, hB2⟩; have b2 := ext_blk_keep hB2 (ext_blk_keep hB1 (heap_alloc_new w _)); have hc2 := blk_cell b2; have e2 : Ext w w2 := ext_trans (by go_grown) (ext_trans hB1 hB2))
    | (go_at_call 50; refine (moves_yes A n wc women S pn pc pieces wrong _ (KE.out.W.ext e2) KE.out.wl (KE.out.P.ext e2) KE.out.pl KE.out.n3 KE.out.p3 HA.out).mono ?_; rintro e w3 ⟨M, mc, rfl, hM, hB3⟩; rw [HMN.out] at hM; rw [HMN.out]; have HM := hid hM; have hc3 := blk_cell (ext_blk_keep hB3 b2); clear hM))
  go_ret2
  refine ⟨w3.heap.size, M, mn, mc, rfl, Nat.le_trans e2.size hB3.size, HMN.out, ⟨heap_alloc_new w3 _, HM.out.ext (by go_grown), HMN.out, ?_⟩, ext_trans (ext_trans e2 hB3) (by go_grown)⟩
  have h1 := movesF_len women pieces wrong
  have h2 := (askedE_zero HA.out).2.2.2.1
  have := HMN.out
  omega
set_option maxHeartbeats 1600000 in
set_option maxRecDepth 100000 in
theorem wask_no_comes (p1 p2 : Addr) (b : Bool) (w : World) (h : ErrAt w A n wc S pn pc H hn hc T sn sc women pieces home streets)
    (hcall : Hid (∀ W, Ext w W → Calls Tryz.prog 79 #[.pointer (some p1), .pointer (some p2)] W fun e w' => e = .returned (.bool b) ∧ Ext W w')) (code : Int) (hcode : Hid (wErr (errE women pieces wrong home streets start calls) b = code)) (hne : code ≠ 0) :
    Calls Tryz.prog 66 #[.agg #[.slice A n wc, .slice S pn pc, .int .i64 wrong, .slice H hn hc, .slice T sn sc, .int .i64 start, .int .i64 calls], .func (.func 79) #[] #[.pointer (some p1), .pointer (some p2)]] w
      fun e w' => e = .returned (.tuple #[.pointer none, .int .i64 code]) ∧ Ext w w' := by
  have KE := hid h
  clear h
  obtain ⟨ee, hee⟩ : ∃ ee, errE women pieces wrong home streets start calls = ee := ⟨_, rfl⟩
  have HEE := hid hee
  clear hee
  by_cases h0 : ee = 0
  · subst h0
    have hb : b = false ∧ code = 2 := by
      have := hcode.out
      rw [HEE.out, wErr] at this
      cases b <;> simp at this <;> first | (exact absurd this.symm hne) | exact ⟨rfl, this.symm⟩
    obtain ⟨rfl, rfl⟩ := hb
    go_enter Tryz.func66, Tryz.ntmps66
    go_wp2_with (first
      | (go_at_call 26; refine (checkErrand_c A n wc S pn pc wrong H hn hc T sn sc start calls women pieces home streets _ (KE.out.ext (by go_grown))).mono ?_; rintro e w1 ⟨rfl, hB1⟩; have hc1 := blk_cell (ext_blk_keep hB1 (heap_alloc_new w _)); rw [HEE.out])
      | (go_at_call 79; refine (hcall.out _ (ext_trans (by go_grown) hB1)).mono ?_; rintro e w2 ⟨rfl, hB2⟩; have hc2 := blk_cell (ext_blk_keep hB2 (ext_blk_keep hB1 (heap_alloc_new w _)))))
    go_ret2
    exact ⟨rfl, ext_trans (by go_grown) (ext_trans hB1 hB2)⟩
  · obtain rfl : code = ee := by
      have := hcode.out
      rw [HEE.out, wErr, if_pos h0] at this
      exact this.symm
    have h0' : (code == 0) = false := beq_eq_false_iff_ne.2 h0
    go_enter Tryz.func66, Tryz.ntmps66
    go_wp2_with (first
      | (go_at_call 26; refine (checkErrand_c A n wc S pn pc wrong H hn hc T sn sc start calls women pieces home streets _ (KE.out.ext (by go_grown))).mono ?_; rintro e w1 ⟨rfl, hB1⟩; have hc1 := blk_cell (ext_blk_keep hB1 (heap_alloc_new w _)); rw [HEE.out]))
    go_ret2
    exact ⟨rfl, ext_trans (by go_grown) hB1⟩
set_option maxHeartbeats 1600000 in
set_option maxRecDepth 100000 in
theorem wask_yes_comes (p1 p2 : Addr) (w : World) (h : ErrAt w A n wc S pn pc H hn hc T sn sc women pieces home streets)
    (hcall : Hid (∀ W, Ext w W → Calls Tryz.prog 79 #[.pointer (some p1), .pointer (some p2)] W fun e w' => e = .returned (.bool true) ∧ Ext W w')) (h0 : errE women pieces wrong home streets start calls = 0) :
    Calls Tryz.prog 66 #[.agg #[.slice A n wc, .slice S pn pc, .int .i64 wrong, .slice H hn hc, .slice T sn sc, .int .i64 start, .int .i64 calls], .func (.func 79) #[] #[.pointer (some p1), .pointer (some p2)]] w
      (WaskOk A n wc S pn pc wrong H hn hc T sn sc start calls women pieces w) := by
  have KE := hid h
  have H0 := hid h0
  have HA := hid (errE_zero h0).1
  clear h h0
  obtain ⟨mn, hmn⟩ : ∃ mn, (movesF women pieces wrong).length = mn := ⟨_, rfl⟩
  have HMN := hid hmn
  clear hmn
  go_enter Tryz.func66, Tryz.ntmps66
  go_wp2_with (first
    | (go_at_call 26; refine (checkErrand_c A n wc S pn pc wrong H hn hc T sn sc start calls women pieces home streets _ (KE.out.ext (by go_grown))).mono ?_; rintro e w1 ⟨rfl, hB1⟩; have hc1 := blk_cell (ext_blk_keep hB1 (heap_alloc_new w _)); rw [H0.out])
    | (go_at_call 79; refine (hcall.out _ (ext_trans (by go_grown) hB1)).mono ?_; rintro e w2 ⟨rfl, hB2⟩; have b2 := ext_blk_keep hB2 (ext_blk_keep hB1 (heap_alloc_new w _)); have hc2 := blk_cell b2; have e2 : Ext w w2 := ext_trans (by go_grown) (ext_trans hB1 hB2))
    | (go_at_call 50; refine (moves_yes A n wc women S pn pc pieces wrong _ (KE.out.W.ext e2) KE.out.wl (KE.out.P.ext e2) KE.out.pl KE.out.n3 KE.out.p3 HA.out).mono ?_; rintro e w3 ⟨M, mc, rfl, hM, hB3⟩; rw [HMN.out] at hM; rw [HMN.out]; have HM := hid hM; have hc3 := blk_cell (ext_blk_keep hB3 b2); clear hM))
  go_ret2
  refine ⟨w3.heap.size, M, mn, mc, rfl, Nat.le_trans e2.size hB3.size, HMN.out, ⟨heap_alloc_new w3 _, HM.out.ext (by go_grown), HMN.out, ?_⟩, ext_trans (ext_trans e2 hB3) (by go_grown)⟩
  have h1 := movesF_len women pieces wrong
  have h2 := (askedE_zero HA.out).2.2.2.1
  have := HMN.out
  omega
set_option maxHeartbeats 1600000 in
set_option maxRecDepth 100000 in
theorem wask_no_late (p1 p2 : Addr) (b : Bool) (w : World) (h : ErrAt w A n wc S pn pc H hn hc T sn sc women pieces home streets)
    (hcall : Hid (∀ W, Ext w W → Calls Tryz.prog 82 #[.pointer (some p1), .pointer (some p2)] W fun e w' => e = .returned (.bool b) ∧ Ext W w')) (code : Int) (hcode : Hid (wErr (errE women pieces wrong home streets start calls) b = code)) (hne : code ≠ 0) :
    Calls Tryz.prog 66 #[.agg #[.slice A n wc, .slice S pn pc, .int .i64 wrong, .slice H hn hc, .slice T sn sc, .int .i64 start, .int .i64 calls], .func (.func 82) #[] #[.pointer (some p1), .pointer (some p2)]] w
      fun e w' => e = .returned (.tuple #[.pointer none, .int .i64 code]) ∧ Ext w w' := by
  have KE := hid h
  clear h
  obtain ⟨ee, hee⟩ : ∃ ee, errE women pieces wrong home streets start calls = ee := ⟨_, rfl⟩
  have HEE := hid hee
  clear hee
  by_cases h0 : ee = 0
  · subst h0
    have hb : b = false ∧ code = 2 := by
      have := hcode.out
      rw [HEE.out, wErr] at this
      cases b <;> simp at this <;> first | (exact absurd this.symm hne) | exact ⟨rfl, this.symm⟩
    obtain ⟨rfl, rfl⟩ := hb
    go_enter Tryz.func66, Tryz.ntmps66
    go_wp2_with (first
      | (go_at_call 26; refine (checkErrand_c A n wc S pn pc wrong H hn hc T sn sc start calls women pieces home streets _ (KE.out.ext (by go_grown))).mono ?_; rintro e w1 ⟨rfl, hB1⟩; have hc1 := blk_cell (ext_blk_keep hB1 (heap_alloc_new w _)); rw [HEE.out])
      | (go_at_call 82; refine (hcall.out _ (ext_trans (by go_grown) hB1)).mono ?_; rintro e w2 ⟨rfl, hB2⟩; have hc2 := blk_cell (ext_blk_keep hB2 (ext_blk_keep hB1 (heap_alloc_new w _)))))
    go_ret2
    exact ⟨rfl, ext_trans (by go_grown) (ext_trans hB1 hB2)⟩
  · obtain rfl : code = ee := by
      have := hcode.out
      rw [HEE.out, wErr, if_pos h0] at this
      exact this.symm
    have h0' : (code == 0) = false := beq_eq_false_iff_ne.2 h0
    go_enter Tryz.func66, Tryz.ntmps66
    go_wp2_with (first
      | (go_at_call 26; refine (checkErrand_c A n wc S pn pc wrong H hn hc T sn sc start calls women pieces home streets _ (KE.out.ext (by go_grown))).mono ?_; rintro e w1 ⟨rfl, hB1⟩; have hc1 := blk_cell (ext_blk_keep hB1 (heap_alloc_new w _)); rw [HEE.out]))
    go_ret2
    exact ⟨rfl, ext_trans (by go_grown) hB1⟩
set_option maxHeartbeats 1600000 in
set_option maxRecDepth 100000 in
theorem wask_yes_late (p1 p2 : Addr) (w : World) (h : ErrAt w A n wc S pn pc H hn hc T sn sc women pieces home streets)
    (hcall : Hid (∀ W, Ext w W → Calls Tryz.prog 82 #[.pointer (some p1), .pointer (some p2)] W fun e w' => e = .returned (.bool true) ∧ Ext W w')) (h0 : errE women pieces wrong home streets start calls = 0) :
    Calls Tryz.prog 66 #[.agg #[.slice A n wc, .slice S pn pc, .int .i64 wrong, .slice H hn hc, .slice T sn sc, .int .i64 start, .int .i64 calls], .func (.func 82) #[] #[.pointer (some p1), .pointer (some p2)]] w
      (WaskOk A n wc S pn pc wrong H hn hc T sn sc start calls women pieces w) := by
  have KE := hid h
  have H0 := hid h0
  have HA := hid (errE_zero h0).1
  clear h h0
  obtain ⟨mn, hmn⟩ : ∃ mn, (movesF women pieces wrong).length = mn := ⟨_, rfl⟩
  have HMN := hid hmn
  clear hmn
  go_enter Tryz.func66, Tryz.ntmps66
  go_wp2_with (first
    | (go_at_call 26; refine (checkErrand_c A n wc S pn pc wrong H hn hc T sn sc start calls women pieces home streets _ (KE.out.ext (by go_grown))).mono ?_; rintro e w1 ⟨rfl, hB1⟩; have hc1 := blk_cell (ext_blk_keep hB1 (heap_alloc_new w _)); rw [H0.out])
    | (go_at_call 82; refine (hcall.out _ (ext_trans (by go_grown) hB1)).mono ?_; rintro e w2 ⟨rfl, hB2⟩; have b2 := ext_blk_keep hB2 (ext_blk_keep hB1 (heap_alloc_new w _)); have hc2 := blk_cell b2; have e2 : Ext w w2 := ext_trans (by go_grown) (ext_trans hB1 hB2))
    | (go_at_call 50; refine (moves_yes A n wc women S pn pc pieces wrong _ (KE.out.W.ext e2) KE.out.wl (KE.out.P.ext e2) KE.out.pl KE.out.n3 KE.out.p3 HA.out).mono ?_; rintro e w3 ⟨M, mc, rfl, hM, hB3⟩; rw [HMN.out] at hM; rw [HMN.out]; have HM := hid hM; have hc3 := blk_cell (ext_blk_keep hB3 b2); clear hM))
  go_ret2
  refine ⟨w3.heap.size, M, mn, mc, rfl, Nat.le_trans e2.size hB3.size, HMN.out, ⟨heap_alloc_new w3 _, HM.out.ext (by go_grown), HMN.out, ?_⟩, ext_trans (ext_trans e2 hB3) (by go_grown)⟩
  have h1 := movesF_len women pieces wrong
  have h2 := (askedE_zero HA.out).2.2.2.1
  have := HMN.out
  omega
set_option maxHeartbeats 1600000 in
set_option maxRecDepth 100000 in
theorem wask_no_brings (p1 p2 : Addr) (b : Bool) (w : World) (h : ErrAt w A n wc S pn pc H hn hc T sn sc women pieces home streets)
    (hcall : Hid (∀ W, Ext w W → Calls Tryz.prog 84 #[.pointer (some p1), .pointer (some p2)] W fun e w' => e = .returned (.bool b) ∧ Ext W w')) (code : Int) (hcode : Hid (wErr (errE women pieces wrong home streets start calls) b = code)) (hne : code ≠ 0) :
    Calls Tryz.prog 66 #[.agg #[.slice A n wc, .slice S pn pc, .int .i64 wrong, .slice H hn hc, .slice T sn sc, .int .i64 start, .int .i64 calls], .func (.func 84) #[] #[.pointer (some p1), .pointer (some p2)]] w
      fun e w' => e = .returned (.tuple #[.pointer none, .int .i64 code]) ∧ Ext w w' := by
  have KE := hid h
  clear h
  obtain ⟨ee, hee⟩ : ∃ ee, errE women pieces wrong home streets start calls = ee := ⟨_, rfl⟩
  have HEE := hid hee
  clear hee
  by_cases h0 : ee = 0
  · subst h0
    have hb : b = false ∧ code = 2 := by
      have := hcode.out
      rw [HEE.out, wErr] at this
      cases b <;> simp at this <;> first | (exact absurd this.symm hne) | exact ⟨rfl, this.symm⟩
    obtain ⟨rfl, rfl⟩ := hb
    go_enter Tryz.func66, Tryz.ntmps66
    go_wp2_with (first
      | (go_at_call 26; refine (checkErrand_c A n wc S pn pc wrong H hn hc T sn sc start calls women pieces home streets _ (KE.out.ext (by go_grown))).mono ?_; rintro e w1 ⟨rfl, hB1⟩; have hc1 := blk_cell (ext_blk_keep hB1 (heap_alloc_new w _)); rw [HEE.out])
      | (go_at_call 84; refine (hcall.out _ (ext_trans (by go_grown) hB1)).mono ?_; rintro e w2 ⟨rfl, hB2⟩; have hc2 := blk_cell (ext_blk_keep hB2 (ext_blk_keep hB1 (heap_alloc_new w _)))))
    go_ret2
    exact ⟨rfl, ext_trans (by go_grown) (ext_trans hB1 hB2)⟩
  · obtain rfl : code = ee := by
      have := hcode.out
      rw [HEE.out, wErr, if_pos h0] at this
      exact this.symm
    have h0' : (code == 0) = false := beq_eq_false_iff_ne.2 h0
    go_enter Tryz.func66, Tryz.ntmps66
    go_wp2_with (first
      | (go_at_call 26; refine (checkErrand_c A n wc S pn pc wrong H hn hc T sn sc start calls women pieces home streets _ (KE.out.ext (by go_grown))).mono ?_; rintro e w1 ⟨rfl, hB1⟩; have hc1 := blk_cell (ext_blk_keep hB1 (heap_alloc_new w _)); rw [HEE.out]))
    go_ret2
    exact ⟨rfl, ext_trans (by go_grown) hB1⟩
set_option maxHeartbeats 1600000 in
set_option maxRecDepth 100000 in
theorem wask_yes_brings (p1 p2 : Addr) (w : World) (h : ErrAt w A n wc S pn pc H hn hc T sn sc women pieces home streets)
    (hcall : Hid (∀ W, Ext w W → Calls Tryz.prog 84 #[.pointer (some p1), .pointer (some p2)] W fun e w' => e = .returned (.bool true) ∧ Ext W w')) (h0 : errE women pieces wrong home streets start calls = 0) :
    Calls Tryz.prog 66 #[.agg #[.slice A n wc, .slice S pn pc, .int .i64 wrong, .slice H hn hc, .slice T sn sc, .int .i64 start, .int .i64 calls], .func (.func 84) #[] #[.pointer (some p1), .pointer (some p2)]] w
      (WaskOk A n wc S pn pc wrong H hn hc T sn sc start calls women pieces w) := by
  have KE := hid h
  have H0 := hid h0
  have HA := hid (errE_zero h0).1
  clear h h0
  obtain ⟨mn, hmn⟩ : ∃ mn, (movesF women pieces wrong).length = mn := ⟨_, rfl⟩
  have HMN := hid hmn
  clear hmn
  go_enter Tryz.func66, Tryz.ntmps66
  go_wp2_with (first
    | (go_at_call 26; refine (checkErrand_c A n wc S pn pc wrong H hn hc T sn sc start calls women pieces home streets _ (KE.out.ext (by go_grown))).mono ?_; rintro e w1 ⟨rfl, hB1⟩; have hc1 := blk_cell (ext_blk_keep hB1 (heap_alloc_new w _)); rw [H0.out])
    | (go_at_call 84; refine (hcall.out _ (ext_trans (by go_grown) hB1)).mono ?_; rintro e w2 ⟨rfl, hB2⟩; have b2 := ext_blk_keep hB2 (ext_blk_keep hB1 (heap_alloc_new w _)); have hc2 := blk_cell b2; have e2 : Ext w w2 := ext_trans (by go_grown) (ext_trans hB1 hB2))
    | (go_at_call 50; refine (moves_yes A n wc women S pn pc pieces wrong _ (KE.out.W.ext e2) KE.out.wl (KE.out.P.ext e2) KE.out.pl KE.out.n3 KE.out.p3 HA.out).mono ?_; rintro e w3 ⟨M, mc, rfl, hM, hB3⟩; rw [HMN.out] at hM; rw [HMN.out]; have HM := hid hM; have hc3 := blk_cell (ext_blk_keep hB3 b2); clear hM))
  go_ret2
  refine ⟨w3.heap.size, M, mn, mc, rfl, Nat.le_trans e2.size hB3.size, HMN.out, ⟨heap_alloc_new w3 _, HM.out.ext (by go_grown), HMN.out, ?_⟩, ext_trans (ext_trans e2 hB3) (by go_grown)⟩
  have h1 := movesF_len women pieces wrong
  have h2 := (askedE_zero HA.out).2.2.2.1
  have := HMN.out
  omega
set_option maxHeartbeats 1600000 in
set_option maxRecDepth 100000 in
theorem wask_no_prove (p1 p2 : Addr) (b : Bool) (w : World) (h : ErrAt w A n wc S pn pc H hn hc T sn sc women pieces home streets)
    (hcall : Hid (∀ W, Ext w W → Calls Tryz.prog 102 #[.pointer (some p1), .pointer (some p2)] W fun e w' => e = .returned (.bool b) ∧ Ext W w')) (code : Int) (hcode : Hid (wErr (errE women pieces wrong home streets start calls) b = code)) (hne : code ≠ 0) :
    Calls Tryz.prog 66 #[.agg #[.slice A n wc, .slice S pn pc, .int .i64 wrong, .slice H hn hc, .slice T sn sc, .int .i64 start, .int .i64 calls], .func (.func 102) #[] #[.pointer (some p1), .pointer (some p2)]] w
      fun e w' => e = .returned (.tuple #[.pointer none, .int .i64 code]) ∧ Ext w w' := by
  have KE := hid h
  clear h
  obtain ⟨ee, hee⟩ : ∃ ee, errE women pieces wrong home streets start calls = ee := ⟨_, rfl⟩
  have HEE := hid hee
  clear hee
  by_cases h0 : ee = 0
  · subst h0
    have hb : b = false ∧ code = 2 := by
      have := hcode.out
      rw [HEE.out, wErr] at this
      cases b <;> simp at this <;> first | (exact absurd this.symm hne) | exact ⟨rfl, this.symm⟩
    obtain ⟨rfl, rfl⟩ := hb
    go_enter Tryz.func66, Tryz.ntmps66
    go_wp2_with (first
      | (go_at_call 26; refine (checkErrand_c A n wc S pn pc wrong H hn hc T sn sc start calls women pieces home streets _ (KE.out.ext (by go_grown))).mono ?_; rintro e w1 ⟨rfl, hB1⟩; have hc1 := blk_cell (ext_blk_keep hB1 (heap_alloc_new w _)); rw [HEE.out])
      | (go_at_call 102; refine (hcall.out _ (ext_trans (by go_grown) hB1)).mono ?_; rintro e w2 ⟨rfl, hB2⟩; have hc2 := blk_cell (ext_blk_keep hB2 (ext_blk_keep hB1 (heap_alloc_new w _)))))
    go_ret2
    exact ⟨rfl, ext_trans (by go_grown) (ext_trans hB1 hB2)⟩
  · obtain rfl : code = ee := by
      have := hcode.out
      rw [HEE.out, wErr, if_pos h0] at this
      exact this.symm
    have h0' : (code == 0) = false := beq_eq_false_iff_ne.2 h0
    go_enter Tryz.func66, Tryz.ntmps66
    go_wp2_with (first
      | (go_at_call 26; refine (checkErrand_c A n wc S pn pc wrong H hn hc T sn sc start calls women pieces home streets _ (KE.out.ext (by go_grown))).mono ?_; rintro e w1 ⟨rfl, hB1⟩; have hc1 := blk_cell (ext_blk_keep hB1 (heap_alloc_new w _)); rw [HEE.out]))
    go_ret2
    exact ⟨rfl, ext_trans (by go_grown) hB1⟩
set_option maxHeartbeats 1600000 in
set_option maxRecDepth 100000 in
theorem wask_yes_prove (p1 p2 : Addr) (w : World) (h : ErrAt w A n wc S pn pc H hn hc T sn sc women pieces home streets)
    (hcall : Hid (∀ W, Ext w W → Calls Tryz.prog 102 #[.pointer (some p1), .pointer (some p2)] W fun e w' => e = .returned (.bool true) ∧ Ext W w')) (h0 : errE women pieces wrong home streets start calls = 0) :
    Calls Tryz.prog 66 #[.agg #[.slice A n wc, .slice S pn pc, .int .i64 wrong, .slice H hn hc, .slice T sn sc, .int .i64 start, .int .i64 calls], .func (.func 102) #[] #[.pointer (some p1), .pointer (some p2)]] w
      (WaskOk A n wc S pn pc wrong H hn hc T sn sc start calls women pieces w) := by
  have KE := hid h
  have H0 := hid h0
  have HA := hid (errE_zero h0).1
  clear h h0
  obtain ⟨mn, hmn⟩ : ∃ mn, (movesF women pieces wrong).length = mn := ⟨_, rfl⟩
  have HMN := hid hmn
  clear hmn
  go_enter Tryz.func66, Tryz.ntmps66
  go_wp2_with (first
    | (go_at_call 26; refine (checkErrand_c A n wc S pn pc wrong H hn hc T sn sc start calls women pieces home streets _ (KE.out.ext (by go_grown))).mono ?_; rintro e w1 ⟨rfl, hB1⟩; have hc1 := blk_cell (ext_blk_keep hB1 (heap_alloc_new w _)); rw [H0.out])
    | (go_at_call 102; refine (hcall.out _ (ext_trans (by go_grown) hB1)).mono ?_; rintro e w2 ⟨rfl, hB2⟩; have b2 := ext_blk_keep hB2 (ext_blk_keep hB1 (heap_alloc_new w _)); have hc2 := blk_cell b2; have e2 : Ext w w2 := ext_trans (by go_grown) (ext_trans hB1 hB2))
    | (go_at_call 50; refine (moves_yes A n wc women S pn pc pieces wrong _ (KE.out.W.ext e2) KE.out.wl (KE.out.P.ext e2) KE.out.pl KE.out.n3 KE.out.p3 HA.out).mono ?_; rintro e w3 ⟨M, mc, rfl, hM, hB3⟩; rw [HMN.out] at hM; rw [HMN.out]; have HM := hid hM; have hc3 := blk_cell (ext_blk_keep hB3 b2); clear hM))
  go_ret2
  refine ⟨w3.heap.size, M, mn, mc, rfl, Nat.le_trans e2.size hB3.size, HMN.out, ⟨heap_alloc_new w3 _, HM.out.ext (by go_grown), HMN.out, ?_⟩, ext_trans (ext_trans e2 hB3) (by go_grown)⟩
  have h1 := movesF_len women pieces wrong
  have h2 := (askedE_zero HA.out).2.2.2.1
  have := HMN.out
  omega
set_option maxHeartbeats 1600000 in
set_option maxRecDepth 100000 in
theorem wask_no_all  (b : Bool) (w : World) (h : ErrAt w A n wc S pn pc H hn hc T sn sc women pieces home streets)
    (hcall : Hid (∀ W, Ext w W → Calls Tryz.prog 90 #[] W fun e w' => e = .returned (.bool b) ∧ Ext W w')) (code : Int) (hcode : Hid (wErr (errE women pieces wrong home streets start calls) b = code)) (hne : code ≠ 0) :
    Calls Tryz.prog 66 #[.agg #[.slice A n wc, .slice S pn pc, .int .i64 wrong, .slice H hn hc, .slice T sn sc, .int .i64 start, .int .i64 calls], .func (.func 90) #[] #[]] w
      fun e w' => e = .returned (.tuple #[.pointer none, .int .i64 code]) ∧ Ext w w' := by
  have KE := hid h
  clear h
  obtain ⟨ee, hee⟩ : ∃ ee, errE women pieces wrong home streets start calls = ee := ⟨_, rfl⟩
  have HEE := hid hee
  clear hee
  by_cases h0 : ee = 0
  · subst h0
    have hb : b = false ∧ code = 2 := by
      have := hcode.out
      rw [HEE.out, wErr] at this
      cases b <;> simp at this <;> first | (exact absurd this.symm hne) | exact ⟨rfl, this.symm⟩
    obtain ⟨rfl, rfl⟩ := hb
    go_enter Tryz.func66, Tryz.ntmps66
    go_wp2_with (first
      | (go_at_call 26; refine (checkErrand_c A n wc S pn pc wrong H hn hc T sn sc start calls women pieces home streets _ (KE.out.ext (by go_grown))).mono ?_; rintro e w1 ⟨rfl, hB1⟩; have hc1 := blk_cell (ext_blk_keep hB1 (heap_alloc_new w _)); rw [HEE.out])
      | (go_at_call 90; refine (hcall.out _ (ext_trans (by go_grown) hB1)).mono ?_; rintro e w2 ⟨rfl, hB2⟩; have hc2 := blk_cell (ext_blk_keep hB2 (ext_blk_keep hB1 (heap_alloc_new w _)))))
    go_ret2
    exact ⟨rfl, ext_trans (by go_grown) (ext_trans hB1 hB2)⟩
  · obtain rfl : code = ee := by
      have := hcode.out
      rw [HEE.out, wErr, if_pos h0] at this
      exact this.symm
    have h0' : (code == 0) = false := beq_eq_false_iff_ne.2 h0
    go_enter Tryz.func66, Tryz.ntmps66
    go_wp2_with (first
      | (go_at_call 26; refine (checkErrand_c A n wc S pn pc wrong H hn hc T sn sc start calls women pieces home streets _ (KE.out.ext (by go_grown))).mono ?_; rintro e w1 ⟨rfl, hB1⟩; have hc1 := blk_cell (ext_blk_keep hB1 (heap_alloc_new w _)); rw [HEE.out]))
    go_ret2
    exact ⟨rfl, ext_trans (by go_grown) hB1⟩
set_option maxHeartbeats 1600000 in
set_option maxRecDepth 100000 in
theorem wask_yes_all  (w : World) (h : ErrAt w A n wc S pn pc H hn hc T sn sc women pieces home streets)
    (hcall : Hid (∀ W, Ext w W → Calls Tryz.prog 90 #[] W fun e w' => e = .returned (.bool true) ∧ Ext W w')) (h0 : errE women pieces wrong home streets start calls = 0) :
    Calls Tryz.prog 66 #[.agg #[.slice A n wc, .slice S pn pc, .int .i64 wrong, .slice H hn hc, .slice T sn sc, .int .i64 start, .int .i64 calls], .func (.func 90) #[] #[]] w
      (WaskOk A n wc S pn pc wrong H hn hc T sn sc start calls women pieces w) := by
  have KE := hid h
  have H0 := hid h0
  have HA := hid (errE_zero h0).1
  clear h h0
  obtain ⟨mn, hmn⟩ : ∃ mn, (movesF women pieces wrong).length = mn := ⟨_, rfl⟩
  have HMN := hid hmn
  clear hmn
  go_enter Tryz.func66, Tryz.ntmps66
  go_wp2_with (first
    | (go_at_call 26; refine (checkErrand_c A n wc S pn pc wrong H hn hc T sn sc start calls women pieces home streets _ (KE.out.ext (by go_grown))).mono ?_; rintro e w1 ⟨rfl, hB1⟩; have hc1 := blk_cell (ext_blk_keep hB1 (heap_alloc_new w _)); rw [H0.out])
    | (go_at_call 90; refine (hcall.out _ (ext_trans (by go_grown) hB1)).mono ?_; rintro e w2 ⟨rfl, hB2⟩; have b2 := ext_blk_keep hB2 (ext_blk_keep hB1 (heap_alloc_new w _)); have hc2 := blk_cell b2; have e2 : Ext w w2 := ext_trans (by go_grown) (ext_trans hB1 hB2))
    | (go_at_call 50; refine (moves_yes A n wc women S pn pc pieces wrong _ (KE.out.W.ext e2) KE.out.wl (KE.out.P.ext e2) KE.out.pl KE.out.n3 KE.out.p3 HA.out).mono ?_; rintro e w3 ⟨M, mc, rfl, hM, hB3⟩; rw [HMN.out] at hM; rw [HMN.out]; have HM := hid hM; have hc3 := blk_cell (ext_blk_keep hB3 b2); clear hM))
  go_ret2
  refine ⟨w3.heap.size, M, mn, mc, rfl, Nat.le_trans e2.size hB3.size, HMN.out, ⟨heap_alloc_new w3 _, HM.out.ext (by go_grown), HMN.out, ?_⟩, ext_trans (ext_trans e2 hB3) (by go_grown)⟩
  have h1 := movesF_len women pieces wrong
  have h2 := (askedE_zero HA.out).2.2.2.1
  have := HMN.out
  omega
set_option maxHeartbeats 800000 in
theorem clo_comes (B1 B2 : Nat) (wv : Value) (walk : List Int) (w : World) (hb1 : w.heap[B1]? = some (.cells #[.slice A n wc, .slice S pn pc, .int .i64 wrong, .slice H hn hc, .slice T sn sc, .int .i64 start, .int .i64 calls] 41 (0, 0))) (hb2 : w.heap[B2]? = some (.cells #[wv] 29 (0, 0))) (hn1 : n ≤ 100) (hW : IsInts w wv walk) :
    Calls Tryz.prog 79 #[.pointer (some ⟨B1, 0, none⟩), .pointer (some ⟨B2, 0, none⟩)] w fun e w' => e = .returned (.bool (isWalkF n walk)) ∧ Ext w w' := by
  obtain ⟨V, vc, rfl⟩ := hW.val
  have KW := hid hW
  have hc1 := blk_cell hb1
  have hc2 := blk_cell hb2
  clear hW hb1 hb2
  go_enter Tryz.func79, Tryz.ntmps79
  go_wp2_with (go_at_call 69; refine (walk_c n _ _ _ wrong start calls A wc hn1 _ walk _ KW.out).mono ?_; rintro e w1 ⟨rfl, hB1⟩)
  go_ret
  exact ⟨rfl, hB1⟩
set_option maxHeartbeats 800000 in
theorem clo_late (B1 B2 : Nat) (wv : Value) (walk : List Int) (w : World) (hb1 : w.heap[B1]? = some (.cells #[.slice A n wc, .slice S pn pc, .int .i64 wrong, .slice H hn hc, .slice T sn sc, .int .i64 start, .int .i64 calls] 41 (0, 0))) (hb2 : w.heap[B2]? = some (.cells #[wv] 29 (0, 0))) (hn1 : n ≤ 100) (hW : IsInts w wv walk) :
    Calls Tryz.prog 82 #[.pointer (some ⟨B1, 0, none⟩), .pointer (some ⟨B2, 0, none⟩)] w fun e w' => e = .returned (.bool (isWalkF n walk)) ∧ Ext w w' := by
  obtain ⟨V, vc, rfl⟩ := hW.val
  have KW := hid hW
  have hc1 := blk_cell hb1
  have hc2 := blk_cell hb2
  clear hW hb1 hb2
  go_enter Tryz.func82, Tryz.ntmps82
  go_wp2_with (go_at_call 69; refine (walk_c n _ _ _ wrong start calls A wc hn1 _ walk _ KW.out).mono ?_; rintro e w1 ⟨rfl, hB1⟩)
  go_ret
  exact ⟨rfl, hB1⟩
set_option maxHeartbeats 800000 in
theorem clo_brings (B1 B2 : Nat) (wv : Value) (walk : List Int) (w : World) (hb1 : w.heap[B1]? = some (.cells #[.slice A n wc, .slice S pn pc, .int .i64 wrong, .slice H hn hc, .slice T sn sc, .int .i64 start, .int .i64 calls] 41 (0, 0))) (hb2 : w.heap[B2]? = some (.cells #[wv] 29 (0, 0))) (hn1 : n ≤ 100) (hW : IsInts w wv walk) :
    Calls Tryz.prog 84 #[.pointer (some ⟨B1, 0, none⟩), .pointer (some ⟨B2, 0, none⟩)] w fun e w' => e = .returned (.bool (isWalkF n walk)) ∧ Ext w w' := by
  obtain ⟨V, vc, rfl⟩ := hW.val
  have KW := hid hW
  have hc1 := blk_cell hb1
  have hc2 := blk_cell hb2
  clear hW hb1 hb2
  go_enter Tryz.func84, Tryz.ntmps84
  go_wp2_with (go_at_call 69; refine (walk_c n _ _ _ wrong start calls A wc hn1 _ walk _ KW.out).mono ?_; rintro e w1 ⟨rfl, hB1⟩)
  go_ret
  exact ⟨rfl, hB1⟩
set_option maxHeartbeats 800000 in
theorem clo_prove (B1 B2 : Nat) (wv : Value) (walk : List Int) (w : World) (hb1 : w.heap[B1]? = some (.cells #[.slice A n wc, .slice S pn pc, .int .i64 wrong, .slice H hn hc, .slice T sn sc, .int .i64 start, .int .i64 calls] 41 (0, 0))) (hb2 : w.heap[B2]? = some (.cells #[wv] 29 (0, 0))) (hn1 : n ≤ 100) (hW : IsInts w wv walk) :
    Calls Tryz.prog 102 #[.pointer (some ⟨B1, 0, none⟩), .pointer (some ⟨B2, 0, none⟩)] w fun e w' => e = .returned (.bool (isWalkF n walk)) ∧ Ext w w' := by
  obtain ⟨V, vc, rfl⟩ := hW.val
  have KW := hid hW
  have hc1 := blk_cell hb1
  have hc2 := blk_cell hb2
  clear hW hb1 hb2
  go_enter Tryz.func102, Tryz.ntmps102
  go_wp2_with (go_at_call 69; refine (walk_c n _ _ _ wrong start calls A wc hn1 _ walk _ KW.out).mono ?_; rintro e w1 ⟨rfl, hB1⟩)
  go_ret
  exact ⟨rfl, hB1⟩
theorem always_c (w : World) : Calls Tryz.prog 90 #[] w fun e w' => e = .returned (.bool true) ∧ Ext w w' := by
  go_enter Tryz.func90, Tryz.ntmps90
  go_wp2
  go_ret
  exact ⟨rfl, ext_refl _⟩
set_option maxHeartbeats 800000 in
theorem clo_play (B1 B2 B3 : Nat) (tv wv : Value) (truth walk : List Int) (w : World) (hb1 : w.heap[B1]? = some (.cells #[.slice A n wc, .slice S pn pc, .int .i64 wrong, .slice H hn hc, .slice T sn sc, .int .i64 start, .int .i64 calls] 41 (0, 0))) (hb2 : w.heap[B2]? = some (.cells #[tv] 29 (0, 0))) (hb3 : w.heap[B3]? = some (.cells #[wv] 29 (0, 0))) (hn1 : n ≤ 100) (hW : IsInts w wv walk) (hT : IsInts w tv truth) (hS : IsRngs w (.slice T sn sc) streets) (hsl : streets.length = sn) :
    Calls Tryz.prog 67 #[.pointer (some ⟨B1, 0, none⟩), .pointer (some ⟨B2, 0, none⟩), .pointer (some ⟨B3, 0, none⟩)] w fun e w' => e = .returned (.bool (isTruthF streets truth && isWalkF n walk)) ∧ Ext w w' := by
  obtain ⟨V, vc, rfl⟩ := hW.val
  obtain ⟨U, uc, rfl⟩ := hT.val
  have KW := hid hW
  have KT := hid hT
  have KS := hid hS
  have HSL := hid hsl
  have hc1 := blk_cell hb1
  have hc2 := blk_cell hb2
  have hc3 := blk_cell hb3
  have HB1 := hid hb1
  have HB3 := hid hb3
  obtain ⟨x, hx⟩ : ∃ x, isTruthF streets truth = x := ⟨_, rfl⟩
  have HX := hid hx
  rw [hx]
  clear hW hT hS hsl hb1 hb2 hb3 hx
  cases x
  · go_enter Tryz.func67, Tryz.ntmps67
    go_wp2_with (go_at_call 68; refine (truth_c _ _ _ wrong start calls T sn sc streets _ truth _ KS.out HSL.out KT.out).mono ?_; rintro e w1 ⟨rfl, hB1⟩; rw [HX.out])
    go_ret
    exact ⟨rfl, hB1⟩
  · go_enter Tryz.func67, Tryz.ntmps67
    go_wp2_with (first
      | (go_at_call 68; refine (truth_c _ _ _ wrong start calls T sn sc streets _ truth _ KS.out HSL.out KT.out).mono ?_; rintro e w1 ⟨rfl, hB1⟩; rw [HX.out]; clear hc1 hc2 hc3; have hc1' := blk_cell (ext_blk_keep hB1 HB1.out); have hc3' := blk_cell (ext_blk_keep hB1 HB3.out))
      | (go_at_call 69; refine (walk_c n _ _ _ wrong start calls A wc hn1 _ walk _ (KW.out.ext hB1)).mono ?_; rintro e w2 ⟨rfl, hB2⟩))
    go_ret
    exact ⟨by simp, ext_trans hB1 hB2⟩
end
end Go.Proofs.YtlcakmbejjlmeaaGreat
/- The contracts of errand's Play, Late, ProveWalk. -/
set_option linter.unusedVariables false
set_option linter.unusedSimpArgs false
namespace Go.Proofs.YtlcakmbejjlmeaaGreat
open Go.RowKit

theorem bndT_at {lim : Int} {l : List Rng} (h : bndT lim l = true) : ∀ i, i < l.length → 0 ≤ rLo l i ∧ rLo l i ≤ rHi l i ∧ rHi l i ≤ lim := fun i hi => by
  have := (allT_iff _ _).1 h i hi
  simp only [bndOk, Bool.and_eq_true, decide_eq_true_eq] at this
  exact ⟨this.1.1, this.1.2, this.2⟩
theorem errOk_of {w : World} {A : Option Addr} {n wc : Nat} {S : Option Addr} {pn pc : Nat} {wrong : Int} {H : Option Addr} {hn hc : Nat} {T : Option Addr} {sn sc : Nat} {start calls : Int} {women : List Wom} {pieces : List Pce} {home streets : List Rng}
    (h : ErrAt w A n wc S pn pc H hn hc T sn sc women pieces home streets) (h0 : errE women pieces wrong home streets start calls = 0) : hn = n ∧ ErrOk w n H hc T sn sc home streets start := by
  obtain ⟨_, a4, _, _, ahl, asl, as0, as1, ab, bb⟩ := errE_zero h0
  have h1 := h.wl
  have h2 := h.hl
  have h3 := h.tl
  obtain rfl : hn = n := by omega
  refine ⟨rfl, ⟨by omega, h.H, h2, h.T, h3, ?_, fun i hi => ?_, fun j hj => ?_, as0, as1⟩⟩
  · rw [← h3, asl]
    have : women.length = 0 ∨ women.length = 1 ∨ women.length = 2 ∨ women.length = 3 ∨ women.length = 4 := by omega
    rcases this with h | h | h | h | h <;> rw [h] <;> decide
  · have := bndT_at ab i (by omega); omega
  · exact bndT_at bb j (by omega)
theorem truth_mins {streets : List Rng} {truth : List Int} (h : isTruthF streets truth = true) (hb : ∀ j, j < streets.length → 0 ≤ rLo streets j ∧ rLo streets j ≤ rHi streets j ∧ rHi streets j ≤ 60) : MinsOk (rngM (at0 truth) truth.length) := by
  obtain ⟨h1, h2⟩ := (isTruthF_iff _ _).1 h
  constructor <;>
  · intro j hj
    unfold rngM
    split
    · have := h2 j (by omega)
      have := hb j (by omega)
      omega
    · omega
def playC (women : List Wom) (pieces : List Pce) (wrong : Int) (home streets : List Rng) (start calls : Int) (truth walk : List Int) : Int := wErr (errE women pieces wrong home streets start calls) (isTruthF streets truth && isWalkF women.length walk)
def playL (women : List Wom) (pieces : List Pce) (wrong : Int) (home streets : List Rng) (start calls : Int) (truth walk : List Int) : List Int :=
  if playC women pieces wrong home streets start calls truth walk = 0 then callsL women.length (rLo home) (rngM (at0 truth) truth.length) start walk else []
/-- The error of a walk. -/
def walkC (women : List Wom) (pieces : List Pce) (wrong : Int) (home streets : List Rng) (start calls : Int) (walk : List Int) : Int := wErr (errE women pieces wrong home streets start calls) (isWalkF women.length walk)
theorem wErr_zero {ee : Int} {b : Bool} (h : wErr ee b = 0) : ee = 0 ∧ b = true := by
  unfold wErr at h
  split at h
  · rename_i h1; exact absurd h h1
  · split at h
    · rename_i h1 h2; exact ⟨by omega, h2⟩
    · simp at h
def lateC (women : List Wom) (pieces : List Pce) (wrong : Int) (home streets : List Rng) (start calls : Int) (walk : List Int) : Int :=
  if walkC women pieces wrong home streets start calls walk = 0 then (if lateF women.length home streets start walk = walk.length then 7 else 0) else walkC women pieces wrong home streets start calls walk
def lateN (women : List Wom) (pieces : List Pce) (wrong : Int) (home streets : List Rng) (start calls : Int) (walk : List Int) : Int :=
  if lateC women pieces wrong home streets start calls walk = 0 then (lateF women.length home streets start walk : Int) else 0
def proveB (women : List Wom) (pieces : List Pce) (wrong : Int) (home streets : List Rng) (start calls : Int) (walk : List Int) (many : Int) : Bool :=
  decide (walkC women pieces wrong home streets start calls walk = 0) && sureF women.length home streets start calls walk && bringsAll (movesF women pieces wrong) walk [] && decide ((walk.length : Int) ≤ many)

section
variable (A : Option Addr) (n wc : Nat) (S : Option Addr) (pn pc : Nat) (wrong : Int) (H : Option Addr) (hn hc : Nat) (T : Option Addr) (sn sc : Nat) (start calls : Int) (women : List Wom) (pieces : List Pce) (home streets : List Rng)
set_option maxHeartbeats 1600000 in
set_option maxRecDepth 100000 in
theorem play_c (hn1 : n ≤ 100) (w : World) (h : ErrAt w A n wc S pn pc H hn hc T sn sc women pieces home streets) (tv wv : Value) (truth walk : List Int) (hT : IsInts w tv truth) (hW : IsInts w wv walk) :
    Calls Tryz.prog 22 #[.agg #[.slice A n wc, .slice S pn pc, .int .i64 wrong, .slice H hn hc, .slice T sn sc, .int .i64 start, .int .i64 calls], tv, wv] w
      fun e w' => ∃ v, e = .returned (.tuple #[v, .int .i64 (playC women pieces wrong home streets start calls truth walk)]) ∧ IsInts w' v (playL women pieces wrong home streets start calls truth walk) ∧ Ext w w' := by
  have KE := hid h
  have KT := hid hT
  have KW := hid hW
  obtain ⟨U, uc, rfl⟩ := hT.val
  obtain ⟨V, vc, rfl⟩ := hW.val
  clear h hT hW
  obtain ⟨code, hcd⟩ : ∃ code, playC women pieces wrong home streets start calls truth walk = code := ⟨_, rfl⟩
  obtain ⟨L, hL⟩ : ∃ L, playL women pieces wrong home streets start calls truth walk = L := ⟨_, rfl⟩
  rw [hcd, hL]
  have HCD := hid hcd
  have HL := hid hL
  obtain ⟨b, hb⟩ : ∃ b, (isTruthF streets truth && isWalkF n walk) = b := ⟨_, rfl⟩
  have HB := hid hb
  have HCB : Hid (wErr (errE women pieces wrong home streets start calls) b = code) := hid (by rw [← hb, ← hcd, playC, KE.out.wl])
  have hcall : Hid (∀ W, Ext (((w.alloc (.cells #[.slice A n wc, .slice S pn pc, .int .i64 wrong, .slice H hn hc, .slice T sn sc, .int .i64 start, .int .i64 calls] 41)).alloc (.cells #[.slice U truth.length uc] 29)).alloc (.cells #[.slice V walk.length vc] 29)) W →
      Calls Tryz.prog 67 #[.pointer (some ⟨w.heap.size, 0, none⟩), .pointer (some ⟨w.heap.size + 1, 0, none⟩), .pointer (some ⟨w.heap.size + 1 + 1, 0, none⟩)] W fun e w' => e = .returned (.bool b) ∧ Ext W w') := hid fun W hE => by
    have e1 : Ext w W := ext_trans (by go_grown) hE
    rw [← hb]
    exact clo_play A n wc S pn pc wrong H hn hc T sn sc start calls streets w.heap.size (w.heap.size + 1) (w.heap.size + 1 + 1) _ _ truth walk W (ext_blk_keep hE (by repeat (first | exact heap_alloc_at _ _ (by simp) | refine heap_alloc_keep ?_))) (ext_blk_keep hE (heap_alloc_keep (heap_alloc_at _ _ (by simp)))) (ext_blk_keep hE (heap_alloc_at _ _ (by simp))) hn1 (KW.out.ext e1) (KT.out.ext e1) (KE.out.T.ext e1) KE.out.tl
  clear hcd hL hb
  by_cases h0 : code = 0
  · subst h0
    obtain ⟨he, hbt⟩ := wErr_zero HCB.out
    subst hbt
    obtain ⟨hnn, hok⟩ := errOk_of KE.out he
    have hnn' : n = hn := hnn.symm
    subst hnn'
    have hTW := HB.out
    rw [Bool.and_eq_true] at hTW
    have HM := hid (truth_mins hTW.1 (fun j hj => hok.st j (by rw [← KE.out.tl]; exact hj)))
    have HT10 : truth.length ≤ 10 := by rw [((isTruthF_iff _ _).1 hTW.1).1, KE.out.tl]; exact hok.s10
    have HWK := hid ((isWalkF_iff _ _).1 hTW.2)
    have KO := hid hok
    have HE := hid he
    clear hnn hok hTW he
    go_enter Tryz.func22, Tryz.ntmps22
    go_wp2_with (go_at_call 66; refine (wask_yes_play A n wc S pn pc wrong H n hc T sn sc start calls women pieces home streets _ _ _ _ (KE.out.ext (by go_grown)) hcall HE.out).mono ?_; unfold WaskOk; rintro e w1 ⟨q, M, mn, mc, rfl, _, _, _, hB1⟩)
    have e1 : Ext w w1 := ext_trans (by go_grown) hB1
    have f1 := ext_blk (ext_blk_keep hB1 (heap_alloc_keep (heap_alloc_keep (heap_alloc_new w (.cells #[.slice A n wc, .slice S pn pc, .int .i64 wrong, .slice H n hc, .slice T sn sc, .int .i64 start, .int .i64 calls] 41)))))
    have f2 := ext_blk (ext_blk_keep hB1 (heap_alloc_keep (heap_alloc_at (w.alloc (.cells #[.slice A n wc, .slice S pn pc, .int .i64 wrong, .slice H n hc, .slice T sn sc, .int .i64 start, .int .i64 calls] 41)) (.cells #[.slice U truth.length uc] 29) (k := w.heap.size + 1) (by simp))))
    have f3 := ext_blk (ext_blk_keep hB1 (heap_alloc_at ((w.alloc (.cells #[.slice A n wc, .slice S pn pc, .int .i64 wrong, .slice H n hc, .slice T sn sc, .int .i64 start, .int .i64 calls] 41)).alloc (.cells #[.slice U truth.length uc] 29)) (.cells #[.slice V walk.length vc] 29) (k := w.heap.size + 1 + 1) (by simp)))
    have e0 : Ext w1 w1 := ext_refl w1
    go_region_held3 (fun W => Ext w1 W)
      (first | exact Below.drew (by assumption) | assumption | exact ext_trans (by assumption) (by assumption))
      (first
        | (go_at_call 71; refine (listed_c _ truth _ (KT.out.ext (ext_trans e1 (by assumption))) HT10).mono ?_; rintro e w2 ⟨rfl, hB2⟩)
        | (go_at_call 70; refine (calls_e (KO.out.ext (ext_trans e1 (by assumption))) _ _ wrong calls A wc (rngM (at0 truth) truth.length) HM.out walk (KW.out.ext (ext_trans e1 (by assumption))) HWK.out).mono ?_; rintro e w3 ⟨v, rfl, hv, hB3⟩))
    all_goals go_wp2
    all_goals go_ret2
    all_goals exact ⟨_, rfl, by rw [← HL.out, playL, if_pos HCD.out, KE.out.wl]; exact hv, ext_trans e1 (by assumption)⟩
  · have h0' : (code == 0) = false := beq_eq_false_iff_ne.2 h0
    go_enter Tryz.func22, Tryz.ntmps22
    go_wp2_with (go_at_call 66; refine (wask_no_play A n wc S pn pc wrong H hn hc T sn sc start calls women pieces home streets _ _ _ b _ (KE.out.ext (by go_grown)) hcall code HCB h0).mono ?_; rintro e w1 ⟨rfl, hB1⟩)
    go_ret2
    exact ⟨_, rfl, by rw [← HL.out, playL, if_neg (by rw [HCD.out]; exact h0)]; exact IsInts.nil _ _, ext_trans (by go_grown) hB1⟩
end
end Go.Proofs.YtlcakmbejjlmeaaGreat
/- The contracts of errand's Late and ProveWalk. -/
set_option linter.unusedVariables false
set_option linter.unusedSimpArgs false
namespace Go.Proofs.YtlcakmbejjlmeaaGreat
open Go.RowKit

section
variable (A : Option Addr) (n wc : Nat) (S : Option Addr) (pn pc : Nat) (wrong : Int) (H : Option Addr) (hn hc : Nat) (T : Option Addr) (sn sc : Nat) (start calls : Int) (women : List Wom) (pieces : List Pce) (home streets : List Rng)
set_option maxHeartbeats 1600000 in
set_option maxRecDepth 100000 in
theorem lateX_c (hn1 : n ≤ 100) (w : World) (h : ErrAt w A n wc S pn pc H hn hc T sn sc women pieces home streets) (wv : Value) (walk : List Int) (hW : IsInts w wv walk) :
    Calls Tryz.prog 32 #[.agg #[.slice A n wc, .slice S pn pc, .int .i64 wrong, .slice H hn hc, .slice T sn sc, .int .i64 start, .int .i64 calls], wv] w
      fun e w' => e = .returned (.tuple #[.int .i64 (lateN women pieces wrong home streets start calls walk), .int .i64 (lateC women pieces wrong home streets start calls walk)]) ∧ Ext w w' := by
  have KE := hid h
  have KW := hid hW
  obtain ⟨V, vc, rfl⟩ := hW.val
  clear h hW
  obtain ⟨code, hcd⟩ : ∃ code, walkC women pieces wrong home streets start calls walk = code := ⟨_, rfl⟩
  have HCD := hid hcd
  obtain ⟨b, hb⟩ : ∃ b, isWalkF n walk = b := ⟨_, rfl⟩
  have HB := hid hb
  have HCB : Hid (wErr (errE women pieces wrong home streets start calls) b = code) := hid (by rw [← hb, ← hcd, walkC, KE.out.wl])
  have hcall : Hid (∀ W, Ext ((w.alloc (.cells #[.slice A n wc, .slice S pn pc, .int .i64 wrong, .slice H hn hc, .slice T sn sc, .int .i64 start, .int .i64 calls] 41)).alloc (.cells #[.slice V walk.length vc] 29)) W →
      Calls Tryz.prog 82 #[.pointer (some ⟨w.heap.size, 0, none⟩), .pointer (some ⟨w.heap.size + 1, 0, none⟩)] W fun e w' => e = .returned (.bool b) ∧ Ext W w') := hid fun W hE => by
    have e1 : Ext w W := ext_trans (by go_grown) hE
    rw [← hb]
    exact clo_late A n wc S pn pc wrong H hn hc T sn sc start calls w.heap.size (w.heap.size + 1) _ walk W (ext_blk_keep hE (by repeat (first | exact heap_alloc_at _ _ (by simp) | refine heap_alloc_keep ?_))) (ext_blk_keep hE (heap_alloc_at _ _ (by simp))) hn1 (KW.out.ext e1)
  clear hcd hb
  have HNL := hid KE.out.wl
  by_cases h0 : code = 0
  · skip
    subst h0
    obtain ⟨he, hbt⟩ := wErr_zero HCB.out
    subst hbt
    obtain ⟨hnn, hok⟩ := errOk_of KE.out he
    have hnn' : n = hn := hnn.symm
    subst hnn'
    have HWK := hid ((isWalkF_iff _ _).1 HB.out)
    have KO := hid hok
    have HE := hid he
    clear hnn hok he
    obtain ⟨l, hl⟩ : ∃ l, lateF n home streets start walk = l := ⟨_, rfl⟩
    have HLL := hid hl
    clear hl
    by_cases hd : l = walk.length
    · subst hd
      have hdd : ((walk.length : Int) == (walk.length : Int)) = true := by simp
      go_enter Tryz.func32, Tryz.ntmps32
      go_wp2_with (first
        | (go_at_call 66; refine (wask_yes_late A n wc S pn pc wrong H n hc T sn sc start calls women pieces home streets _ _ _ (KE.out.ext (by go_grown)) hcall HE.out).mono ?_; unfold WaskOk; rintro e w1 ⟨q, M, mn, mc, rfl, hq, hmn, hwork, hB1⟩; have b1 := ext_blk_keep hB1 (heap_alloc_keep (heap_alloc_new w (.cells #[.slice A n wc, .slice S pn pc, .int .i64 wrong, .slice H n hc, .slice T sn sc, .int .i64 start, .int .i64 calls] 41))); have b2 := ext_blk_keep hB1 (heap_alloc_at (w.alloc (.cells #[.slice A n wc, .slice S pn pc, .int .i64 wrong, .slice H n hc, .slice T sn sc, .int .i64 start, .int .i64 calls] 41)) (.cells #[.slice V walk.length vc] 29) (k := w.heap.size + 1) (by simp)); have hc1 := blk_cell b1; have hc2 := blk_cell b2; have e1 : Ext w w1 := ext_trans (by go_grown) hB1; have HMN := hid hmn; have HWORK := hid hwork; have HB1 := hid b1; have HB2 := hid b2; clear hmn hwork b1 b2)
        | (go_at_call 83; refine (late_c (KO.out.ext e1) _ _ wrong calls A wc walk (KW.out.ext e1) HWK.out).mono ?_; rintro e w2 ⟨rfl, hB2⟩; rw [HLL.out]; have hc2' := blk_cell (ext_blk_keep hB2 HB2.out)))
      go_ret2
      have h1 : lateC women pieces wrong home streets start calls walk = 7 := by rw [lateC, if_pos HCD.out, HNL.out, if_pos HLL.out]
      exact ⟨by rw [lateN, h1]; rfl, ext_trans e1 hB2⟩
    · have hdd : ((l : Int) == (walk.length : Int)) = false := by rw [beq_eq_false_iff_ne]; omega
      go_enter Tryz.func32, Tryz.ntmps32
      go_wp2_with (first
        | (go_at_call 66; refine (wask_yes_late A n wc S pn pc wrong H n hc T sn sc start calls women pieces home streets _ _ _ (KE.out.ext (by go_grown)) hcall HE.out).mono ?_; unfold WaskOk; rintro e w1 ⟨q, M, mn, mc, rfl, hq, hmn, hwork, hB1⟩; have b1 := ext_blk_keep hB1 (heap_alloc_keep (heap_alloc_new w (.cells #[.slice A n wc, .slice S pn pc, .int .i64 wrong, .slice H n hc, .slice T sn sc, .int .i64 start, .int .i64 calls] 41))); have b2 := ext_blk_keep hB1 (heap_alloc_at (w.alloc (.cells #[.slice A n wc, .slice S pn pc, .int .i64 wrong, .slice H n hc, .slice T sn sc, .int .i64 start, .int .i64 calls] 41)) (.cells #[.slice V walk.length vc] 29) (k := w.heap.size + 1) (by simp)); have hc1 := blk_cell b1; have hc2 := blk_cell b2; have e1 : Ext w w1 := ext_trans (by go_grown) hB1; have HMN := hid hmn; have HWORK := hid hwork; have HB1 := hid b1; have HB2 := hid b2; clear hmn hwork b1 b2)
        | (go_at_call 83; refine (late_c (KO.out.ext e1) _ _ wrong calls A wc walk (KW.out.ext e1) HWK.out).mono ?_; rintro e w2 ⟨rfl, hB2⟩; rw [HLL.out]; have hc2' := blk_cell (ext_blk_keep hB2 HB2.out)))
      go_ret2
      have h1 : lateC women pieces wrong home streets start calls walk = 0 := by rw [lateC, if_pos HCD.out, HNL.out, HLL.out, if_neg hd]
      exact ⟨by rw [lateN, h1, if_pos rfl, HNL.out, HLL.out]; rfl, ext_trans e1 hB2⟩
  · have h0' : (code == 0) = false := beq_eq_false_iff_ne.2 h0
    go_enter Tryz.func32, Tryz.ntmps32
    go_wp2_with (go_at_call 66; refine (wask_no_late A n wc S pn pc wrong H hn hc T sn sc start calls women pieces home streets _ _ b _ (KE.out.ext (by go_grown)) hcall code HCB h0).mono ?_; rintro e w1 ⟨rfl, hB1⟩)
    go_ret2
    have h1 : lateC women pieces wrong home streets start calls walk = code := by rw [lateC, HCD.out, if_neg h0]
    exact ⟨by rw [lateN, h1, if_neg h0]; rfl, ext_trans (by go_grown) hB1⟩
set_option maxHeartbeats 3200000 in
set_option maxRecDepth 100000 in
theorem prove_c (hn1 : n ≤ 100) (w : World) (h : ErrAt w A n wc S pn pc H hn hc T sn sc women pieces home streets) (wv : Value) (walk : List Int) (hW : IsInts w wv walk) (many : Int) :
    Calls Tryz.prog 59 #[.agg #[.slice A n wc, .slice S pn pc, .int .i64 wrong, .slice H hn hc, .slice T sn sc, .int .i64 start, .int .i64 calls], wv, .int .i64 many] w
      fun e w' => e = .returned (.bool (proveB women pieces wrong home streets start calls walk many)) ∧ Ext w w' := by
  have KE := hid h
  have KW := hid hW
  obtain ⟨V, vc, rfl⟩ := hW.val
  clear h hW
  obtain ⟨code, hcd⟩ : ∃ code, walkC women pieces wrong home streets start calls walk = code := ⟨_, rfl⟩
  have HCD := hid hcd
  obtain ⟨b, hb⟩ : ∃ b, isWalkF n walk = b := ⟨_, rfl⟩
  have HB := hid hb
  have HCB : Hid (wErr (errE women pieces wrong home streets start calls) b = code) := hid (by rw [← hb, ← hcd, walkC, KE.out.wl])
  have hcall : Hid (∀ W, Ext ((w.alloc (.cells #[.slice A n wc, .slice S pn pc, .int .i64 wrong, .slice H hn hc, .slice T sn sc, .int .i64 start, .int .i64 calls] 41)).alloc (.cells #[.slice V walk.length vc] 29)) W →
      Calls Tryz.prog 102 #[.pointer (some ⟨w.heap.size, 0, none⟩), .pointer (some ⟨w.heap.size + 1, 0, none⟩)] W fun e w' => e = .returned (.bool b) ∧ Ext W w') := hid fun W hE => by
    have e1 : Ext w W := ext_trans (by go_grown) hE
    rw [← hb]
    exact clo_prove A n wc S pn pc wrong H hn hc T sn sc start calls w.heap.size (w.heap.size + 1) _ walk W (ext_blk_keep hE (by repeat (first | exact heap_alloc_at _ _ (by simp) | refine heap_alloc_keep ?_))) (ext_blk_keep hE (heap_alloc_at _ _ (by simp))) hn1 (KW.out.ext e1)
  clear hcd hb
  have HNL := hid KE.out.wl
  by_cases h0 : code = 0
  · skip
    subst h0
    obtain ⟨he, hbt⟩ := wErr_zero HCB.out
    subst hbt
    obtain ⟨hnn, hok⟩ := errOk_of KE.out he
    have hnn' : n = hn := hnn.symm
    subst hnn'
    have HWK := hid ((isWalkF_iff _ _).1 HB.out)
    have KO := hid hok
    have HE := hid he
    clear hnn hok he
    have hwl7 := HWK.out.len
    obtain ⟨s, hs⟩ : ∃ s, sureF n home streets start calls walk = s := ⟨_, rfl⟩
    obtain ⟨m, hm⟩ : ∃ m, bringsAll (movesF women pieces wrong) walk [] = m := ⟨_, rfl⟩
    have HS := hid hs
    have HM := hid hm
    have HP : Hid (proveB women pieces wrong home streets start calls walk many = (s && m && decide ((walk.length : Int) ≤ many))) := hid (by rw [proveB, decide_eq_true HCD.out, HNL.out, hs, hm]; simp)
    clear hs hm
    cases s
    · go_enter Tryz.func59, Tryz.ntmps59
      go_wp2_with (first
        | (go_at_call 66; refine (wask_yes_prove A n wc S pn pc wrong H n hc T sn sc start calls women pieces home streets _ _ _ (KE.out.ext (by go_grown)) hcall HE.out).mono ?_; unfold WaskOk; rintro e w1 ⟨q, M, mn, mc, rfl, hq, hmn, hwork, hB1⟩; have b1 := ext_blk_keep hB1 (heap_alloc_keep (heap_alloc_new w (.cells #[.slice A n wc, .slice S pn pc, .int .i64 wrong, .slice H n hc, .slice T sn sc, .int .i64 start, .int .i64 calls] 41))); have b2 := ext_blk_keep hB1 (heap_alloc_at (w.alloc (.cells #[.slice A n wc, .slice S pn pc, .int .i64 wrong, .slice H n hc, .slice T sn sc, .int .i64 start, .int .i64 calls] 41)) (.cells #[.slice V walk.length vc] 29) (k := w.heap.size + 1) (by simp)); have hc1 := blk_cell b1; have hc2 := blk_cell b2; have e1 : Ext w w1 := ext_trans (by go_grown) hB1; have HMN := hid hmn; have HWORK := hid hwork; have HB1 := hid b1; have HB2 := hid b2; clear hmn hwork b1 b2)
        | (go_at_call 93; refine (sure_c (KO.out.ext e1) _ _ wrong calls A wc walk (KW.out.ext e1) HWK.out).mono ?_; rintro e w2 ⟨rfl, hB2⟩; rw [HS.out]; have hc2' := blk_cell (ext_blk_keep hB2 HB2.out)))
      go_ret
      exact ⟨ret_bool (by rw [HP.out]; rfl), ext_trans e1 hB2⟩
    · cases m
      · go_enter Tryz.func59, Tryz.ntmps59
        go_wp2_with (first
          | (go_at_call 66; refine (wask_yes_prove A n wc S pn pc wrong H n hc T sn sc start calls women pieces home streets _ _ _ (KE.out.ext (by go_grown)) hcall HE.out).mono ?_; unfold WaskOk; rintro e w1 ⟨q, M, mn, mc, rfl, hq, hmn, hwork, hB1⟩; have b1 := ext_blk_keep hB1 (heap_alloc_keep (heap_alloc_new w (.cells #[.slice A n wc, .slice S pn pc, .int .i64 wrong, .slice H n hc, .slice T sn sc, .int .i64 start, .int .i64 calls] 41))); have b2 := ext_blk_keep hB1 (heap_alloc_at (w.alloc (.cells #[.slice A n wc, .slice S pn pc, .int .i64 wrong, .slice H n hc, .slice T sn sc, .int .i64 start, .int .i64 calls] 41)) (.cells #[.slice V walk.length vc] 29) (k := w.heap.size + 1) (by simp)); have hc1 := blk_cell b1; have hc2 := blk_cell b2; have e1 : Ext w w1 := ext_trans (by go_grown) hB1; have HMN := hid hmn; have HWORK := hid hwork; have HB1 := hid b1; have HB2 := hid b2; clear hmn hwork b1 b2)
          | (go_at_call 93; refine (sure_c (KO.out.ext e1) _ _ wrong calls A wc walk (KW.out.ext e1) HWK.out).mono ?_; rintro e w2 ⟨rfl, hB2⟩; rw [HS.out]; have hc2' := blk_cell (ext_blk_keep hB2 HB2.out))
          | (go_at_call 92; refine (missing_c q _ _ _ _ _ _ _ M mn mc (movesF women pieces wrong) _ _ walk [] _ (ext_blk_keep hB2 HWORK.out.cells) (HWORK.out.movs.ext hB2) HMN.out (by have := HWORK.out.m7; omega) (KW.out.ext (ext_trans e1 hB2)) (by omega) (IsInts.nil _ _)).mono ?_; rintro e w3 ⟨rfl, hB3⟩; rw [HM.out]; have hc3' := blk_cell (ext_blk_keep hB3 (ext_blk_keep hB2 HB2.out))))
        go_ret
        exact ⟨ret_bool (by rw [HP.out]; rfl), ext_trans e1 (ext_trans hB2 hB3)⟩
      · go_enter Tryz.func59, Tryz.ntmps59
        go_wp2_with (first
          | (go_at_call 66; refine (wask_yes_prove A n wc S pn pc wrong H n hc T sn sc start calls women pieces home streets _ _ _ (KE.out.ext (by go_grown)) hcall HE.out).mono ?_; unfold WaskOk; rintro e w1 ⟨q, M, mn, mc, rfl, hq, hmn, hwork, hB1⟩; have b1 := ext_blk_keep hB1 (heap_alloc_keep (heap_alloc_new w (.cells #[.slice A n wc, .slice S pn pc, .int .i64 wrong, .slice H n hc, .slice T sn sc, .int .i64 start, .int .i64 calls] 41))); have b2 := ext_blk_keep hB1 (heap_alloc_at (w.alloc (.cells #[.slice A n wc, .slice S pn pc, .int .i64 wrong, .slice H n hc, .slice T sn sc, .int .i64 start, .int .i64 calls] 41)) (.cells #[.slice V walk.length vc] 29) (k := w.heap.size + 1) (by simp)); have hc1 := blk_cell b1; have hc2 := blk_cell b2; have e1 : Ext w w1 := ext_trans (by go_grown) hB1; have HMN := hid hmn; have HWORK := hid hwork; have HB1 := hid b1; have HB2 := hid b2; clear hmn hwork b1 b2)
          | (go_at_call 93; refine (sure_c (KO.out.ext e1) _ _ wrong calls A wc walk (KW.out.ext e1) HWK.out).mono ?_; rintro e w2 ⟨rfl, hB2⟩; rw [HS.out]; have hc2' := blk_cell (ext_blk_keep hB2 HB2.out))
          | (go_at_call 92; refine (missing_c q _ _ _ _ _ _ _ M mn mc (movesF women pieces wrong) _ _ walk [] _ (ext_blk_keep hB2 HWORK.out.cells) (HWORK.out.movs.ext hB2) HMN.out (by have := HWORK.out.m7; omega) (KW.out.ext (ext_trans e1 hB2)) (by omega) (IsInts.nil _ _)).mono ?_; rintro e w3 ⟨rfl, hB3⟩; rw [HM.out]; have hc3' := blk_cell (ext_blk_keep hB3 (ext_blk_keep hB2 HB2.out))))
        go_ret
        exact ⟨ret_bool (by rw [HP.out]; simp), ext_trans e1 (ext_trans hB2 hB3)⟩
  · have h0' : (code == 0) = false := beq_eq_false_iff_ne.2 h0
    go_enter Tryz.func59, Tryz.ntmps59
    go_wp2_with (go_at_call 66; refine (wask_no_prove A n wc S pn pc wrong H hn hc T sn sc start calls women pieces home streets _ _ b _ (KE.out.ext (by go_grown)) hcall code HCB h0).mono ?_; rintro e w1 ⟨rfl, hB1⟩)
    go_ret
    exact ⟨ret_bool (by rw [proveB, HCD.out, decide_eq_false h0]; rfl), ext_trans (by go_grown) hB1⟩
end
end Go.Proofs.YtlcakmbejjlmeaaGreat
/- The contract of errand's Brings. -/
set_option linter.unusedVariables false
set_option linter.unusedSimpArgs false
namespace Go.Proofs.YtlcakmbejjlmeaaGreat
open Go.RowKit

/-- The pieces of the first moves that are (or are not) in a set. -/
def selM (F : Int → Bool) (moves : List Mov) (k : Nat) : List Int := ((List.range k).filter fun i => F (mPc moves i)).map (mPc moves)
theorem selM_succ (F : Int → Bool) (moves : List Mov) (k : Nat) : selM F moves (k + 1) = selM F moves k ++ if F (mPc moves k) then [mPc moves k] else [] := by
  unfold selM
  rw [List.range_succ, List.filter_append, List.map_append]
  by_cases h : F (mPc moves k) <;> simp [List.filter_cons, h]
theorem selM_len (F : Int → Bool) (moves : List Mov) (k : Nat) : (selM F moves k).length ≤ k := by
  unfold selM; rw [List.length_map]; exact Nat.le_trans (List.length_filter_le _ _) (by simp)
def bringsL (women : List Wom) (pieces : List Pce) (wrong : Int) (home streets : List Rng) (start calls : Int) (walk : List Int) : List Int :=
  if walkC women pieces wrong home streets start calls walk = 0 then selM (bringsF (movesF women pieces wrong) walk) (movesF women pieces wrong) (movesF women pieces wrong).length else []
section
variable (A : Option Addr) (n wc : Nat) (S : Option Addr) (pn pc : Nat) (wrong : Int) (H : Option Addr) (hn hc : Nat) (T : Option Addr) (sn sc : Nat) (start calls : Int) (women : List Wom) (pieces : List Pce) (home streets : List Rng)
set_option maxHeartbeats 3200000 in
set_option maxRecDepth 100000 in
theorem bringsX_c (hn1 : n ≤ 100) (w : World) (h : ErrAt w A n wc S pn pc H hn hc T sn sc women pieces home streets) (wv : Value) (walk : List Int) (hW : IsInts w wv walk) :
    Calls Tryz.prog 37 #[.agg #[.slice A n wc, .slice S pn pc, .int .i64 wrong, .slice H hn hc, .slice T sn sc, .int .i64 start, .int .i64 calls], wv] w
      fun e w' => ∃ v, e = .returned (.tuple #[v, .int .i64 (walkC women pieces wrong home streets start calls walk)]) ∧ IsInts w' v (bringsL women pieces wrong home streets start calls walk) ∧ Ext w w' := by
  have KE := hid h
  have KW := hid hW
  obtain ⟨V, vc, rfl⟩ := hW.val
  clear h hW
  obtain ⟨code, hcd⟩ : ∃ code, walkC women pieces wrong home streets start calls walk = code := ⟨_, rfl⟩
  have HCD := hid hcd
  obtain ⟨b, hb⟩ : ∃ b, isWalkF n walk = b := ⟨_, rfl⟩
  have HB := hid hb
  have HCB : Hid (wErr (errE women pieces wrong home streets start calls) b = code) := hid (by rw [← hb, ← hcd, walkC, KE.out.wl])
  have hcall : Hid (∀ W, Ext ((w.alloc (.cells #[.slice A n wc, .slice S pn pc, .int .i64 wrong, .slice H hn hc, .slice T sn sc, .int .i64 start, .int .i64 calls] 41)).alloc (.cells #[.slice V walk.length vc] 29)) W →
      Calls Tryz.prog 84 #[.pointer (some ⟨w.heap.size, 0, none⟩), .pointer (some ⟨w.heap.size + 1, 0, none⟩)] W fun e w' => e = .returned (.bool b) ∧ Ext W w') := hid fun W hE => by
    have e1 : Ext w W := ext_trans (by go_grown) hE
    rw [← hb]
    exact clo_brings A n wc S pn pc wrong H hn hc T sn sc start calls w.heap.size (w.heap.size + 1) _ walk W (ext_blk_keep hE (by repeat (first | exact heap_alloc_at _ _ (by simp) | refine heap_alloc_keep ?_))) (ext_blk_keep hE (heap_alloc_at _ _ (by simp))) hn1 (KW.out.ext e1)
  clear hcd hb
  have HNL := hid KE.out.wl
  rw [HCD.out]
  by_cases h0 : code = 0
  · skip
    subst h0
    obtain ⟨he, hbt⟩ := wErr_zero HCB.out
    subst hbt
    obtain ⟨hnn, hok⟩ := errOk_of KE.out he
    have hnn' : n = hn := hnn.symm
    subst hnn'
    have HWK := hid ((isWalkF_iff _ _).1 HB.out)
    have KO := hid hok
    have HE := hid he
    clear hnn hok he
    have hwl7 := HWK.out.len
    obtain ⟨moves, hmv⟩ : ∃ moves, movesF women pieces wrong = moves := ⟨_, rfl⟩
    obtain ⟨F, hF⟩ : ∃ F, bringsF moves walk = F := ⟨_, rfl⟩
    have HF := hid hF
    have HMV := hid hmv
    clear hF hmv
    go_enter Tryz.func37, Tryz.ntmps37
    go_wp2_with (first
      | (go_at_call 66; refine (wask_yes_brings A n wc S pn pc wrong H n hc T sn sc start calls women pieces home streets _ _ _ (KE.out.ext (by go_grown)) hcall HE.out).mono ?_; unfold WaskOk; rintro e w1 ⟨q, M, mn, mc, rfl, hq, hmn, hwork, hB1⟩; have b1 := ext_blk_keep hB1 (heap_alloc_keep (heap_alloc_new w (.cells #[.slice A n wc, .slice S pn pc, .int .i64 wrong, .slice H n hc, .slice T sn sc, .int .i64 start, .int .i64 calls] 41))); have b2 := ext_blk_keep hB1 (heap_alloc_at (w.alloc (.cells #[.slice A n wc, .slice S pn pc, .int .i64 wrong, .slice H n hc, .slice T sn sc, .int .i64 start, .int .i64 calls] 41)) (.cells #[.slice V walk.length vc] 29) (k := w.heap.size + 1) (by simp)); have hc1 := blk_cell b1; have hc2 := blk_cell b2; have e1 : Ext w w1 := ext_trans (by go_grown) hB1; have HMN := hid hmn; have HWORK := hid hwork; have HB1 := hid b1; have HB2 := hid b2; clear hmn hwork b1 b2)
      | (go_at_call 85; rw [HMV.out] at HWORK HMN; refine (brings_c q _ _ _ _ _ _ _ M mn mc moves _ walk _ HWORK.out.cells HWORK.out.movs HMN.out (by have := HWORK.out.m7; omega) (KW.out.ext e1) (by omega)).mono ?_; rintro e w2 ⟨rfl, hset, hB2⟩; rw [HF.out] at hset; have hcq := blk_cell (ext_blk_keep hB2 HWORK.out.cells); have HSET := hid hset; clear hset))
    have hm7 := HWORK.out.m7
    have HMO := hid (HWORK.out.movs.ext hB2)
    have HE2 := hid (ext_trans e1 hB2)
    clear hcq hc1 hc2
    go_loopw [8, 29] (fun out i wr => ∃ k : Nat, k ≤ mn ∧ i = .int .i64 k ∧ wr.ownsRow w2.heap.size 3 1 out (selM F moves k).length ((selM F moves k).map (Value.int .i64)) ∧ Ext w2 wr) (fun _ i _ => mn - (intOf i).toNat)
    case atStart => exact ⟨0, Nat.zero_le _, rfl, own_nil _ _ _ _, ext_refl _⟩
    case round =>
      obtain ⟨k, hk, rfl, hown, hE⟩ := hrel
      have HOW := hid hown
      by_cases hlt : k < mn
      · obtain ⟨mb, mo, rfl, hmc⟩ := HMO.out.at (by omega)
        obtain ⟨m0, m1, m2⟩ := hmc k hlt
        replace m0 := cell_ext hE m0
        replace m1 := cell_ext hE m1
        replace m2 := cell_ext hE m2
        have hs := selM_succ F moves k
        have hol := selM_len F moves k
        obtain ⟨p, hp⟩ : ∃ p, mPc moves k = p := ⟨_, rfl⟩
        obtain ⟨sr, hsr⟩ : ∃ p, mSr moves k = p := ⟨_, rfl⟩
        obtain ⟨ds, hds⟩ : ∃ p, mDs moves k = p := ⟨_, rfl⟩
        rw [hp] at m0 hs
        rw [hsr] at m1
        rw [hds] at m2
        have eA : Ext wr (wr.alloc (.cells #[.int .i64 p, .int .i64 sr, .int .i64 ds] 85)) := by go_grown
        have hlk := set_look (HSET.out.ext (ext_trans hE eA)) p
        have hsz := hE.size
        obtain ⟨O, oc, rfl⟩ := own_slice hown
        obtain ⟨l, hl⟩ : ∃ l, (selM F moves k).length = l := ⟨_, rfl⟩
        have HS := hid hs
        have HLN := hid hl
        rw [hl] at hown hol
        have HOW2 := hid hown
        clear hmc hs hp hsr hds hown HOW
        cases hT : F p
        · rw [hT] at hlk
          have HT := hid hT
          clear hT
          rw [hl]
          clear hl
          go_wp2
          go_roundw
          case rel => exact ⟨k + 1, hlt, by go_num, by rw [HS.out, HT.out]; simp only [Bool.false_eq_true, if_false, List.append_nil]; rw [HLN.out]; exact own_ext HOW2.out eA, ext_trans hE eA⟩
          case measure => simp [intOf]; omega
        · rw [hT] at hlk
          have HT := hid hT
          clear hT
          rw [hl]
          clear hl
          go_wp2_with (at_builtin; refine app_intH rfl _ _ 29 3 rfl Tryz.underlying29 info_int w2.heap.size _ l (selM F moves k) p _ rfl rfl (by simp) (own_ext HOW2.out eA) (Nat.le_trans hsz eA.size) (by omega) ?_; intro g cap w3 hown3 hB3 hg3 hlt3 hbg3)
          go_roundw
          case rel => exact ⟨k + 1, hlt, by go_num, by rw [HS.out, HT.out]; simp only [if_true, List.length_append, List.length_cons, List.length_nil, Nat.zero_add]; rw [HLN.out]; exact hown3, (Below.trans hE (Below.mono eA hsz)).trans hB3⟩
          case measure => simp [intOf]; omega
      · obtain rfl : k = mn := by omega
        clear hown
        go_wp2
        go_ret2
        refine ⟨_, rfl, ?_, ext_trans HE2.out hE⟩
        rw [bringsL, if_pos HCD.out, HMV.out, HF.out, HMN.out]
        exact own_ints HOW.out (by have := selM_len F moves k; omega)
  · have h0' : (code == 0) = false := beq_eq_false_iff_ne.2 h0
    go_enter Tryz.func37, Tryz.ntmps37
    go_wp2_with (go_at_call 66; refine (wask_no_brings A n wc S pn pc wrong H hn hc T sn sc start calls women pieces home streets _ _ b _ (KE.out.ext (by go_grown)) hcall code HCB h0).mono ?_; rintro e w1 ⟨rfl, hB1⟩)
    go_ret2
    exact ⟨_, rfl, by rw [bringsL, if_neg (by rw [HCD.out]; exact h0)]; exact IsInts.nil _ _, ext_trans (by go_grown) hB1⟩
end
end Go.Proofs.YtlcakmbejjlmeaaGreat
/- The walks are walks; leaving a function that holds several ranges over functions. -/
set_option linter.unusedVariables false
set_option linter.unusedSimpArgs false
namespace Go.Proofs.YtlcakmbejjlmeaaGreat
open Go.RowKit

structure PreWalk (n : Nat) (l : List Int) : Prop where
  lo : ∀ i, i < l.length → 0 ≤ at0 l i
  hi : ∀ i, i < l.length → at0 l i < n
  ne : ∀ i, i + 1 < l.length → at0 l (i + 1) ≠ at0 l i
theorem at0_snoc_lt {l : List Int} {x : Int} {i : Nat} (h : i < l.length) : at0 (l ++ [x]) i = at0 l i := by
  simp [at0, List.getD_eq_getElem?_getD, List.getElem?_append_left h]
theorem at0_snoc_eq (l : List Int) (x : Int) : at0 (l ++ [x]) l.length = x := by
  simp [at0, List.getD_eq_getElem?_getD]
theorem PreWalk.snoc {n : Nat} {l : List Int} (h : PreWalk n l) (w : Nat) (hw : w < n) (he : endsAt l w = false) : PreWalk n (l ++ [(w : Int)]) := by
  have hc : ∀ i, i < l.length + 1 → (i < l.length ∧ at0 (l ++ [(w : Int)]) i = at0 l i) ∨ (i = l.length ∧ at0 (l ++ [(w : Int)]) i = (w : Int)) := fun i hi => by
    rcases Nat.lt_or_ge i l.length with h1 | h1
    · exact .inl ⟨h1, at0_snoc_lt h1⟩
    · have : i = l.length := by omega
      subst this
      exact .inr ⟨rfl, at0_snoc_eq l w⟩
  constructor
  · intro i hi
    simp only [List.length_append, List.length_cons, List.length_nil] at hi
    rcases hc i (by omega) with ⟨h1, h2⟩ | ⟨h1, h2⟩
    · rw [h2]; exact h.lo i h1
    · rw [h2]; omega
  · intro i hi
    simp only [List.length_append, List.length_cons, List.length_nil] at hi
    rcases hc i (by omega) with ⟨h1, h2⟩ | ⟨h1, h2⟩
    · rw [h2]; exact h.hi i h1
    · rw [h2]; omega
  · intro i hi
    simp only [List.length_append, List.length_cons, List.length_nil] at hi
    rcases hc (i + 1) (by omega) with ⟨h1, h2⟩ | ⟨h1, h2⟩
    · rw [h2, at0_snoc_lt (by omega)]; exact h.ne i h1
    · rw [h2, at0_snoc_lt (by omega)]
      intro e
      have hl : l.length - 1 = i := by omega
      have : endsAt l w = true := by
        rw [endsAt, hl, ← e]
        simp
        omega
      rw [this] at he
      cases he
theorem walksFrom_ok (n : Nat) : ∀ (f : Nat) (l : List Int), PreWalk n l → ∀ y ∈ walksFrom n f l, PreWalk n y ∧ y.length ≤ l.length + f
  | 0, l, h, y, hy => by
    rw [walksFrom, List.mem_singleton] at hy
    subst hy
    exact ⟨h, by omega⟩
  | f + 1, l, h, y, hy => by
    rw [walksFrom] at hy
    rcases List.mem_cons.1 hy with rfl | hy
    · exact ⟨h, by omega⟩
    · obtain ⟨w, hw, hy⟩ := List.mem_flatMap.1 hy
      have hwn := List.mem_range.1 hw
      cases he : endsAt l w
      · rw [he] at hy
        simp only [Bool.false_eq_true, if_false] at hy
        obtain ⟨h1, h2⟩ := walksFrom_ok n f _ (h.snoc w hwn he) y hy
        exact ⟨h1, by simp only [List.length_append, List.length_cons, List.length_nil] at h2; omega⟩
      · rw [he] at hy
        simp at hy
theorem preWalk_nil (n : Nat) : PreWalk n [] := ⟨fun i h => absurd h (by simp), fun i h => absurd h (by simp), fun i h => absurd h (by simp)⟩
theorem walks_ok {n many : Nat} (hm : many ≤ 7) {y : List Int} (h : y ∈ walksFrom n many []) : WalkOk n y := by
  obtain ⟨h1, h2⟩ := walksFrom_ok n many [] (preWalk_nil n) y h
  exact ⟨by simp at h2; omega, h1.lo, h1.hi, h1.ne⟩

theorem ints_loop {W : World} {v : Value} {x : List Int} {L : Nat} {r : Loop} {o : Obj} (h : IsInts W v x) (hl : W.heap[L]? = some (.loop r)) : IsInts (W.putObj L o) v x := by
  obtain ⟨h0, A, c, hv, h1⟩ := h
  refine ⟨h0, A, c, hv, fun hn => ?_⟩
  obtain ⟨b, o', ha, hc⟩ := h1 hn
  refine ⟨b, o', ha, fun i hi => ?_⟩
  rw [← hc i hi]
  refine World.cell?_of_block (World.putObj_heap_other (fun e : b = L => ?_))
  subst e
  have := hc i hi
  simp [World.cell?, hl] at this

def marksOf (Bs : List Nat) : List Deferred := Bs.map fun B => { target := .collected B, args := #[] }
theorem leaves_marks {F : Fence} {n : Nat} {P : Program} {fn : Func} {tmps : Array Value} {R : Ending → World → Prop} : ∀ (Bs : List Nat) (w : World), (∀ B ∈ Bs, w.heap[B]? = some (.deferred (some []))) → Bs.Nodup →
    (∀ w', Kept (fun b => b ∈ Bs) w w' → ∃ v, (results fn tmps).run P w' = .ok v w' ∧ R (.returned v) w') → LeavesInM F n P fn tmps R (marksOf Bs) .returning w
  | [], w, _, _, hfin => by
    obtain ⟨v, h1, h2⟩ := hfin w (Kept.refl _ _)
    exact leaves_nil h1 h2
  | B :: Bs, w, hB, hnd, hfin => by
    obtain ⟨h1, h2⟩ := List.nodup_cons.1 hnd
    have hb := hB B (List.mem_cons_self ..)
    refine ⟨by simp, .inl ⟨_, _, rfl, run_takeDeferred hb, ?_⟩⟩
    have hk : Kept (fun b => b ∈ B :: Bs) w (w.putObj B (.deferred none)) := (Kept.refl _ w).putObj _ (List.mem_cons_self ..)
    refine leaves_marks Bs _ (fun C hC => ?_) h2 (fun w' hw' => hfin w' (hk.trans (hw'.mono fun b hb => List.mem_cons_of_mem _ hb)))
    rw [World.putObj_heap_other (fun e : C = B => h1 (e ▸ hC))]
    exact hB C (List.mem_cons_of_mem _ hC)
end Go.Proofs.YtlcakmbejjlmeaaGreat
