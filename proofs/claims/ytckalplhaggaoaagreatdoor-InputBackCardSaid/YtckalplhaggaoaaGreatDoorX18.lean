/- Towards InputBack: what is shown as input is read back as it was, for every entry and every text; no condition. Part 18 of 28. -/
import Derived.Test.YtckalplhaggaoaaGreatDoorX17
import Derived.Test.YtckalplhaggaoaaGreatDoorX14
set_option linter.unusedVariables false
set_option linter.unusedSimpArgs false
namespace Go.Proofs.YtckalplhaggaoaaGreatDoor
open Go.RowKit

variable {w : World} {p g cap : Nat} {fin bad : Int} {sheet : ByteArray} {ts : List (Int × Int × Str)} {q : Nat}

set_option maxHeartbeats 8000000 in
set_option maxRecDepth 100000 in
theorem parse_call_none (h : PS w p g cap fin sheet bad ts q) (nm : Str) (hnm : nm.length ≤ 200) (hq : q + 2 < ts.length) (hx : tkText ts q = nm) (hk2 : tkKind ts (q + 2) = 5) (hx2 : tkText ts (q + 2) = [41]) :
    Reads 128 #[.pointer (some ⟨p, 0, none⟩)] p (q + 3) (callN (bs nm) []) w := by
  have hfw := h.few
  have HT := Lib.hid (fun w1 (b : Bel w w1) => parse_take (h.bel b) (show q < ts.length by omega))
  have HT2 := Lib.hid (fun w1 (b : Bel (mv w p (q + 1)) w1) => parse_take (h.to b) (show q + 1 < ts.length by omega))
  have HT3 := Lib.hid (fun w1 (b : Bel (mv w p (q + 2)) w1) => parse_take (h.to b) hq)
  have HS := Lib.hid (fun w1 (b : Bel (mv w p (q + 2)) w1) => parse_sign (h.to b) 0 (by omega) (by omega) ⟨#[41]⟩)
  have e41 : (⟨#[41]⟩ : ByteArray).toList = [41] := by rw [Lib.toList_data]
  have hkc : ((0 : Nat) : Int) = 0 := rfl
  have hy : ((5 : Int) == 5 && (([41] : Str) == [41])) = true := by decide
  rw [Nat.add_zero, e41, hkc, hk2, hx2, hy] at HS
  rw [hx] at HT
  have hp := h.plt
  have hgl := h.glt
  clear h hx hk2 hx2 hy e41 hkc
  unfold Reads
  go_enter Tryz.func128, Tryz.ntmps128
  go_wp2_with (first
    | (go_at_call 63; refine (HT.out _ (by (repeat (first | exact Below.refl _ _ | with_reducible assumption | refine bel_ext ?_ _ _ | refine bel_alloc ?_ _ | refine bel_drew ?_ | refine bel_drewN ?_ _ | refine bel_set ?_ (by simp; try omega) _)))).mono ?_; rintro e' w' ⟨rfl, hb'⟩; obtain ⟨d1, o1, rfl⟩ := hb'.ext; clear hb' HT)
    | (go_at_call 63; refine (HT2.out _ (by (repeat (first | exact Below.refl _ _ | with_reducible assumption | refine bel_ext ?_ _ _ | refine bel_alloc ?_ _ | refine bel_drew ?_ | refine bel_drewN ?_ _ | refine bel_set ?_ (by simp; try omega) _ | refine bel_mv ?_ _ _ (by simp [size_setCell, size_ext, World.heap_alloc_size']; try omega) | refine bel_pset ?_ (by simp [size_setCell]; try omega) _)))).mono ?_; rintro e' w' ⟨rfl, hb'⟩; obtain ⟨d2, o2, rfl⟩ := hb'.ext; clear hb' HT2))
  have e0 : (q : Int) + 1 + 1 = ((q + 2 : Nat) : Int) := by omega
  rw [set_set, e0]
  refine wp_loop_rounds 1 ?_
  rw [rounds_succ]
  go_wp2_with (first
    | (go_at_call 88; refine (HS.out _ (by (repeat (first | exact Below.refl _ _ | with_reducible assumption | refine bel_ext ?_ _ _ | refine bel_alloc ?_ _ | refine bel_drew ?_ | refine bel_drewN ?_ _ | refine bel_set ?_ (by simp; try omega) _ | refine bel_mv ?_ _ _ (by simp [size_setCell, size_ext, World.heap_alloc_size']; try omega) | refine bel_pset ?_ (by simp [size_setCell]; try omega) _)))).mono ?_; rintro e' w' ⟨rfl, hb'⟩; obtain ⟨d3, o3, rfl⟩ := hb'.ext; clear hb' HS)
    | (go_at_call 63; refine (HT3.out _ (by (repeat (first | exact Below.refl _ _ | with_reducible assumption | refine bel_ext ?_ _ _ | refine bel_alloc ?_ _ | refine bel_drew ?_ | refine bel_drewN ?_ _ | refine bel_set ?_ (by simp; try omega) _ | refine bel_mv ?_ _ _ (by simp [size_setCell, size_ext, World.heap_alloc_size']; try omega) | refine bel_pset ?_ (by simp [size_setCell]; try omega) _)))).mono ?_; rintro e' w' ⟨rfl, hb'⟩; obtain ⟨d4, o4, rfl⟩ := hb'.ext; clear hb' HT3))
  have e1 : (q : Int) + 2 + 1 = ((q + 3 : Nat) : Int) := by omega
  rw [set_set, e1]
  refine bodyPost_ret (v := .tuple #[nodeV (callN (bs nm) []) (.slice none 0 0), .bool true]) (by unfold nodeV callN; simp [results, Tryz.results128, go_sem, GVal.zero, GCell.zero]) rfl ⟨_, rfl, NodeR.leaf (callN_ok _ _ (by rw [bs_size]; omega) (by simp)) rfl, by (repeat (first | exact Below.refl _ _ | with_reducible assumption | refine bel_ext ?_ _ _ | refine bel_alloc ?_ _ | refine bel_drew ?_ | refine bel_drewN ?_ _ | refine bel_set ?_ (by simp; try omega) _ | refine bel_mv ?_ _ _ (by simp [size_setCell, size_ext, World.heap_alloc_size']; try omega) | refine bel_pset ?_ (by simp [size_setCell]; try omega) _))⟩

set_option maxHeartbeats 4000000 in
set_option maxRecDepth 100000 in
theorem parse_word_call (h : PS w p g cap fin sheet bad ts q) (hq : q < ts.length) (hc : callB (bs (tkText ts q)) = true) (hsz1 : (tkText ts q).length ≤ 1000) (hk1 : tkKind ts (q + 1) = 5) (hx1 : tkText ts (q + 1) = [40]) (n : GNode) (q' : Nat)
    (H : ∀ w1, Bel w w1 → Reads 128 #[.pointer (some ⟨p, 0, none⟩)] p q' n w1) :
    Reads 111 #[.pointer (some ⟨p, 0, none⟩)] p q' n w := by
  have hfw := h.few
  have hrm := h.room
  obtain ⟨k', a', t', ht⟩ : ∃ k' a' t', ts[q]? = some (k', a', t') := ⟨_, _, _, List.getElem?_eq_getElem hq⟩
  have et : tkText ts q = t' := by unfold tkText; rw [ht]
  rw [et] at hc hsz1
  have HS := Lib.hid (fun w1 (b : Bel w w1) => parse_sign (h.bel b) 1 (by omega) (by omega) ⟨#[33]⟩)
  have HS' := Lib.hid (fun w1 (b : Bel w w1) => parse_sign (h.bel b) 1 (by omega) (by omega) ⟨#[40]⟩)
  have e33 : (⟨#[33]⟩ : ByteArray).toList = [33] := by rw [Lib.toList_data]
  have e40 : (⟨#[40]⟩ : ByteArray).toList = [40] := by rw [Lib.toList_data]
  have hy : ((5 : Int) == 5 && (([40] : Str) == [33])) = false := by decide
  have hy' : ((5 : Int) == 5 && (([40] : Str) == [40])) = true := by decide
  have hkc : ((1 : Nat) : Int) = 1 := rfl
  rw [e33, hk1, hx1, hkc, hy] at HS
  rw [e40, hk1, hx1, hkc, hy'] at HS'
  have HC := Lib.hid (fun w1 => tree_Call (bs t') (by rw [bs_size]; omega) w1)
  rw [hc] at HC
  have c0 := h.c0
  have c1 := h.c1
  have hp := h.plt
  have hgl := h.glt
  obtain ⟨t0, t1, t2⟩ := h.tok ht
  have hql : (q : Int) < ts.length := by omega
  have hcc : ((bs t').toList == [84, 82, 85, 69]) = false ∧ ((bs t').toList == [70, 65, 76, 83, 69]) = false := by
    unfold callB at hc
    simp only [Bool.and_eq_true, Bool.not_eq_true'] at hc
    exact ⟨hc.2.2.1, hc.2.2.2.1⟩
  obtain ⟨x1, x2⟩ := hcc
  have HO := Lib.hid H
  clear h et ht hc t0 t1 hy hy' e33 e40 hkc hk1 hx1 H
  generalize bs t' = S at *
  unfold Reads at *
  rcases hx3 : (S.toList == [82, 69, 70]) with _ | _
  all_goals
    go_enter Tryz.func111, Tryz.ntmps111
    go_wp2
    refine wp_region_bw (by kernel_rfl) (by kernel_rfl) ?_
    repeat (go_big_quiet_step (fail))
    refine wpQuiet_nil ?_
    intro _ hw'
    obtain ⟨pq, hw''⟩ := hw'
    subst hw''
    obtain ⟨d2, o2, hpq⟩ := pq.h.ext
    rw [hpq]
    clear hpq c0 c1 t2 hgl hrm
    go_wp2_with (first
      | (go_at_call 88; (with_reducible refine (HS.out _ (by (repeat (first | exact Below.refl _ _ | with_reducible assumption | refine bel_ext ?_ _ _ | refine bel_alloc ?_ _ | refine bel_drew ?_ | refine bel_drewN ?_ _ | refine bel_set ?_ (by simp; try omega) _)))).mono ?_); rintro e' w' ⟨rfl, hb'⟩; obtain ⟨d3, o3, rfl⟩ := hb'.ext; clear hb')
      | (go_at_call 88; (with_reducible refine (HS'.out _ (by (repeat (first | exact Below.refl _ _ | with_reducible assumption | refine bel_ext ?_ _ _ | refine bel_alloc ?_ _ | refine bel_drew ?_ | refine bel_drewN ?_ _ | refine bel_set ?_ (by simp; try omega) _)))).mono ?_); rintro e' w' ⟨rfl, hb'⟩; obtain ⟨d4, o4, rfl⟩ := hb'.ext; clear hb')
      | (go_at_call 95; refine (HC.out _).mono ?_; rintro e' w' ⟨rfl, rfl⟩)
      | (go_at_call 128; refine (HO.out _ (by (repeat (first | exact Below.refl _ _ | with_reducible assumption | refine bel_ext ?_ _ _ | refine bel_alloc ?_ _ | refine bel_drew ?_ | refine bel_drewN ?_ _ | refine bel_set ?_ (by simp; try omega) _)))).mono ?_; rintro e' w' ⟨v, rfl, ⟨A, c, rfl, hr⟩, hb'⟩; obtain ⟨d5, o5, rfl⟩ := hb'.ext; clear hb'; unfold nodeV))
    rw [mv_ext _ _ _ _ _ (by rw [hsz]; omega), ext_ext] at hr
    simp only [Array.append_assoc] at hr ⊢
    exact bodyPost_ret (v := .tuple #[nodeV n (.slice A n.kids.length c), .bool true]) (by unfold nodeV; simp [results, Tryz.results111, go_sem]) rfl
      ⟨_, rfl, ⟨A, c, rfl, RdN.fin hr (by simp only [hsz, size_setCell]) (by simp only [hsz, size_setCell, size_ext]; omega) (by simp only [hsz, size_setCell, size_ext]; omega)⟩, by (repeat (first | exact Below.refl _ _ | with_reducible assumption | refine bel_ext ?_ _ _ | refine bel_alloc ?_ _ | refine bel_drew ?_ | refine bel_drewN ?_ _ | refine bel_set ?_ (by simp; try omega) _ | refine bel_mv ?_ _ _ (by simp [size_setCell, size_ext, World.heap_alloc_size']; try omega) | refine bel_pset ?_ (by simp [size_setCell]; try omega) _))⟩

end Go.Proofs.YtckalplhaggaoaaGreatDoor

namespace Go.Proofs.YtckalplhaggaoaaGreatDoor

/-! ### A formula is what its kind names -/
theorem empty_of {s : ByteArray} (h : s.toList.isEmpty = true) : s = ⟨#[]⟩ := by
  apply toList_inj
  rw [List.isEmpty_iff] at h
  rw [h, Lib.toList_data]
theorem empty_of_size {s : ByteArray} (h : s.size = 0) : s = ⟨#[]⟩ := by
  apply toList_inj
  rw [toList_nil h, Lib.toList_data]
theorem nil_of {l : List GNode} (h : decide ((l.length : Int) = 0) = true) : l = [] := List.eq_nil_of_length_eq_zero (by have := of_decide_eq_true h; omega)
theorem canon {n : GNode} (h : rightR n = true) :
    (n = nodeK n.val ∧ constV n.val = true) ∨ (n = cellN n.cell ∧ rightC n.cell = true) ∨ (n = rangeN n.cell n.to ∧ smallR n.cell n.to = true) ∨
    (∃ a, n = neg1 a ∧ rightR a = true) ∨ (∃ a b, n = pair2 n.op a b ∧ isOp n.op = true ∧ rightR a = true ∧ rightR b = true) ∨
    (n = callN n.name n.kids ∧ callB n.name = true ∧ n.kids.length ≤ 20 ∧ ∀ k ∈ n.kids, rightR k = true) ∨ n = lostN := by
  obtain ⟨hF, hB, hK⟩ := right_fields h
  have hk := right_kinds hF
  obtain ⟨k, op, nm, v, c, t, kids⟩ := n
  simp only at hk hK ⊢
  unfold bareN at hB
  simp only at hB
  rcases hk with ⟨e, h1⟩ | ⟨e, h1⟩ | ⟨e, h1⟩ | ⟨e, h1, h2⟩ | ⟨e, h1, h2⟩ | ⟨e, h1, h2⟩ | e
  · subst e
    rw [if_pos rfl] at hB
    simp only [Bool.and_eq_true] at hB
    obtain ⟨b1, b2, b3, b4, b5⟩ := hB
    have := empty_of b1; have := empty_of b2; have := (eqCell_iff _ _).1 b3; have := (eqCell_iff _ _).1 b4; have := nil_of b5
    subst_vars
    exact .inl ⟨rfl, h1⟩
  · subst e
    rw [if_neg (by decide), if_pos rfl] at hB
    simp only [Bool.and_eq_true] at hB
    obtain ⟨b1, b2, b3, b4, b5⟩ := hB
    have := empty_of b1; have := empty_of b2; have := (eqVal_iff _ _).1 b3; have := (eqCell_iff _ _).1 b4; have := nil_of b5
    subst_vars
    exact .inr (.inl ⟨rfl, h1⟩)
  · subst e
    rw [if_neg (by decide), if_neg (by decide), if_pos rfl] at hB
    simp only [Bool.and_eq_true] at hB
    obtain ⟨b1, b2, b3, b5⟩ := hB
    have := empty_of b1; have := empty_of b2; have := (eqVal_iff _ _).1 b3; have := nil_of b5
    subst_vars
    exact .inr (.inr (.inl ⟨rfl, h1⟩))
  · subst e
    rw [if_neg (by decide), if_neg (by decide), if_neg (by decide), if_pos (.inl rfl)] at hB
    simp only [Bool.and_eq_true] at hB
    obtain ⟨b2, b3, b4, b5⟩ := hB
    have := empty_of b2; have := (eqVal_iff _ _).1 b3; have := (eqCell_iff _ _).1 b4; have := (eqCell_iff _ _).1 b5
    obtain ⟨x, hx⟩ : ∃ x, kids = [x] := List.length_eq_one_iff.1 h2
    have ho : op = ⟨#[45]⟩ := by apply toList_inj; rw [Lib.toList_data, h1, Lib.toList_data]
    subst_vars
    exact .inr (.inr (.inr (.inl ⟨x, rfl, hK x (by simp)⟩)))
  · subst e
    rw [if_neg (by decide), if_neg (by decide), if_neg (by decide), if_pos (.inr rfl)] at hB
    simp only [Bool.and_eq_true] at hB
    obtain ⟨b2, b3, b4, b5⟩ := hB
    have := empty_of b2; have := (eqVal_iff _ _).1 b3; have := (eqCell_iff _ _).1 b4; have := (eqCell_iff _ _).1 b5
    obtain ⟨x, y, hx⟩ : ∃ x y, kids = [x, y] := by
      match kids, h2 with
      | [x, y], _ => exact ⟨x, y, rfl⟩
    subst_vars
    exact .inr (.inr (.inr (.inr (.inl ⟨x, y, rfl, h1, hK x (by simp), hK y (by simp)⟩))))
  · subst e
    rw [if_neg (by decide), if_neg (by decide), if_neg (by decide), if_neg (by decide), if_pos rfl] at hB
    simp only [Bool.and_eq_true] at hB
    obtain ⟨b1, b3, b4, b5⟩ := hB
    have := empty_of b1; have := (eqVal_iff _ _).1 b3; have := (eqCell_iff _ _).1 b4; have := (eqCell_iff _ _).1 b5
    subst_vars
    exact .inr (.inr (.inr (.inr (.inr (.inl ⟨rfl, h1, h2, hK⟩)))))
  · subst e
    rw [if_neg (by decide), if_neg (by decide), if_neg (by decide), if_neg (by decide), if_neg (by decide), if_pos rfl] at hB
    simp only [Bool.and_eq_true] at hB
    obtain ⟨b1, b2, b3, b4, b5, b6⟩ := hB
    have := empty_of b1; have := empty_of b2; have := (eqVal_iff _ _).1 b3; have := (eqCell_iff _ _).1 b4; have := (eqCell_iff _ _).1 b5; have := nil_of b6
    subst_vars
    exact .inr (.inr (.inr (.inr (.inr (.inr rfl)))))

theorem okCell_right {c : GCell} (h : rightC c = true) : okCell c := by
  have h1 := rightC_bd h
  have h2 := rightC_size h
  exact ⟨by omega, by omega, by omega, by omega, by omega⟩
theorem okVal_const {v : GVal} (h : constV v = true) (h0 : -9223372036854775808 ≤ v.n) (h1 : v.n ≤ 9223372036854775807) : okVal v := by
  refine ⟨h0, h1, ?_⟩
  rcases const_cases h with ⟨_, _, _, hs⟩ | ⟨_, _, hs⟩ | ⟨_, _, hs, _⟩ <;> omega
theorem okTop_right {n : GNode} (h : rightR n = true) (hi : intsN n) : okTop n := by
  obtain ⟨⟨i0, i1⟩, _⟩ := (intsN_eq n).1 hi
  rcases canon h with ⟨e, h1⟩ | ⟨e, h1⟩ | ⟨e, h1⟩ | ⟨a, e, h1⟩ | ⟨a, b, e, h1, h2, h3⟩ | ⟨e, h1, h2, h3⟩ | e
  · rw [e]; exact nodeK_ok _ (okVal_const h1 i0 i1)
  · rw [e]; exact cellN_ok _ (okCell_right h1)
  · rw [e]; exact rangeN_ok _ _ (okCell_right (small_cells h1).1) (okCell_right (small_cells h1).2)
  · rw [e]; exact neg1_ok _
  · rw [e]; exact pair2_ok _ (by have := isOp_size h1; omega) _ _
  · rw [e]; exact callN_ok _ _ (by have := callB_size h1; omega) h2
  · rw [e]; exact lostN_ok

/-! ### The first token of a formula -/
theorem constK_head (v : GVal) : ∃ k t, constK v = (k, t) ∧ (k == 5) = false := by
  unfold constK
  split
  · exact ⟨_, _, rfl, rfl⟩
  split
  · exact ⟨_, _, rfl, rfl⟩
  · exact ⟨_, _, rfl, rfl⟩
theorem toks_head {n : GNode} (h : rightR n = true) : ∃ k t r, toksN n = (k, t) :: r ∧ (k == 5 && t == [41]) = false ∧ (n.kind ≠ 4 → (k == 5 && t == [45]) = false) := by
  obtain ⟨hF, _, _⟩ := right_fields h
  rw [toksN_eq]
  rcases right_kinds hF with ⟨k, h1⟩ | ⟨k, h1⟩ | ⟨k, h1⟩ | ⟨k, h1, h2⟩ | ⟨k, h1, h2⟩ | ⟨k, h1, h2⟩ | k
  · rw [k, if_pos rfl]
    obtain ⟨k', t', e, hk⟩ := constK_head n.val
    rw [e]
    exact ⟨k', t', [], rfl, by rw [hk]; rfl, fun _ => by rw [hk]; rfl⟩
  · rw [k, if_neg (by decide), if_pos rfl]; exact ⟨_, _, _, rfl, rfl, fun _ => rfl⟩
  · rw [k, if_neg (by decide), if_neg (by decide), if_pos rfl]; exact ⟨_, _, _, rfl, rfl, fun _ => rfl⟩
  · rw [k, if_neg (by decide), if_neg (by decide), if_neg (by decide), if_pos rfl, h1]; exact ⟨_, _, _, rfl, by decide, fun h => absurd rfl h⟩
  · rw [k, if_neg (by decide), if_neg (by decide), if_neg (by decide), if_neg (by decide), if_pos rfl]; exact ⟨_, _, _, rfl, by decide, fun _ => by decide⟩
  · rw [k, if_neg (by decide), if_neg (by decide), if_neg (by decide), if_neg (by decide), if_neg (by decide), if_pos rfl]; exact ⟨_, _, _, rfl, rfl, fun _ => rfl⟩
  · rw [k, if_neg (by decide), if_neg (by decide), if_neg (by decide), if_neg (by decide), if_neg (by decide), if_neg (by decide)]; exact ⟨_, _, _, rfl, rfl, fun _ => rfl⟩

/-! ### Where a call's kids stand -/
def stK : Nat → List GNode → Nat → Nat
  | q, _, 0 => q
  | q, [], _ + 1 => q
  | q, k :: ks, i + 1 => stK (q + (toksN k).length + 1) ks i
theorem stK_succ : ∀ (ks : List GNode) (q i : Nat) (n : GNode), ks[i]? = some n → stK q ks (i + 1) = stK q ks i + (toksN n).length + 1
  | k :: ks, q, 0, n, h => by simp at h; subst h; simp [stK]
  | k :: ks, q, i + 1, n, h => by
    simp only [List.getElem?_cons_succ] at h
    have := stK_succ ks (q + (toksN k).length + 1) i n h
    simpa [stK] using this
theorem join_at (sep : Int × Str) (L R : List (Int × Str)) : ∀ (ks : List GNode) (q : Nat), L.drop q = joinT sep (ks.map toksN) ++ R → ∀ i n, ks[i]? = some n →
    ∃ R', L.drop (stK q ks i) = toksN n ++ R' ∧ (i + 1 < ks.length → ∃ R2, R' = sep :: R2) ∧ (i + 1 = ks.length → R' = R)
  | [k], q, h, 0, n, hn => by
    simp at hn; subst hn
    exact ⟨R, by simpa [joinT, stK] using h, fun h => absurd h (by simp), fun _ => rfl⟩
  | [k], q, h, i + 1, n, hn => by simp at hn
  | k :: m :: ks, q, h, 0, n, hn => by
    simp at hn; subst hn
    refine ⟨sep :: (joinT sep ((m :: ks).map toksN) ++ R), ?_, fun _ => ⟨_, rfl⟩, fun h => absurd h (by simp)⟩
    simpa [joinT, stK] using h
  | k :: m :: ks, q, h, i + 1, n, hn => by
    have h2 : L.drop (q + (toksN k).length + 1) = joinT sep ((m :: ks).map toksN) ++ R := by
      have e : L.drop (q + (toksN k).length + 1) = (L.drop q).drop ((toksN k).length + 1) := by rw [List.drop_drop]; congr 1
      rw [e, h]
      simp only [List.map_cons, joinT]
      have e2 : (toksN k ++ sep :: joinT sep (toksN m :: ks.map toksN)) ++ R = (toksN k ++ [sep]) ++ (joinT sep (toksN m :: ks.map toksN) ++ R) := by simp
      rw [e2, List.drop_left' (by simp)]
    obtain ⟨R', a1, a2, a3⟩ := join_at sep L R (m :: ks) _ h2 i n (by simpa using hn)
    exact ⟨R', by simpa [stK] using a1, fun h => a2 (by simpa using h), fun h => a3 (by simpa using h)⟩
theorem join_len (sep : Int × Str) : ∀ (ks : List GNode) (q : Nat), 0 < ks.length → stK q ks ks.length = q + (joinT sep (ks.map toksN)).length + 1
  | [k], q, _ => by simp [stK, joinT]
  | k :: m :: ks, q, _ => by
    have := join_len sep (m :: ks) (q + (toksN k).length + 1) (by simp)
    simp only [List.length_cons, stK, List.map_cons, joinT, List.length_append] at this ⊢
    omega

end Go.Proofs.YtckalplhaggaoaaGreatDoor

namespace Go.Proofs.YtckalplhaggaoaaGreatDoor
open Go.RowKit

variable {w : World} {p g cap : Nat} {fin bad : Int} {sheet : ByteArray} {ts : List (Int × Int × Str)} {q : Nat}

/-! ### Tokens at a place -/
theorem tk_at {k : Int} {t : Str} {r : List (Int × Str)} (h : (ts.map kt).drop q = (k, t) :: r) : q < ts.length ∧ tkKind ts q = k ∧ tkText ts q = t ∧ (ts.map kt).drop (q + 1) = r := by
  have hl : q < (ts.map kt).length := by
    by_cases hlt : q < (ts.map kt).length
    · exact hlt
    · rw [List.drop_eq_nil_of_le (by omega)] at h; cases h
  have hl2 : q < ts.length := by simpa using hl
  have h1 : (ts.map kt)[q]? = some (k, t) := by
    have := List.getElem?_drop (xs := ts.map kt) (i := q) (j := 0)
    rw [h] at this
    simpa using this.symm
  rw [List.getElem?_map] at h1
  obtain ⟨k', a', t', ht⟩ : ∃ k' a' t', ts[q]? = some (k', a', t') := ⟨_, _, _, List.getElem?_eq_getElem hl2⟩
  rw [ht] at h1
  simp only [Option.map_some, kt, Option.some.injEq, Prod.mk.injEq] at h1
  refine ⟨hl2, by unfold tkKind; rw [ht]; exact h1.1, by unfold tkText; rw [ht]; exact h1.2, ?_⟩
  have := List.drop_drop (l := ts.map kt) (i := 1) (j := q)
  rw [h] at this
  simpa using this.symm
theorem tk_end (h : (ts.map kt).drop q = []) : tkKind ts q = 0 := by
  have hl : ts.length ≤ q := by
    have := congrArg List.length h
    simp at this; omega
  unfold tkKind
  rw [List.getElem?_eq_none hl]
theorem drop_more {L l r : List (Int × Str)} (h : L.drop q = l ++ r) : L.drop (q + l.length) = r := by
  have := List.drop_drop (l := L) (i := l.length) (j := q)
  rw [h] at this
  simpa using this.symm
/-- No ':' follows. -/
def follow (r : List (Int × Str)) : Prop := ∀ k t r', r = (k, t) :: r' → (k == 5 && t == [58]) = false
/-- The end follows, or ',' or ')'. -/
def closes (r : List (Int × Str)) : Prop := r = [] ∨ ∃ r', r = (5, [44]) :: r' ∨ r = (5, [41]) :: r'
theorem closes.follow {r : List (Int × Str)} (h : closes r) : follow r := by
  intro k t r' e
  rcases h with h | ⟨r2, h | h⟩
  · rw [h] at e; cases e
  · rw [h] at e; injection e with e1 e2; injection e1 with e3 e4; rw [← e3, ← e4]; decide
  · rw [h] at e; injection e with e1 e2; injection e1 with e3 e4; rw [← e3, ← e4]; decide
theorem rk_comma : ∀ j, j < 4 → Lib.containsS (rk j) (bs [44]) = false := by decide +kernel
theorem rk_close : ∀ j, j < 4 → Lib.containsS (rk j) (bs [41]) = false := by decide +kernel
theorem opAt_closes {r : List (Int × Str)} (h : (ts.map kt).drop q = r) (hc : closes r) (j : Nat) (hj : j < 4) : opAt ts q j = false := by
  unfold opAt
  rcases hc with e | ⟨r2, e | e⟩
  · rw [e] at h; rw [tk_end h]; rfl
  · rw [e] at h; obtain ⟨_, _, h3, _⟩ := tk_at h; rw [h3, rk_comma j hj, Bool.and_false]
  · rw [e] at h; obtain ⟨_, _, h3, _⟩ := tk_at h; rw [h3, rk_close j hj, Bool.and_false]
def rankOf (s : ByteArray) : Nat := if s.toList == [38] then 1 else if s.toList == [43] || s.toList == [45] then 2 else if s.toList == [42] || s.toList == [47] then 3 else 0
theorem rank_all : ∀ s ∈ refOps, rankOf s < 4 ∧ Lib.containsS (rk (rankOf s)) s = true ∧ ∀ j, j < 4 → j ≠ rankOf s → Lib.containsS (rk j) s = false := by decide +kernel
theorem op_rank {s : ByteArray} (h : isOp s = true) : ∃ k, k < 4 ∧ Lib.containsS (rk k) s = true ∧ ∀ j, j < 4 → j ≠ k → Lib.containsS (rk j) s = false := by
  rw [isOp_any, List.any_eq_true] at h
  obtain ⟨o, ho, he⟩ := h
  have : o = s := toList_inj (by simpa using he)
  subst this
  exact ⟨_, rank_all o ho⟩

/-! ### Ranks -/
theorem pairs_any (n : GNode) (q1 : Nat) (hq1 : q1 ≤ 1000) : ∀ (m k : Nat), k + m = 4 → (∀ j, k ≤ j → j < 4 → opAt ts q1 j = false) → ∀ (w : World), PS w p g cap fin sheet bad ts q →
    (∀ w1, Bel w w1 → Reads 60 #[.pointer (some ⟨p, 0, none⟩)] p q1 n w1) →
    Reads 43 #[.pointer (some ⟨p, 0, none⟩), .int .i64 (k : Int)] p q1 n w
  | 0, k, hk, hno, w, h, H => by
    obtain rfl : k = 4 := by omega
    exact parse_pairs_top h.plt n q1 H
  | m + 1, k, hk, hno, w, h, H => by
    refine parse_pairs_up h k (by omega) n q1 hq1 (hno k (Nat.le_refl _) (by omega)) fun w1 b => ?_
    have := pairs_any n q1 hq1 m (k + 1) (by omega) (fun j hj => hno j (by omega)) w1 (h.bel b) fun w2 b2 => H w2 (b.then_ b2)
    have e : ((k + 1 : Nat) : Int) = (k : Int) + 1 := by omega
    rwa [e] at this
theorem pairs_down (n : GNode) (q1 : Nat) (hq1 : q1 ≤ 1000) : ∀ (k : Nat), k ≤ 4 → (∀ j, j < k → opAt ts q1 j = false) → ∀ (w : World), PS w p g cap fin sheet bad ts q →
    (∀ w1, Bel w w1 → Reads 43 #[.pointer (some ⟨p, 0, none⟩), .int .i64 (k : Int)] p q1 n w1) →
    Reads 43 #[.pointer (some ⟨p, 0, none⟩), .int .i64 0] p q1 n w
  | 0, _, _, w, _, H => H w (Below.refl _ _)
  | k + 1, hk, hno, w, h, H => by
    refine pairs_down n q1 hq1 k (by omega) (fun j hj => hno j (by omega)) w h fun w1 b => ?_
    refine parse_pairs_up (h.bel b) k (by omega) n q1 hq1 (hno k (by omega)) fun w2 b2 => ?_
    have := H w2 (b.then_ b2)
    have e : ((k + 1 : Nat) : Int) = (k : Int) + 1 := by omega
    rwa [e] at this
theorem pairs_zero (n : GNode) (q1 : Nat) (hq1 : q1 ≤ 1000) {r : List (Int × Str)} (hd : (ts.map kt).drop q1 = r) (hc : closes r) (w : World) (h : PS w p g cap fin sheet bad ts q)
    (H : ∀ w1, Bel w w1 → Reads 60 #[.pointer (some ⟨p, 0, none⟩)] p q1 n w1) :
    Reads 43 #[.pointer (some ⟨p, 0, none⟩), .int .i64 0] p q1 n w :=
  pairs_any n q1 hq1 4 0 rfl (fun j _ hj => opAt_closes hd hc j hj) w h H

end Go.Proofs.YtckalplhaggaoaaGreatDoor
