/- Towards InputBack: what is shown as input is read back as it was, for every entry and every text; no condition. Part 14 of 28. -/
import Derived.Test.YtckalplhaggaoaaGreatDoorX09
import Derived.Test.YtckalplhaggaoaaGreatDoorX13
set_option linter.unusedVariables false
set_option linter.unusedSimpArgs false
namespace Go.Proofs.YtckalplhaggaoaaGreatDoor

/-! ### The tokens of a formula -/
def constK (v : GVal) : Int × Str := if v.kind = 2 then (2, v.s.data.toList) else if v.kind = 1 then (1, Lib.itoa v.n) else (3, (showV v).data.toList)
def placeK (c : GCell) : Int × Str := (3, placeS c.col c.row)
def joinT (sep : Int × Str) : List (List (Int × Str)) → List (Int × Str)
  | [] => []
  | [x] => x
  | x :: y :: r => x ++ sep :: joinT sep (y :: r)
mutual
def toksN : GNode → List (Int × Str)
  | ⟨k, op, nm, v, c, t, kids⟩ =>
    if k = 1 then [constK v]
    else if k = 2 then [(4, c.sheet.data.toList), (5, [33]), placeK c]
    else if k = 3 then [(4, c.sheet.data.toList), (5, [33]), placeK c, (5, [58]), placeK t]
    else if k = 4 then (5, op.data.toList) :: (toksL kids).headD []
    else if k = 5 then (5, [40]) :: (joinT (5, op.data.toList) (toksL kids) ++ [(5, [41])])
    else if k = 6 then (3, nm.data.toList) :: (5, [40]) :: (joinT (5, [44]) (toksL kids) ++ [(5, [41])])
    else [(3, [82, 69, 70]), (5, [33])]
def toksL : List GNode → List (List (Int × Str))
  | [] => []
  | k :: ks => toksN k :: toksL ks
end
theorem toksL_map : ∀ l, toksL l = l.map toksN
  | [] => by rw [toksL]; rfl
  | k :: ks => by rw [toksL, toksL_map ks]; rfl
theorem toksN_eq (n : GNode) : toksN n = if n.kind = 1 then [constK n.val]
    else if n.kind = 2 then [(4, n.cell.sheet.data.toList), (5, [33]), placeK n.cell]
    else if n.kind = 3 then [(4, n.cell.sheet.data.toList), (5, [33]), placeK n.cell, (5, [58]), placeK n.to]
    else if n.kind = 4 then (5, n.op.data.toList) :: (n.kids.map toksN).headD []
    else if n.kind = 5 then (5, [40]) :: (joinT (5, n.op.data.toList) (n.kids.map toksN) ++ [(5, [41])])
    else if n.kind = 6 then (3, n.name.data.toList) :: (5, [40]) :: (joinT (5, [44]) (n.kids.map toksN) ++ [(5, [41])])
    else [(3, [82, 69, 70]), (5, [33])] := by
  obtain ⟨a, b, c, d, e, f, g⟩ := n
  rw [toksN, toksL_map]

/-! ### What may stand behind, what may stand ahead -/
/-- A sign, or the end. -/
def stop (r : Str) : Prop := ∀ c r', r = c :: r' → c ∈ signs
/-- Neither '=' nor '>'. -/
def start (r : Str) : Prop := ∀ c r', r = c :: r' → c ≠ 61 ∧ c ≠ 62
theorem stop_cons {c : UInt8} (r : Str) (h : c ∈ signs) : stop (c :: r) := fun c' r' e => by injection e with e1 e2; rw [← e1]; exact h
theorem stop_nil : stop [] := fun c r' e => by cases e
theorem start_cons {c : UInt8} (r : Str) (h : c ≠ 61 ∧ c ≠ 62) : start (c :: r) := fun c' r' e => by injection e with e1 e2; rw [← e1]; exact h
theorem stop_digit {r : Str} (h : stop r) : ∀ c r', r = c :: r' → digitc c = false := fun c r' e => (sign_not (h c r' e)).1
theorem stop_word {r : Str} (h : stop r) : ∀ c r', r = c :: r' → (greatc c || digitc c) = false := fun c r' e => by obtain ⟨h1, h2, h3, h4⟩ := sign_not (h c r' e); rw [h1, h2]; rfl
theorem stop_name {r : Str} (h : stop r) : ∀ c r', r = c :: r' → (smallc c || digitc c) = false := fun c r' e => by obtain ⟨h1, h2, h3, h4⟩ := sign_not (h c r' e); rw [h1, h3]; rfl
theorem stop_text {r : Str} (h : stop r) : ∀ r', r ≠ 34 :: r' := fun r' e => by have := h _ _ e; revert this; decide

theorem tok_num {d r : Str} (hd : d.all digitc = true) (hne : d ≠ []) (h : stop r) : TokAt (d ++ r) 1 d r := .num d r hne hd (stop_digit h)
theorem tok_word {d r : Str} (hne : d ≠ []) (hf : ∀ c d', d = c :: d' → greatc c = true) (ha : d.all (fun c => greatc c || digitc c) = true) (h : stop r) : TokAt (d ++ r) 3 d r := by
  cases d with
  | nil => exact absurd rfl hne
  | cons c d =>
    simp only [List.all_cons, Bool.and_eq_true] at ha
    exact .word c d r (hf c d rfl) ha.2 (stop_word h)
theorem tok_name {d r : Str} (hne : d ≠ []) (hf : ∀ c d', d = c :: d' → smallc c = true) (ha : d.all (fun c => smallc c || digitc c) = true) (h : stop r) : TokAt (d ++ r) 4 d r := by
  cases d with
  | nil => exact absurd rfl hne
  | cons c d =>
    simp only [List.all_cons, Bool.and_eq_true] at ha
    exact .name c d r (hf c d rfl) ha.2 (stop_name h)
theorem tok_sign {x : UInt8} (r : Str) (hx : x ∈ signs) (h1 : x ≠ 60) (h2 : x ≠ 62) : TokAt (x :: r) 5 [x] r := by
  refine .sign1 x r hx ?_
  cases r with
  | nil => simp [isSign2]
  | cons y r => simp [isSign2, h1, h2]
theorem tok_op {o r : Str} (h : isOp (bs o) = true) (hs : start r) : TokAt (o ++ r) 5 o r := by
  have e : (bs o).toList = o := by rw [Lib.toList_data]; simp [bs]
  simp only [isOp, isCmp, e, Bool.or_eq_true, beq_iff_eq] at h
  have lone : ∀ x : UInt8, x ∈ signs → TokAt ([x] ++ r) 5 [x] r := fun x hx => by
    refine .sign1 x r hx ?_
    cases r with
    | nil => simp [isSign2]
    | cons y r => obtain ⟨h1, h2⟩ := hs y r rfl; simp [isSign2, h1, h2]
  rcases h with (((((((((h | h) | h) | h) | h) | h) | h) | h) | h) | h) | h <;> subst h
  · exact lone _ (by decide)
  · exact .sign2 _ _ _ (by decide)
  · exact lone _ (by decide)
  · exact lone _ (by decide)
  · exact .sign2 _ _ _ (by decide)
  · exact .sign2 _ _ _ (by decide)
  · exact lone _ (by decide)
  · exact lone _ (by decide)
  · exact lone _ (by decide)
  · exact lone _ (by decide)
  · exact lone _ (by decide)
theorem op_head {s : ByteArray} (h : isOp s = true) : ∃ c r, s.data.toList = c :: r ∧ c ∈ signs := by
  rw [← Lib.toList_data]
  simp only [isOp, isCmp, Bool.or_eq_true, beq_iff_eq] at h
  rcases h with (((((((((h | h) | h) | h) | h) | h) | h) | h) | h) | h) | h <;> (rw [h]; exact ⟨_, _, rfl, by decide⟩)

/-! ### Names, words -/
theorem name_list {s : ByteArray} (h : nameB s = true) : s.data.toList ≠ [] ∧ (∀ c d', s.data.toList = c :: d' → smallc c = true) ∧ s.data.toList.all (fun c => smallc c || digitc c) = true := by
  unfold nameB at h
  cases hs : s.data.toList with
  | nil => rw [hs] at h; cases h
  | cons c r =>
    rw [hs] at h
    simp only [Bool.and_eq_true] at h
    exact ⟨by simp, fun c' d' e => by injection e with e1 e2; rw [← e1]; exact h.1.2, h.2⟩
theorem small_start {c : UInt8} (h : smallc c = true) : c ≠ 61 ∧ c ≠ 62 := by
  simp [smallc] at h
  constructor <;> (rintro rfl; revert h; decide)
theorem great_start {c : UInt8} (h : greatc c = true) : c ≠ 61 ∧ c ≠ 62 := by
  simp [greatc] at h
  constructor <;> (rintro rfl; revert h; decide)
theorem digit_start {c : UInt8} (h : digitc c = true) : c ≠ 61 ∧ c ≠ 62 := by
  simp [digitc] at h
  constructor <;> (rintro rfl; revert h; decide)
theorem letter_great (n : Int) (h0 : 0 ≤ n) (h1 : n < 26) : greatc (letter n) = true := by
  obtain ⟨k, rfl⟩ : ∃ k : Nat, n = k := ⟨n.toNat, by omega⟩
  have : k < 26 := by omega
  have h : ∀ k, k < 26 → greatc (letter ((k : Nat) : Int)) = true := by decide +kernel
  exact h k this
theorem place_list (col row : Int) (h1 : 1 ≤ col) (h2 : col ≤ 702) (h3 : 1 ≤ row) : placeS col row ≠ [] ∧ (∀ c d', placeS col row = c :: d' → greatc c = true) ∧ (placeS col row).all (fun c => greatc c || digitc c) = true := by
  obtain ⟨i1, _⟩ := itoa_digits row (by omega)
  have i2 : (Lib.itoa row).all (fun c => greatc c || digitc c) = true := by
    rw [List.all_eq_true] at i1 ⊢
    intro x hx; rw [i1 x hx]; simp
  have l1 := letter_great ((col - 1) % 26) (by omega) (by omega)
  unfold placeS
  by_cases h : 26 < col
  · have l2 := letter_great ((col - 1) / 26 - 1) (by omega) (by omega)
    rw [if_pos h]
    refine ⟨by simp, fun c d' e => ?_, ?_⟩
    · simp only [List.cons_append, List.nil_append] at e
      injection e with e1 e2
      rw [← e1]; exact l2
    · simp [l1, l2]; simpa using i2
  · rw [if_neg h]
    refine ⟨by simp, fun c d' e => ?_, ?_⟩
    · simp only [List.nil_append] at e
      injection e with e1 e2
      rw [← e1]; exact l1
    · simp [l1]; simpa using i2
theorem call_list {s : ByteArray} (h : callB s = true) : s.data.toList ≠ [] ∧ (∀ c d', s.data.toList = c :: d' → greatc c = true) ∧ s.data.toList.all (fun c => greatc c || digitc c) = true := by
  unfold callB at h
  rw [Lib.toList_data] at h
  simp only [Bool.and_eq_true, Bool.not_eq_true'] at h
  obtain ⟨h1, h2, h3, h4, h5⟩ := h
  refine ⟨fun e => (by rw [e] at h1; cases h1), fun c d' e => ?_, ?_⟩
  · rw [e] at h5; simp only [List.all_cons, Bool.and_eq_true] at h5; exact h5.1
  · rw [List.all_eq_true] at h5 ⊢
    intro x hx; rw [h5 x hx]; rfl

/-! ### A constant -/
theorem const_cases {v : GVal} (h : constV v = true) : (v.kind = 1 ∧ 0 ≤ v.n ∧ showV v = itoaB v.n ∧ v.s.size = 0) ∨ (v.kind = 2 ∧ v.n = 0 ∧ v.s.size ≤ 200) ∨ (v.kind = 3 ∧ (v.n = 0 ∨ v.n = 1) ∧ v.s.size = 0 ∧ (showV v).data.toList = if v.n = 0 then [70, 65, 76, 83, 69] else [84, 82, 85, 69]) := by
  have hr : rightV v = true := by simp [constV] at h; exact h.1
  have h0 : ∀ s : ByteArray, s.toList.isEmpty = true → s.size = 0 := fun s hs => by
    rw [Lib.toList_data] at hs
    have := len_data s
    rw [List.isEmpty_iff] at hs
    rw [hs] at this
    exact this.symm
  by_cases h1 : v.kind = 1
  · left
    have hs : v.s.toList.isEmpty = true := by unfold rightV at hr; simpa [h1] using hr
    refine ⟨h1, ?_, ?_, h0 _ hs⟩
    · simp [constV, h1] at h; exact h.2
    · unfold showV; rw [hr, h1]; rfl
  by_cases h2 : v.kind = 2
  · right; left
    have hs := hr
    unfold rightV at hs
    simp [h2] at hs
    exact ⟨h2, hs.1, by omega⟩
  · right; right
    have h3 : v.kind = 3 := by simp [constV, h1, h2] at h; exact h.2
    have hs := hr
    unfold rightV at hs
    rw [h3] at hs
    simp only [show ¬ ((3 : Int) = 0) by decide, show ¬ ((3 : Int) = 1) by decide, show ¬ ((3 : Int) = 2) by decide, if_false, if_true, Bool.and_eq_true, Bool.or_eq_true, beq_iff_eq] at hs
    refine ⟨h3, hs.1, h0 _ hs.2, ?_⟩
    unfold showV; rw [hr, h3]
    simp only [show ¬ ((3 : Int) = 1) by decide, if_false, if_true, Bool.true_eq_false]
    split <;> rfl
theorem tok_const {v : GVal} (h : constV v = true) {r : Str} (hs : stop r) : TokAt (constS v ++ r) (constK v).1 (constK v).2 r := by
  rcases const_cases h with ⟨h1, h2, h3, h4⟩ | ⟨h1, h2, h3⟩ | ⟨h1, h2, h3, h4⟩
  · unfold constS constK
    rw [if_neg (by omega), if_neg (by omega), if_pos h1, h3]
    exact tok_num (itoa_digits _ h2).1 (itoa_digits _ h2).2 hs
  · unfold constS constK
    rw [if_pos h1, if_pos h1]
    have := TokAt.text v.s.data.toList r (stop_text hs)
    simpa using this
  · unfold constS constK
    rw [if_neg (by omega), if_neg (by omega), if_neg (by omega), h4]
    by_cases h0 : v.n = 0
    · rw [if_pos h0]; exact tok_word (by simp) (fun c d' e => by injection e with e1 e2; rw [← e1]; decide) (by decide) hs
    · rw [if_neg h0]; exact tok_word (by simp) (fun c d' e => by injection e with e1 e2; rw [← e1]; decide) (by decide) hs
theorem start_const {v : GVal} (h : constV v = true) (r : Str) : start (constS v ++ r) := by
  rcases const_cases h with ⟨h1, h2, h3, h4⟩ | ⟨h1, h2, h3⟩ | ⟨h1, h2, h3, h4⟩
  · unfold constS
    rw [if_neg (by omega), h3]
    obtain ⟨d1, d2⟩ := itoa_digits v.n h2
    show start (Lib.itoa v.n ++ r)
    cases hd : Lib.itoa v.n with
    | nil => exact absurd hd d2
    | cons c d =>
      rw [hd] at d1
      simp only [List.all_cons, Bool.and_eq_true] at d1
      exact start_cons _ (digit_start d1.1)
  · unfold constS
    rw [if_pos h1]
    exact start_cons _ (by decide)
  · unfold constS
    rw [if_neg (by omega), h4]
    split <;> exact start_cons _ (by decide)

/-! ### A formula -/
theorem right_kinds {n : GNode} (h : fieldsN n = true) : (n.kind = 1 ∧ constV n.val = true) ∨ (n.kind = 2 ∧ rightC n.cell = true) ∨ (n.kind = 3 ∧ smallR n.cell n.to = true) ∨ (n.kind = 4 ∧ n.op.data.toList = [45] ∧ n.kids.length = 1) ∨ (n.kind = 5 ∧ isOp n.op = true ∧ n.kids.length = 2) ∨ (n.kind = 6 ∧ callB n.name = true ∧ n.kids.length ≤ 20) ∨ n.kind = 7 := by
  unfold fieldsN at h
  split at h
  · rename_i h1; exact .inl ⟨h1, h⟩
  split at h
  · rename_i h1; exact .inr (.inl ⟨h1, h⟩)
  split at h
  · rename_i h1; exact .inr (.inr (.inl ⟨h1, h⟩))
  split at h
  · rename_i h1
    obtain ⟨h51, h52⟩ := Bool.and_eq_true_iff.1 h
    exact .inr (.inr (.inr (.inl ⟨h1, by rw [← Lib.toList_data]; simpa using h51, by have := of_decide_eq_true h52; omega⟩)))
  split at h
  · rename_i h1
    obtain ⟨h51, h52⟩ := Bool.and_eq_true_iff.1 h
    exact .inr (.inr (.inr (.inr (.inl ⟨h1, h51, by have := of_decide_eq_true h52; omega⟩))))
  split at h
  · rename_i h1
    obtain ⟨h51, h52⟩ := Bool.and_eq_true_iff.1 h
    exact .inr (.inr (.inr (.inr (.inr (.inl ⟨h1, h51, by have := of_decide_eq_true h52; omega⟩)))))
  · exact .inr (.inr (.inr (.inr (.inr (.inr (by simpa using h))))))
theorem small_cells {a b : GCell} (h : smallR a b = true) : rightC a = true ∧ rightC b = true := by
  have ha : areaOk a b = true := by simp [smallR] at h; exact h.1
  simp [areaOk] at ha; exact ⟨ha.1, ha.2.1⟩
theorem cell_right {c : GCell} (h : rightC c = true) : nameB c.sheet = true ∧ 1 ≤ c.col ∧ c.col ≤ 702 ∧ 1 ≤ c.row ∧ c.row ≤ 999 := by
  have := rightC_bd h
  exact ⟨by simp [rightC] at h; exact h.1, this⟩
theorem show_start {n : GNode} (hr : rightR n = true) (r : Str) : start (showN n ++ r) := by
  obtain ⟨hF, _, _⟩ := right_fields hr
  rw [showN_eq]
  have name : ∀ (s : ByteArray) (t : Str), nameB s = true → start (s.data.toList ++ t) := fun s t h => by
    obtain ⟨n1, n2, n3⟩ := name_list h
    cases hs : s.data.toList with
    | nil => exact absurd hs n1
    | cons c d => exact start_cons _ (small_start (n2 c d hs))
  rcases right_kinds hF with ⟨h, h1⟩ | ⟨h, h1⟩ | ⟨h, h1⟩ | ⟨h, h1, h2⟩ | ⟨h, h1, h2⟩ | ⟨h, h1, h2⟩ | h
  · rw [h, if_pos rfl]; exact start_const h1 r
  · rw [h, if_neg (by decide), if_pos rfl]
    unfold cellS
    rw [List.append_assoc]
    exact name _ _ (cell_right h1).1
  · rw [h, if_neg (by decide), if_neg (by decide), if_pos rfl]
    unfold cellS
    rw [List.append_assoc, List.append_assoc]
    exact name _ _ (cell_right (small_cells h1).1).1
  · rw [h, if_neg (by decide), if_neg (by decide), if_neg (by decide), if_pos rfl, h1]
    exact start_cons _ (by decide)
  · rw [h, if_neg (by decide), if_neg (by decide), if_neg (by decide), if_neg (by decide), if_pos rfl]
    exact start_cons _ (by decide)
  · rw [h, if_neg (by decide), if_neg (by decide), if_neg (by decide), if_neg (by decide), if_neg (by decide), if_pos rfl]
    obtain ⟨n1, n2, n3⟩ := call_list h1
    cases hs : n.name.data.toList with
    | nil => exact absurd hs n1
    | cons c d => exact start_cons _ (great_start (n2 c d hs))
  · rw [h, if_neg (by decide), if_neg (by decide), if_neg (by decide), if_neg (by decide), if_neg (by decide), if_neg (by decide)]
    exact start_cons _ (by decide)
theorem join_two (x y : Str) (r : List Str) (sep : Str) : Lib.join (x :: y :: r) sep = x ++ (sep ++ Lib.join (y :: r) sep) := by
  rw [Lib.join_cons, Lib.join_cons]
  simp [Lib.joinTail, List.append_assoc]
/-- What a formula's text comes apart into. -/
def comes (n : GNode) : Prop := ∀ r ts, stop r → Splits r ts → Splits (showN n ++ r) (toksN n ++ ts)
theorem comes_join (sep : Str) (hst : ∀ x, stop (sep ++ x)) (hsep : ∀ x, start x → TokAt (sep ++ x) 5 sep x) : ∀ l : List GNode, (∀ k ∈ l, rightR k = true) → (∀ k ∈ l, comes k) → ∀ r ts, stop r → Splits r ts → Splits (Lib.join (l.map showN) sep ++ r) (joinT (5, sep) (l.map toksN) ++ ts)
  | [], _, _, r, ts, _, h => by rw [List.map_nil, List.map_nil, Lib.join_nil, joinT]; exact h
  | [k], hR, hC, r, ts, hs, h => by
    simp only [List.map_cons, List.map_nil, Lib.join_one, joinT]
    exact hC k (by simp) r ts hs h
  | k :: m :: l, hR, hC, r, ts, hs, h => by
    have ih := comes_join sep hst hsep (m :: l) (fun x hx => hR x (List.mem_cons_of_mem _ hx)) (fun x hx => hC x (List.mem_cons_of_mem _ hx)) r ts hs h
    simp only [List.map_cons] at ih ⊢
    rw [join_two, joinT, List.append_assoc, List.append_assoc, List.append_assoc]
    refine hC k (by simp) _ _ (hst _) ?_
    rw [List.cons_append]
    refine .cons (hsep _ ?_) ih
    have : ∃ t, Lib.join (showN m :: l.map showN) sep ++ r = showN m ++ t := by
      rw [Lib.join_cons, List.append_assoc]; exact ⟨_, rfl⟩
    obtain ⟨t, ht⟩ := this
    rw [ht]
    exact show_start (hR m (by simp)) t
theorem comes_all (N : Nat) : ∀ n : GNode, nsz n ≤ N → rightR n = true → comes n := by
  induction N with
  | zero => intro n hN; exfalso; have := nsz_pos n; omega
  | succ N ih =>
    intro n hN hr r ts hs h
    obtain ⟨hF, hB, hK⟩ := right_fields hr
    have hC : ∀ k ∈ n.kids, comes k := fun k hk => by
      obtain ⟨i, hi, rfl⟩ := List.mem_iff_getElem.1 hk
      exact ih _ (by have := nsz_kid n i hi; omega) (hK _ hk)
    have cellT : ∀ (c : GCell) (t : Str) (us : List (Int × Str)), rightC c = true → stop t → Splits t us → Splits (cellS c ++ t) ((4, c.sheet.data.toList) :: (5, [33]) :: placeK c :: us) := fun c t us hc ht hu => by
      obtain ⟨c1, c2, c3, c4, c5⟩ := cell_right hc
      obtain ⟨n1, n2, n3⟩ := name_list c1
      obtain ⟨p1, p2, p3⟩ := place_list c.col c.row c2 c3 c4
      unfold cellS
      rw [List.append_assoc, List.cons_append]
      exact .cons (tok_name n1 n2 n3 (stop_cons _ (by decide))) (.cons (tok_sign _ (by decide) (by decide) (by decide)) (.cons (tok_word p1 p2 p3 ht) hu))
    rw [showN_eq, toksN_eq]
    rcases right_kinds hF with ⟨k, h1⟩ | ⟨k, h1⟩ | ⟨k, h1⟩ | ⟨k, h1, h2⟩ | ⟨k, h1, h2⟩ | ⟨k, h1, h2⟩ | k
    · rw [k, if_pos rfl, if_pos rfl]
      exact .cons (tok_const h1 hs) h
    · rw [k, if_neg (by decide), if_pos rfl, if_neg (by decide), if_pos rfl]
      exact cellT _ _ _ h1 hs h
    · rw [k, if_neg (by decide), if_neg (by decide), if_pos rfl, if_neg (by decide), if_neg (by decide), if_pos rfl]
      obtain ⟨c1, c2, c3, c4, c5⟩ := cell_right (small_cells h1).2
      obtain ⟨p1, p2, p3⟩ := place_list n.to.col n.to.row c2 c3 c4
      rw [List.append_assoc, List.cons_append]
      exact cellT _ _ _ (small_cells h1).1 (stop_cons _ (by decide)) (.cons (tok_sign _ (by decide) (by decide) (by decide)) (.cons (tok_word p1 p2 p3 hs) h))
    · rw [k, if_neg (by decide), if_neg (by decide), if_neg (by decide), if_pos rfl, if_neg (by decide), if_neg (by decide), if_neg (by decide), if_pos rfl, h1]
      obtain ⟨x, hx⟩ : ∃ x, n.kids = [x] := List.length_eq_one_iff.1 h2
      rw [hx] at hC ⊢
      simp only [List.map_cons, List.map_nil, List.headD_cons]
      exact .cons (tok_sign _ (by decide) (by decide) (by decide)) (hC x (by simp) r ts hs h)
    · rw [k, if_neg (by decide), if_neg (by decide), if_neg (by decide), if_neg (by decide), if_pos rfl, if_neg (by decide), if_neg (by decide), if_neg (by decide), if_neg (by decide), if_pos rfl]
      obtain ⟨c, o, ho, hc⟩ := op_head h1
      have hb : isOp (bs n.op.data.toList) = true := h1
      rw [List.cons_append, List.cons_append, List.append_assoc, List.append_assoc]
      refine .cons (tok_sign _ (by decide) (by decide) (by decide)) ?_
      refine comes_join _ (fun x => by rw [ho]; exact stop_cons _ hc) (fun x hx => tok_op hb hx) n.kids hK hC _ _ (stop_cons _ (by decide)) ?_
      exact .cons (tok_sign _ (by decide) (by decide) (by decide)) h
    · rw [k, if_neg (by decide), if_neg (by decide), if_neg (by decide), if_neg (by decide), if_neg (by decide), if_pos rfl, if_neg (by decide), if_neg (by decide), if_neg (by decide), if_neg (by decide), if_neg (by decide), if_pos rfl]
      obtain ⟨n1, n2, n3⟩ := call_list h1
      rw [List.append_assoc, List.cons_append, List.cons_append, List.cons_append, List.append_assoc, List.append_assoc]
      refine .cons (tok_word n1 n2 n3 (stop_cons _ (by decide))) (.cons (tok_sign _ (by decide) (by decide) (by decide)) ?_)
      refine comes_join _ (fun x => stop_cons _ (by decide)) (fun x hx => tok_sign _ (by decide) (by decide) (by decide)) n.kids hK hC _ _ (stop_cons _ (by decide)) ?_
      exact .cons (tok_sign _ (by decide) (by decide) (by decide)) h
    · rw [k, if_neg (by decide), if_neg (by decide), if_neg (by decide), if_neg (by decide), if_neg (by decide), if_neg (by decide), if_neg (by decide), if_neg (by decide), if_neg (by decide), if_neg (by decide), if_neg (by decide), if_neg (by decide)]
      exact .cons (tok_word (d := [82, 69, 70]) (by simp) (fun c d' e => by injection e with e1 e2; rw [← e1]; decide) (by decide) (stop_cons _ (by decide))) (.cons (tok_sign _ (by decide) (by decide) (by decide)) h)
/-- A formula's text comes apart into its tokens. -/
theorem splits_show {n : GNode} (hr : rightR n = true) : Splits (showN n) (toksN n) := by
  have := comes_all (nsz n) n (Nat.le_refl _) hr [] [] stop_nil .nil
  simpa using this

end Go.Proofs.YtckalplhaggaoaaGreatDoor
