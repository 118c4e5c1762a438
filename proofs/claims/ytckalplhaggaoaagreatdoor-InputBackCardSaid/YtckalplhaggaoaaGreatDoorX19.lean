/- Towards InputBack: what is shown as input is read back as it was, for every entry and every text; no condition. Part 19 of 28. -/
import Derived.Test.YtckalplhaggaoaaGreatDoorX18
set_option linter.unusedVariables false
set_option linter.unusedSimpArgs false
namespace Go.Proofs.YtckalplhaggaoaaGreatDoor
open Go.RowKit

variable {p g cap : Nat} {fin bad : Int} {sheet : ByteArray} {ts : List (Int × Int × Str)}

theorem Gl.low {w w' : World} (h : Gl w) (b : Below 8 w w') : Gl w' := by
  have hs := h.size
  obtain ⟨ts, ps, h1⟩ := h.syn
  obtain ⟨tr, pr, h2⟩ := h.ran
  obtain ⟨m, h3⟩ := h.max
  exact ⟨var?_below b glob2 (by omega) h.tab, ⟨ts, ps, var?_below b glob0 (by omega) h1⟩, ⟨tr, pr, var?_below b glob1 (by omega) h2⟩, ⟨m, (b.cell (p := ⟨3, 0, none⟩) (by show _ < 8; decide)).trans h3⟩, Nat.le_trans hs b.size⟩
theorem Gl.mv {w : World} (h : Gl w) {p : Nat} (hp : 8 ≤ p) (q : Nat) : Gl (Go.Proofs.YtckalplhaggaoaaGreatDoor.mv w p q) := h.low ((Below.refl _ _).setCell hp _)
theorem Gl.to {w w' : World} (h : Gl w) {p : Nat} (hp : 8 ≤ p) {q : Nat} (b : Bel (Go.Proofs.YtckalplhaggaoaaGreatDoor.mv w p q) w') : Gl w' := (h.mv hp q).bel b

/-- minus reads the formula n wherever its tokens stand. -/
def MinusReads (p g cap : Nat) (fin : Int) (sheet : ByteArray) (bad : Int) (ts : List (Int × Int × Str)) (n : GNode) : Prop :=
  ∀ (w : World) (q : Nat) (r : List (Int × Str)), PS w p g cap fin sheet bad ts q → Gl w → (ts.map kt).drop q = toksN n ++ r → follow r →
    Reads 60 #[.pointer (some ⟨p, 0, none⟩)] p (q + (toksN n).length) n w

theorem bs_back (s : ByteArray) : bs s.data.toList = s := by apply toList_inj; rw [Lib.toList_data, Lib.toList_data]; simp [bs]

theorem reads_const (v : GVal) (h1 : constV v = true) (h0 : -9223372036854775808 ≤ v.n) (h9 : v.n ≤ 9223372036854775807) : MinusReads p g cap fin sheet bad ts (nodeK v) := by
  intro w q r h hG hd hf
  have ht : toksN (nodeK v) = [constK v] := by rw [toksN_eq]; rfl
  obtain ⟨k, t, hk, hk5⟩ := constK_head v
  rw [ht, hk] at hd ⊢
  obtain ⟨a1, a2, a3, a4⟩ := tk_at (r := r) hd
  have hfw := h.few
  refine parse_minus_one h (by omega) _ _ (by rw [a2, hk5]; rfl) fun w1 b => ?_
  rcases const_cases h1 with ⟨c1, c2, c3, c4⟩ | ⟨c1, c2, c3⟩ | ⟨c1, c2, c3, c4⟩
  · unfold constK at hk
    rw [if_neg (by omega), if_pos c1] at hk
    injection hk with e1 e2
    have hl := Lib.itoa_length_le v.n h0 h9
    have hv : v = ⟨1, v.n, ⟨#[]⟩⟩ := by
      obtain ⟨vk, vn, vs⟩ := v
      simp only at c1 c4
      rw [c1, empty_of_size c4]
    rw [hv]
    refine parse_one_num (h.bel b) a1 (by rw [a2, ← e1]) v.n (by rw [a3, ← e2]; exact atoi_itoa _ h0 h9) h0 h9 (by rw [a3, ← e2]; omega)
  · unfold constK at hk
    rw [if_pos c1] at hk
    injection hk with e1 e2
    have hl := len_data v.s
    have hv : v = ⟨2, 0, bs (tkText ts q)⟩ := by
      rw [a3, ← e2, bs_back]
      obtain ⟨vk, vn, vs⟩ := v
      simp only at c1 c2
      rw [c1, c2]
    rw [hv]
    exact parse_one_text (h.bel b) a1 (by rw [a2, ← e1]) (by rw [a3, ← e2]; omega)
  · unfold constK at hk
    rw [if_neg (by omega), if_neg (by omega), c4] at hk
    injection hk with e1 e2
    refine parse_one_word (h.bel b) a1 (by rw [a2, ← e1]) _ _ fun w2 b2 => ?_
    rcases c2 with c2 | c2
    · have hv : v = ⟨3, 0, ⟨#[]⟩⟩ := by
        obtain ⟨vk, vn, vs⟩ := v
        simp only at c1 c2 c3
        rw [c1, c2, empty_of_size c3]
      rw [if_pos c2] at e2
      rw [hv]
      exact parse_word_false (h.bel (b.then_ b2)) a1 (by rw [a3, ← e2])
    · have hv : v = ⟨3, 1, ⟨#[]⟩⟩ := by
        obtain ⟨vk, vn, vs⟩ := v
        simp only at c1 c2 c3
        rw [c1, c2, empty_of_size c3]
      rw [if_neg (by omega)] at e2
      rw [hv]
      exact parse_word_true (h.bel (b.then_ b2)) a1 (by rw [a3, ← e2])

theorem reads_lost : MinusReads p g cap fin sheet bad ts lostN := by
  intro w q r h hG hd hf
  have ht : toksN lostN = [(3, [82, 69, 70]), (5, [33])] := by rw [toksN_eq]; rfl
  rw [ht] at hd ⊢
  obtain ⟨a1, a2, a3, a4⟩ := tk_at (r := (5, [33]) :: r) hd
  obtain ⟨b1, b2, b3, b4⟩ := tk_at a4
  have hfw := h.few
  refine parse_minus_one h (by omega) _ _ (by rw [a2]; rfl) fun w1 b => ?_
  exact parse_one_word (h.bel b) a1 a2 _ _ fun w2 c => parse_word_lost (h.bel (b.then_ c)) a1 a3 b2 b3

theorem reads_cell (c : GCell) (h1 : rightC c = true) : MinusReads p g cap fin sheet bad ts (cellN c) := by
  intro w q r h hG hd hf
  have ht : toksN (cellN c) = [(4, c.sheet.data.toList), (5, [33]), placeK c] := by rw [toksN_eq]; rfl
  rw [ht] at hd ⊢
  obtain ⟨a1, a2, a3, a4⟩ := tk_at (r := (5, [33]) :: placeK c :: r) hd
  obtain ⟨b1, b2, b3, b4⟩ := tk_at a4
  obtain ⟨c1, c2, c3, c4⟩ := tk_at b4
  have hfw := h.few
  obtain ⟨d0, d1, d2, d3, d4⟩ := cell_right h1
  have hs := rightC_size h1
  have e : bs (tkText ts q) = c.sheet := by rw [a3, bs_back]
  have hno : (tkKind ts (q + 3) == 5 && (tkText ts (q + 3) == [58])) = false := by
    cases hr : r with
    | nil => rw [hr] at c4; rw [tk_end c4]; rfl
    | cons x r' =>
      obtain ⟨k, t⟩ := x
      rw [hr] at c4
      obtain ⟨_, f2, f3, _⟩ := tk_at c4
      rw [f2, f3]; exact hf k t r' hr
  refine parse_minus_one h (by omega) _ _ (by rw [a2]; rfl) fun w1 b => ?_
  refine parse_one_name (h.bel b) a1 a2 (by rw [e]; exact d0) b2 b3 _ _ (by rw [e]; omega) fun w2 b' => ?_
  rw [e]
  exact parse_cell_one (h.bel (b.then_ b')) (hG.bel (b.then_ b')) c1 c2 c.sheet c.col c.row c3 d1 d2 d3 d4 (by omega) hno

theorem reads_range (a b : GCell) (h1 : smallR a b = true) : MinusReads p g cap fin sheet bad ts (rangeN a b) := by
  intro w q r h hG hd hf
  have ht : toksN (rangeN a b) = [(4, a.sheet.data.toList), (5, [33]), placeK a, (5, [58]), placeK b] := by rw [toksN_eq]; rfl
  rw [ht] at hd ⊢
  obtain ⟨a1, a2, a3, a4⟩ := tk_at (r := (5, [33]) :: placeK a :: (5, [58]) :: placeK b :: r) hd
  obtain ⟨b1, b2, b3, b4⟩ := tk_at a4
  obtain ⟨c1, c2, c3, c4⟩ := tk_at b4
  obtain ⟨d1, d2, d3, d4⟩ := tk_at c4
  obtain ⟨e1, e2, e3, e4⟩ := tk_at d4
  have hfw := h.few
  have f0 := (cell_right (small_cells h1).1).1
  have hs := rightC_size (small_cells h1).1
  have hsame : b.sheet = a.sheet := by
    have ha : areaOk a b = true := by simp [smallR] at h1; exact h1.1
    have : a.sheet.toList = b.sheet.toList := by simp [areaOk] at ha; exact ha.2.2.1
    exact (toList_inj this).symm
  have e : bs (tkText ts q) = a.sheet := by rw [a3, bs_back]
  refine parse_minus_one h (by omega) _ _ (by rw [a2]; rfl) fun w1 b' => ?_
  refine parse_one_name (h.bel b') a1 a2 (by rw [e]; exact f0) b2 b3 _ _ (by rw [e]; omega) fun w2 b2' => ?_
  rw [e]
  exact parse_cell_range (h.bel (b'.then_ b2')) (hG.bel (b'.then_ b2')) e1 c2 a.sheet a b c3 d2 d3 e2 e3 rfl hsame h1

theorem reads_neg (h8 : 8 ≤ p) (a : GNode) (hok : okTop a) (ih : MinusReads p g cap fin sheet bad ts a) : MinusReads p g cap fin sheet bad ts (neg1 a) := by
  intro w q r h hG hd hf
  have ht : toksN (neg1 a) = (5, [45]) :: toksN a := by rw [toksN_eq]; rfl
  rw [ht] at hd ⊢
  obtain ⟨a1, a2, a3, a4⟩ := tk_at (r := toksN a ++ r) hd
  have hfw := h.few
  have e : q + ((5, [45]) :: toksN a : List (Int × Str)).length = (q + 1) + (toksN a).length := by simp; omega
  rw [e]
  exact parse_minus_neg h (by omega) a1 a hok _ (by rw [a2, a3]; decide) fun w1 b => ih w1 (q + 1) r (h.to b) (hG.to h8 b) a4 hf

end Go.Proofs.YtckalplhaggaoaaGreatDoor

namespace Go.Proofs.YtckalplhaggaoaaGreatDoor
open Go.RowKit

variable {p g cap : Nat} {fin bad : Int} {sheet : ByteArray} {ts : List (Int × Int × Str)}

theorem few_at {w : World} {q : Nat} (h : PS w p g cap fin sheet bad ts q) {q1 : Nat} {x : Int × Str} {r : List (Int × Str)} (hd : (ts.map kt).drop q1 = x :: r) : q1 ≤ 200 := by
  obtain ⟨k, t⟩ := x
  have := (tk_at hd).1
  have := h.few
  omega

theorem reads_pair (h8 : 8 ≤ p) (op : ByteArray) (hop : isOp op = true) (a b : GNode) (iha : MinusReads p g cap fin sheet bad ts a) (ihb : MinusReads p g cap fin sheet bad ts b) : MinusReads p g cap fin sheet bad ts (pair2 op a b) := by
  intro w q r h hG hd hf
  have ht : toksN (pair2 op a b) = (5, [40]) :: (toksN a ++ (5, op.data.toList) :: (toksN b ++ [(5, [41])])) := by
    rw [toksN_eq]
    show (5, [40]) :: (joinT (5, op.data.toList) [toksN a, toksN b] ++ [(5, [41])]) = _
    simp [joinT]
  rw [ht] at hd ⊢
  have hd' : (ts.map kt).drop q = (5, [40]) :: (toksN a ++ ((5, op.data.toList) :: (toksN b ++ ((5, [41]) :: r)))) := by rw [hd]; simp
  obtain ⟨a1, a2, a3, a4⟩ := tk_at hd'
  have d1 := drop_more a4
  obtain ⟨o1, o2, o3, o4⟩ := tk_at d1
  have d2 := drop_more o4
  obtain ⟨e1, e2, e3, e4⟩ := tk_at d2
  have hfw := h.few
  obtain ⟨k, hk, hr1, hr2⟩ := op_rank hop
  have hb : bs (tkText ts (q + 1 + (toksN a).length)) = op := by rw [o3, bs_back]
  have hfa : follow ((5, op.data.toList) :: (toksN b ++ (5, [41]) :: r)) := by
    intro k' t' r' e
    injection e with e5 e6
    injection e5 with e7 e8
    rw [← e8]
    have : (op.data.toList == [58]) = false := by
      have : ∀ s ∈ refOps, (s.data.toList == [58]) = false := by decide +kernel
      rw [isOp_any, List.any_eq_true] at hop
      obtain ⟨o, ho, he⟩ := hop
      have hoe : o = op := toList_inj (by simpa using he)
      rw [← hoe]; exact this o ho
    rw [this, Bool.and_false]
  have hcl : closes ((5, [41]) :: r) := .inr ⟨r, .inr rfl⟩
  have el : q + ((5, [40]) :: (toksN a ++ (5, op.data.toList) :: (toksN b ++ [(5, [41])])) : List (Int × Str)).length = (q + 1 + (toksN a).length + 1 + (toksN b).length) + 1 := by simp; omega
  rw [el]
  refine parse_minus_one h (by omega) _ _ (by rw [a2, a3]; decide) fun w1 b1 => ?_
  refine parse_one_paren (h.bel b1) a1 a2 a3 _ _ e1 e2 e3 fun w2 b2 => ?_
  have hp2 := (h.bel b1).to b2
  have hG2 := (hG.bel b1).to h8 b2
  refine pairs_down _ _ (by omega) k (by omega) (fun j hj => opAt_closes d2 hcl j (by omega)) w2 hp2 fun w3 b3 => ?_
  have := parse_pairs_op (hp2.bel b3) k hk a b (q + 1 + (toksN a).length) (q + 1 + (toksN a).length + 1 + (toksN b).length) (by omega) (by omega) o1 (by unfold opAt; rw [o2, hb, hr1]; rfl) (opAt_closes d2 hcl k hk) (by rw [hb]; have := isOp_size hop; omega)
    (fun w4 b4 => ?_) (fun w4 b4 => ?_)
  · rw [hb] at this; exact this
  · have := pairs_any a (q + 1 + (toksN a).length) (by omega) (4 - (k + 1)) (k + 1) (by omega) (fun j hj hj4 => by unfold opAt; rw [o2, hb, hr2 j hj4 (by omega), Bool.and_false]) w4 ((hp2.bel b3).bel b4)
      (fun w5 b5 => iha w5 (q + 1) _ (((hp2.bel b3).bel b4).bel b5) (((hG2.bel b3).bel b4).bel b5) a4 hfa)
    have e : ((k + 1 : Nat) : Int) = (k : Int) + 1 := by omega
    rwa [e] at this
  · have hp4 := (hp2.bel b3).to b4
    have hG4 := (hG2.bel b3).to h8 b4
    have := pairs_any b (q + 1 + (toksN a).length + 1 + (toksN b).length) (by omega) (4 - (k + 1)) (k + 1) (by omega) (fun j _ hj4 => opAt_closes d2 hcl j hj4) w4 hp4
      (fun w5 b5 => ihb w5 (q + 1 + (toksN a).length + 1) _ (hp4.bel b5) (hG4.bel b5) o4 hcl.follow)
    have e : ((k + 1 : Nat) : Int) = (k : Int) + 1 := by omega
    rwa [e] at this

theorem reads_call (h8 : 8 ≤ p) (nm : ByteArray) (hnm : callB nm = true) (ks : List GNode) (hks : ks.length ≤ 20) (hR : ∀ k ∈ ks, rightR k = true) (ih : ∀ k ∈ ks, MinusReads p g cap fin sheet bad ts k) : MinusReads p g cap fin sheet bad ts (callN nm ks) := by
  intro w q r h hG hd hf
  have ht : toksN (callN nm ks) = (3, nm.data.toList) :: (5, [40]) :: (joinT (5, [44]) (ks.map toksN) ++ [(5, [41])]) := by rw [toksN_eq]; rfl
  rw [ht] at hd ⊢
  have hd' : (ts.map kt).drop q = (3, nm.data.toList) :: (5, [40]) :: (joinT (5, [44]) (ks.map toksN) ++ ((5, [41]) :: r)) := by rw [hd]; simp
  obtain ⟨a1, a2, a3, a4⟩ := tk_at hd'
  obtain ⟨b1, b2, b3, b4⟩ := tk_at a4
  have hfw := h.few
  have hsz := callB_size hnm
  have hlen := len_data nm
  have hb : bs (tkText ts q) = nm := by rw [a3, bs_back]
  refine parse_minus_one h (by omega) _ _ (by rw [a2]; rfl) fun w1 c1 => ?_
  refine parse_one_word (h.bel c1) a1 a2 _ _ fun w2 c2 => ?_
  have hp2 := (h.bel c1).bel c2
  have hG2 := (hG.bel c1).bel c2
  refine parse_word_call hp2 a1 (by rw [hb]; exact hnm) (by rw [a3]; omega) b2 b3 _ _ fun w3 c3 => ?_
  have hp3 := hp2.bel c3
  have hG3 := hG2.bel c3
  by_cases h0 : 0 < ks.length
  · have hst : ∀ i n, ks[i]? = some n → stOf q (fun i => stK (q + 2) ks i + (toksN (ks.getD i GNode.zero)).length) i = stK (q + 2) ks i := by
      intro i n hn
      cases i with
      | zero => cases ks with
        | nil => simp at h0
        | cons k ks => rfl
      | succ i =>
        have hi : i < ks.length := by have := (List.getElem?_eq_some_iff.1 hn).1; omega
        show stK (q + 2) ks i + (toksN (ks.getD i GNode.zero)).length + 1 = _
        rw [stK_succ ks (q + 2) i ks[i] (List.getElem?_eq_getElem hi), List.getD_eq_getElem?_getD, List.getElem?_eq_getElem hi]; rfl
    have hlast : stOf q (fun i => stK (q + 2) ks i + (toksN (ks.getD i GNode.zero)).length) ks.length = stK (q + 2) ks ks.length := by
      obtain ⟨i, hi⟩ : ∃ i, ks.length = i + 1 := ⟨ks.length - 1, by omega⟩
      have hil : i < ks.length := by omega
      rw [hi]
      show stK (q + 2) ks i + (toksN (ks.getD i GNode.zero)).length + 1 = _
      rw [stK_succ ks (q + 2) i ks[i] (List.getElem?_eq_getElem hil), List.getD_eq_getElem?_getD, List.getElem?_eq_getElem hil]; rfl
    have hat := join_at (5, [44]) (ts.map kt) ((5, [41]) :: r) ks (q + 2) b4
    have hgd : ∀ i n, ks[i]? = some n → ks.getD i GNode.zero = n := fun i n hn => by rw [List.getD_eq_getElem?_getD, hn]; rfl
    have hkid : ∀ i n, ks[i]? = some n → ∃ R', (ts.map kt).drop (stK (q + 2) ks i) = toksN n ++ R' ∧ (ts.map kt).drop (stK (q + 2) ks i + (toksN n).length) = R' ∧ closes R' ∧ (i + 1 < ks.length → ∃ R2, R' = (5, [44]) :: R2) ∧ (i + 1 = ks.length → R' = (5, [41]) :: r) := fun i n hn => by
      obtain ⟨R', r1, r2, r3⟩ := hat i n hn
      refine ⟨R', r1, drop_more r1, ?_, r2, r3⟩
      have hi := (List.getElem?_eq_some_iff.1 hn).1
      by_cases hl : i + 1 = ks.length
      · rw [r3 hl]; exact .inr ⟨r, .inr rfl⟩
      · obtain ⟨R2, e⟩ := r2 (by omega)
        rw [e]; exact .inr ⟨R2, .inl rfl⟩
    have hjl := join_len (5, [44]) ks (q + 2) h0
    have el : q + ((3, nm.data.toList) :: (5, [40]) :: (joinT (5, [44]) (ks.map toksN) ++ [(5, [41])]) : List (Int × Str)).length = stOf q (fun i => stK (q + 2) ks i + (toksN (ks.getD i GNode.zero)).length) ks.length := by
      rw [hlast, hjl]; simp; omega
    rw [el]
    have key := parse_call hp3 nm.data.toList (by omega) ks hks h0 (fun i => stK (q + 2) ks i + (toksN (ks.getD i GNode.zero)).length) b1 a3 ?_ ?_ ?_ ?_ ?_
    · rw [bs_back] at key; exact key
    · refine ⟨?_, fun i hi => ?_⟩
      · rw [hlast]
        obtain ⟨i, hi⟩ : ∃ i, ks.length = i + 1 := ⟨ks.length - 1, by omega⟩
        have hn : ks[i]? = some ks[i] := List.getElem?_eq_getElem (by omega)
        obtain ⟨R', r1, r2, r3, r4, r5⟩ := hkid i _ hn
        rw [r5 hi.symm] at r2
        have := few_at hp3 r2
        have e := stK_succ ks (q + 2) i _ hn
        rw [hi]
        omega
      · have hn : ks[i]? = some ks[i] := List.getElem?_eq_getElem hi
        obtain ⟨R', r1, r2, r3, r4, r5⟩ := hkid i _ hn
        rw [hst i _ hn]
        obtain ⟨k, t, rr, hh, _⟩ := toks_head (hR ks[i] (List.getElem_mem hi))
        rw [hh] at r1
        have := few_at hp3 r1
        omega
    · intro i hi
      have hn : ks[i]? = some ks[i] := List.getElem?_eq_getElem hi
      obtain ⟨R', r1, r2, r3, r4, r5⟩ := hkid i _ hn
      rw [hst i _ hn]
      obtain ⟨k, t, rr, hh, hh2, _⟩ := toks_head (hR ks[i] (List.getElem_mem hi))
      rw [hh] at r1
      obtain ⟨_, t2, t3, _⟩ := tk_at (r := rr ++ R') r1
      rw [t2, t3]; exact hh2
    · obtain ⟨i, hi⟩ : ∃ i, ks.length = i + 1 := ⟨ks.length - 1, by omega⟩
      have hn : ks[i]? = some ks[i] := List.getElem?_eq_getElem (by omega)
      obtain ⟨R', r1, r2, r3, r4, r5⟩ := hkid i _ hn
      have hi1 : ks.length - 1 = i := by omega
      rw [hi1]
      show stK (q + 2) ks i + (toksN (ks.getD i GNode.zero)).length < _ ∧ tkKind ts (stK (q + 2) ks i + (toksN (ks.getD i GNode.zero)).length) = 5 ∧ tkText ts (stK (q + 2) ks i + (toksN (ks.getD i GNode.zero)).length) = [41]
      rw [hgd i _ hn]
      rw [r5 hi.symm] at r2
      obtain ⟨t1, t2, t3, _⟩ := tk_at r2
      exact ⟨t1, t2, t3⟩
    · intro i hi
      have hn : ks[i]? = some ks[i] := List.getElem?_eq_getElem (by omega)
      obtain ⟨R', r1, r2, r3, r4, r5⟩ := hkid i _ hn
      show stK (q + 2) ks i + (toksN (ks.getD i GNode.zero)).length < _ ∧ tkKind ts (stK (q + 2) ks i + (toksN (ks.getD i GNode.zero)).length) = 5 ∧ tkText ts (stK (q + 2) ks i + (toksN (ks.getD i GNode.zero)).length) = [44]
      rw [hgd i _ hn]
      obtain ⟨R2, e2⟩ := r4 hi
      rw [e2] at r2
      obtain ⟨t1, t2, t3, _⟩ := tk_at r2
      exact ⟨t1, t2, t3⟩
    · intro i n hn w4 c4
      obtain ⟨R', r1, r2, r3, r4, r5⟩ := hkid i _ hn
      have hmem : n ∈ ks := List.mem_of_getElem? hn
      rw [hst i n hn] at c4
      show Reads _ _ p (stK (q + 2) ks i + (toksN (ks.getD i GNode.zero)).length) n w4
      rw [hgd i n hn]
      have hp4 := hp3.to c4
      have hG4 := hG3.to h8 c4
      have hle : stK (q + 2) ks i + (toksN n).length ≤ 1000 := by
        have hi := (List.getElem?_eq_some_iff.1 hn).1
        by_cases hl : i + 1 = ks.length
        · rw [r5 hl] at r2; have := few_at hp3 r2; omega
        · obtain ⟨R2, e2⟩ := r4 (by omega)
          rw [e2] at r2; have := few_at hp3 r2; omega
      exact pairs_zero n _ hle r2 r3 w4 hp4 fun w5 c5 => ih n hmem w5 _ R' (hp4.bel c5) (hG4.bel c5) r1 r3.follow
  · have hk0 : ks = [] := List.eq_nil_of_length_eq_zero (by omega)
    subst hk0
    have d2 : (ts.map kt).drop (q + 2) = (5, [41]) :: r := by simpa [joinT] using b4
    obtain ⟨t1, t2, t3, _⟩ := tk_at d2
    have key := parse_call_none hp3 nm.data.toList (by omega) t1 a3 t2 t3
    rw [bs_back] at key
    exact key

theorem reads_node (h8 : 8 ≤ p) (N : Nat) : ∀ n : GNode, nsz n ≤ N → rightR n = true → intsN n → MinusReads p g cap fin sheet bad ts n := by
  induction N with
  | zero => intro n hN; exfalso; have := nsz_pos n; omega
  | succ N ih =>
    intro n hN hr hi
    obtain ⟨⟨i0, i1⟩, hi2⟩ := (intsN_eq n).1 hi
    have hI := (intsL_all _).1 hi2
    have hk : ∀ k ∈ n.kids, rightR k = true → MinusReads p g cap fin sheet bad ts k := fun k hk hr => by
      obtain ⟨i, hi, rfl⟩ := List.mem_iff_getElem.1 hk
      exact ih _ (by have := nsz_kid n i hi; omega) hr (hI _ hk)
    rcases canon hr with ⟨e, h1⟩ | ⟨e, h1⟩ | ⟨e, h1⟩ | ⟨a, e, h1⟩ | ⟨a, b, e, h1, h2, h3⟩ | ⟨e, h1, h2, h3⟩ | e
    · rw [e]; exact reads_const _ h1 i0 i1
    · rw [e]; exact reads_cell _ h1
    · rw [e]; exact reads_range _ _ h1
    · have ha : a ∈ n.kids := by rw [e]; show a ∈ [a]; simp
      rw [e]; exact reads_neg h8 a (okTop_right h1 (hI a ha)) (hk a ha h1)
    · have ha : a ∈ n.kids := by rw [e]; show a ∈ [a, b]; simp
      have hb : b ∈ n.kids := by rw [e]; show b ∈ [a, b]; simp
      rw [e]; exact reads_pair h8 _ h1 a b (hk a ha h2) (hk b hb h3)
    · rw [e]; exact reads_call h8 _ h1 _ h2 h3 (fun k hm => hk k hm (h3 k hm))
    · rw [e]; exact reads_lost

end Go.Proofs.YtckalplhaggaoaaGreatDoor
