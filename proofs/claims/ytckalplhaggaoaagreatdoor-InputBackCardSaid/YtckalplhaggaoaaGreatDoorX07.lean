/- Towards InputBack: what is shown as input is read back as it was, for every entry and every text; no condition. Part 7 of 28. -/
import Derived.Test.YtckalplhaggaoaaGreatDoorX06
import Derived.Test.YtckalplhaggaoaaGreatDoorX02
set_option linter.unusedVariables false
set_option linter.unusedSimpArgs false
namespace Go.Proofs.YtckalplhaggaoaaGreatDoor
open Go.RowKit

theorem ext_bs {s : ByteArray} {a : Nat} {d r : Str} (h : s.data.toList.drop a = d ++ r) : s.extract a (a + d.length) = bs d := by
  apply toList_inj
  rw [ext_toList, h, Lib.toList_data]
  simp [bs]
theorem digit_not {c : UInt8} (h : digitc c = true) : greatc c = false ∧ smallc c = false ∧ ((c.toNat : Int) == 34) = false := by
  simp [digitc] at h
  refine ⟨?_, ?_, ?_⟩
  · simp [greatc]; omega
  · simp [smallc]; omega
  · rw [beq_eq_false_iff_ne]; omega
theorem great_not {c : UInt8} (h : greatc c = true) : digitc c = false ∧ smallc c = false ∧ ((c.toNat : Int) == 34) = false := by
  simp [greatc] at h
  refine ⟨?_, ?_, ?_⟩
  · simp [digitc]; omega
  · simp [smallc]; omega
  · rw [beq_eq_false_iff_ne]; omega
theorem small_not {c : UInt8} (h : smallc c = true) : digitc c = false ∧ greatc c = false ∧ ((c.toNat : Int) == 34) = false := by
  simp [smallc] at h
  refine ⟨?_, ?_, ?_⟩
  · simp [digitc]; omega
  · simp [greatc]; omega
  · rw [beq_eq_false_iff_ne]; omega
theorem sign_not {c : UInt8} (h : c ∈ signs) : digitc c = false ∧ greatc c = false ∧ smallc c = false ∧ ((c.toNat : Int) == 34) = false := by
  simp [signs] at h
  rcases h with h | h | h | h | h | h | h | h | h | h | h | h | h <;> subst h <;> decide
theorem sign2_mem {x y : UInt8} (h : isSign2 [x, y] = true) : x ∈ signs := by
  simp [isSign2] at h
  rcases h with (h | h) | h <;> rw [h.1] <;> decide

set_option maxHeartbeats 4000000 in
set_option maxRecDepth 100000 in
theorem token_next_num (s : ByteArray) (a : Nat) (hs : s.size ≤ 300) (d r : Str) (hd : d ≠ []) (hall : d.all digitc = true) (hr : ∀ c r', r = c :: r' → digitc c = false) (h : s.data.toList.drop a = d ++ r) (ha : a ≤ s.size) (w : World) :
    Calls Tryz.prog 58 #[.string s, .int .i64 (a : Int)] w fun e w' => e = .returned (.tuple #[.agg #[.int .i64 1, .int .i64 (a : Int), .string (bs d)], .int .i64 ((a + d.length : Nat) : Int), .bool true]) ∧ Bel w w' := by
  obtain ⟨f1, f2, f3⟩ := run_facts h ha hall hr
  have hx := Lib.hid (ext_bs h)
  have hdl : 0 < d.length := List.length_pos_iff.2 hd
  have has : a < s.size := by omega
  have hal : (a : Int) < s.size := by omega
  have hc := f2 a has (Nat.le_refl _) (by omega)
  obtain ⟨n1, n2, n3⟩ := digit_not hc
  have HR := Lib.hid (fun w1 => token_run1 s a (a + d.length) (by omega) f1 (by omega) f2 f3 w1)
  have H0 := Lib.hid (fun w1 => token_digit s[a] w1)
  rw [hc] at H0
  have hlen : (a + d.length : Nat) ≤ s.size := f1
  have hlt2 : (a : Int) < ((a + d.length : Nat) : Int) := by omega
  have hle2 : ((a + d.length : Nat) : Int) ≤ s.size := by omega
  clear f1 f2 f3 hr hall hd h hc n1 n2 n3
  generalize a + d.length = k at *
  go_enter Tryz.func58, Tryz.ntmps58
  go_wp2_with (first
    | (go_at_call 80; refine (H0.out _).mono ?_; rintro e' w1 ⟨rfl, hw1⟩; rw [hw1]; clear hw1)
    | (go_at_call 81; refine (HR.out _).mono ?_; rintro e' w1 ⟨rfl, hw1⟩; rw [hw1]; clear hw1))
  exact bodyPost_ret (v := .tuple #[.agg #[.int .i64 1, .int .i64 (a : Int), .string (s.extract a k)], .int .i64 (k), .bool true]) (by simp [results, Tryz.results58, go_sem]) rfl ⟨by rw [hx.out], by (repeat (first | exact Below.refl _ _ | with_reducible assumption | refine bel_ext ?_ _ _ | refine bel_alloc ?_ _ | refine bel_drew ?_ | refine bel_drewN ?_ _ | refine bel_set ?_ (by simp; try omega) _))⟩

set_option maxHeartbeats 4000000 in
set_option maxRecDepth 100000 in
theorem token_next_word (s : ByteArray) (a : Nat) (hs : s.size ≤ 300) (d r : Str) (hd : d ≠ []) (hall : d.all (fun c => greatc c || digitc c) = true) (hfirst : ∀ c d', d = c :: d' → greatc c = true) (hr : ∀ c r', r = c :: r' → (greatc c || digitc c) = false) (h : s.data.toList.drop a = d ++ r) (ha : a ≤ s.size) (w : World) :
    Calls Tryz.prog 58 #[.string s, .int .i64 (a : Int)] w fun e w' => e = .returned (.tuple #[.agg #[.int .i64 3, .int .i64 (a : Int), .string (bs d)], .int .i64 ((a + d.length : Nat) : Int), .bool true]) ∧ Bel w w' := by
  obtain ⟨f1, f2, f3⟩ := run_facts h ha hall hr
  have hx := Lib.hid (ext_bs h)
  have hdl : 0 < d.length := List.length_pos_iff.2 hd
  have has : a < s.size := by omega
  have hal : (a : Int) < s.size := by omega
  have hc : greatc s[a] = true := by
    cases d with
    | nil => exact absurd rfl hd
    | cons c d' =>
      obtain ⟨_, hg⟩ := at_get (r := d' ++ r) h
      rw [hg]; exact hfirst c d' rfl
  obtain ⟨n1, n2, n3⟩ := great_not hc
  have HR := Lib.hid (fun w1 => token_run2 s a (a + d.length) (by omega) f1 (by omega) f2 f3 w1)
  have H0 := Lib.hid (fun w1 => token_digit s[a] w1)
  rw [n1] at H0
  have H1 := Lib.hid (fun w1 => token_great s[a] w1)
  rw [hc] at H1
  have hlen : (a + d.length : Nat) ≤ s.size := f1
  have hlt2 : (a : Int) < ((a + d.length : Nat) : Int) := by omega
  have hle2 : ((a + d.length : Nat) : Int) ≤ s.size := by omega
  clear f1 f2 f3 hr hall hd h hc n1 n2 n3 hfirst
  generalize a + d.length = k at *
  go_enter Tryz.func58, Tryz.ntmps58
  go_wp2_with (first
    | (go_at_call 80; refine (H0.out _).mono ?_; rintro e' w1 ⟨rfl, hw1⟩; rw [hw1]; clear hw1)
    | (go_at_call 82; refine (H1.out _).mono ?_; rintro e' w1 ⟨rfl, hw1⟩; rw [hw1]; clear hw1)
    | (go_at_call 81; refine (HR.out _).mono ?_; rintro e' w1 ⟨rfl, hw1⟩; rw [hw1]; clear hw1))
  exact bodyPost_ret (v := .tuple #[.agg #[.int .i64 3, .int .i64 (a : Int), .string (s.extract a k)], .int .i64 (k), .bool true]) (by simp [results, Tryz.results58, go_sem]) rfl ⟨by rw [hx.out], by (repeat (first | exact Below.refl _ _ | with_reducible assumption | refine bel_ext ?_ _ _ | refine bel_alloc ?_ _ | refine bel_drew ?_ | refine bel_drewN ?_ _ | refine bel_set ?_ (by simp; try omega) _))⟩

set_option maxHeartbeats 4000000 in
set_option maxRecDepth 100000 in
theorem token_next_name (s : ByteArray) (a : Nat) (hs : s.size ≤ 300) (d r : Str) (hd : d ≠ []) (hall : d.all (fun c => smallc c || digitc c) = true) (hfirst : ∀ c d', d = c :: d' → smallc c = true) (hr : ∀ c r', r = c :: r' → (smallc c || digitc c) = false) (h : s.data.toList.drop a = d ++ r) (ha : a ≤ s.size) (w : World) :
    Calls Tryz.prog 58 #[.string s, .int .i64 (a : Int)] w fun e w' => e = .returned (.tuple #[.agg #[.int .i64 4, .int .i64 (a : Int), .string (bs d)], .int .i64 ((a + d.length : Nat) : Int), .bool true]) ∧ Bel w w' := by
  obtain ⟨f1, f2, f3⟩ := run_facts h ha hall hr
  have hx := Lib.hid (ext_bs h)
  have hdl : 0 < d.length := List.length_pos_iff.2 hd
  have has : a < s.size := by omega
  have hal : (a : Int) < s.size := by omega
  have hc : smallc s[a] = true := by
    cases d with
    | nil => exact absurd rfl hd
    | cons c d' =>
      obtain ⟨_, hg⟩ := at_get (r := d' ++ r) h
      rw [hg]; exact hfirst c d' rfl
  obtain ⟨n1, n2, n3⟩ := small_not hc
  have HR := Lib.hid (fun w1 => token_run3 s a (a + d.length) (by omega) f1 (by omega) f2 f3 w1)
  have H0 := Lib.hid (fun w1 => token_digit s[a] w1)
  rw [n1] at H0
  have H1 := Lib.hid (fun w1 => token_great s[a] w1)
  rw [n2] at H1
  have H2 := Lib.hid (fun w1 => token_small s[a] w1)
  rw [hc] at H2
  have hlen : (a + d.length : Nat) ≤ s.size := f1
  have hlt2 : (a : Int) < ((a + d.length : Nat) : Int) := by omega
  have hle2 : ((a + d.length : Nat) : Int) ≤ s.size := by omega
  clear f1 f2 f3 hr hall hd h hc n1 n2 n3 hfirst
  generalize a + d.length = k at *
  go_enter Tryz.func58, Tryz.ntmps58
  go_wp2_with (first
    | (go_at_call 80; refine (H0.out _).mono ?_; rintro e' w1 ⟨rfl, hw1⟩; rw [hw1]; clear hw1)
    | (go_at_call 82; refine (H1.out _).mono ?_; rintro e' w1 ⟨rfl, hw1⟩; rw [hw1]; clear hw1)
    | (go_at_call 84; refine (H2.out _).mono ?_; rintro e' w1 ⟨rfl, hw1⟩; rw [hw1]; clear hw1)
    | (go_at_call 81; refine (HR.out _).mono ?_; rintro e' w1 ⟨rfl, hw1⟩; rw [hw1]; clear hw1))
  exact bodyPost_ret (v := .tuple #[.agg #[.int .i64 4, .int .i64 (a : Int), .string (s.extract a k)], .int .i64 (k), .bool true]) (by simp [results, Tryz.results58, go_sem]) rfl ⟨by rw [hx.out], by (repeat (first | exact Below.refl _ _ | with_reducible assumption | refine bel_ext ?_ _ _ | refine bel_alloc ?_ _ | refine bel_drew ?_ | refine bel_drewN ?_ _ | refine bel_set ?_ (by simp; try omega) _))⟩

set_option maxHeartbeats 4000000 in
set_option maxRecDepth 100000 in
theorem token_next_text (s : ByteArray) (a : Nat) (hs : s.size ≤ 300) (t r : Str) (hr : ∀ r', r ≠ 34 :: r') (h : s.data.toList.drop a = 34 :: (dbl t ++ 34 :: r)) (w : World) :
    Calls Tryz.prog 58 #[.string s, .int .i64 (a : Int)] w fun e w' => e = .returned (.tuple #[.agg #[.int .i64 2, .int .i64 (a : Int), .string (bs t)], .int .i64 ((s.size : Int) - r.length), .bool true]) ∧ Bel w w' := by
  obtain ⟨has, hg⟩ := at_get h
  have hal : (a : Int) < s.size := by omega
  have HQ := Lib.hid (fun w1 => token_quoted s a hs t r h hr w1)
  have H0 := Lib.hid (fun w1 => token_digit s[a] w1)
  have H1 := Lib.hid (fun w1 => token_great s[a] w1)
  have H2 := Lib.hid (fun w1 => token_small s[a] w1)
  rw [show digitc s[a] = false by rw [hg]; rfl] at H0
  rw [show greatc s[a] = false by rw [hg]; rfl] at H1
  rw [show smallc s[a] = false by rw [hg]; rfl] at H2
  have hc : ((s[a].toNat : Int) == 34) = true := by rw [hg]; rfl
  clear hg h hr
  go_enter Tryz.func58, Tryz.ntmps58
  go_wp2_with (first
    | (go_at_call 80; refine (H0.out _).mono ?_; rintro e' w1 ⟨rfl, hw1⟩; rw [hw1]; clear hw1)
    | (go_at_call 82; refine (H1.out _).mono ?_; rintro e' w1 ⟨rfl, hw1⟩; rw [hw1]; clear hw1)
    | (go_at_call 84; refine (H2.out _).mono ?_; rintro e' w1 ⟨rfl, hw1⟩; rw [hw1]; clear hw1)
    | (go_at_call 86; refine (HQ.out _).mono ?_; rintro e' w' ⟨rfl, hb'⟩; obtain ⟨d', o', rfl⟩ := hb'.ext; clear hb'))
  exact bodyPost_ret (v := .tuple #[.agg #[.int .i64 2, .int .i64 (a : Int), .string (bs t)], .int .i64 ((s.size : Int) - r.length), .bool true]) (by simp [results, Tryz.results58, go_sem]) rfl ⟨by rfl, by (repeat (first | exact Below.refl _ _ | with_reducible assumption | refine bel_ext ?_ _ _ | refine bel_alloc ?_ _ | refine bel_drew ?_ | refine bel_drewN ?_ _ | refine bel_set ?_ (by simp; try omega) _))⟩

set_option maxHeartbeats 4000000 in
set_option maxRecDepth 100000 in
theorem token_next_sign (s : ByteArray) (a n : Nat) (hs : s.size ≤ 300) (d r : Str) (x : UInt8) (d' : Str) (hd : d = x :: d') (hx : x ∈ signs) (h : s.data.toList.drop a = d ++ r) (hn : d.length = n)
    (HS : ∀ w1, Calls Tryz.prog 87 #[.string s, .int .i64 (a : Int)] w1 fun e w' => e = .returned (.int .i64 ((a : Int) + n)) ∧ w' = w1) (w : World) :
    Calls Tryz.prog 58 #[.string s, .int .i64 (a : Int)] w fun e w' => e = .returned (.tuple #[.agg #[.int .i64 5, .int .i64 (a : Int), .string (bs d)], .int .i64 ((a + d.length : Nat) : Int), .bool true]) ∧ Bel w w' := by
  have h' := h
  rw [hd] at h'
  obtain ⟨has, hg⟩ := at_get (r := d' ++ r) h'
  have hl := at_len h (by omega)
  rw [List.length_append] at hl
  have hn1 : 1 ≤ n := by rw [← hn, hd]; simp
  have hal : (a : Int) < s.size := by omega
  have han : (a : Int) + n ≤ s.size := by omega
  obtain ⟨n0, n1, n2, n3⟩ := sign_not hx
  have H3 := Lib.hid HS
  have H0 := Lib.hid (fun w1 => token_digit s[a] w1)
  have H1 := Lib.hid (fun w1 => token_great s[a] w1)
  have H2 := Lib.hid (fun w1 => token_small s[a] w1)
  rw [hg, n0, ← hg] at H0
  rw [hg, n1, ← hg] at H1
  rw [hg, n2, ← hg] at H2
  rw [← hg] at n3
  have hx2 := Lib.hid (ext_bs h)
  rw [hn] at hx2 ⊢
  clear hg h hl n0 n1 n2 h' HS hx hn hd
  obtain ⟨k, hk⟩ : ∃ k : Nat, k = a + n := ⟨_, rfl⟩
  have hk2 : (a : Int) + n = k := by omega
  rw [hk2] at H3 han
  rw [← hk] at hx2 ⊢
  have hlt2 : (a : Int) < k := by omega
  clear hk hk2
  go_enter Tryz.func58, Tryz.ntmps58
  go_wp2_with (first
    | (go_at_call 80; refine (H0.out _).mono ?_; rintro e' w1 ⟨rfl, hw1⟩; rw [hw1]; clear hw1)
    | (go_at_call 82; refine (H1.out _).mono ?_; rintro e' w1 ⟨rfl, hw1⟩; rw [hw1]; clear hw1)
    | (go_at_call 84; refine (H2.out _).mono ?_; rintro e' w1 ⟨rfl, hw1⟩; rw [hw1]; clear hw1)
    | (go_at_call 87; refine (H3.out _).mono ?_; rintro e' w1 ⟨rfl, hw1⟩; rw [hw1]; clear hw1))
  exact bodyPost_ret (v := .tuple #[.agg #[.int .i64 5, .int .i64 (a : Int), .string (s.extract a k)], .int .i64 (k), .bool true]) (by simp [results, Tryz.results58, go_sem]) rfl ⟨by rw [hx2.out], by (repeat (first | exact Below.refl _ _ | with_reducible assumption | refine bel_ext ?_ _ _ | refine bel_alloc ?_ _ | refine bel_drew ?_ | refine bel_drewN ?_ _ | refine bel_set ?_ (by simp; try omega) _))⟩

/-- The token at a place. -/
theorem token_next (s : ByteArray) (a : Nat) (hs : s.size ≤ 300) (k : Int) (l t r : Str) (h : TokAt l k t r) (hL : s.data.toList.drop a = l) (ha : a ≤ s.size) (w : World) :
    Calls Tryz.prog 58 #[.string s, .int .i64 (a : Int)] w fun e w' => e = .returned (.tuple #[.agg #[.int .i64 k, .int .i64 (a : Int), .string (bs t)], .int .i64 ((s.size : Int) - r.length), .bool true]) ∧ Bel w w' := by
  have conv : ∀ d : Str, s.data.toList.drop a = d ++ r → (((a + d.length : Nat) : Int) = (s.size : Int) - r.length) := fun d hd => by
    have := at_len hd ha
    rw [List.length_append] at this; omega
  cases h with
  | num d r hd hall hr => rw [← conv _ hL]; exact token_next_num s a hs t r hd hall hr hL ha w
  | word c d r hc hall hr =>
    have e : s.data.toList.drop a = (c :: d) ++ r := by rw [hL]
    rw [← conv _ e]
    exact token_next_word s a hs (c :: d) r (by simp) (by simp [hc]; simpa using hall) (fun c' d' h => by injection h with h1 h2; rw [← h1]; exact hc) hr e ha w
  | name c d r hc hall hr =>
    have e : s.data.toList.drop a = (c :: d) ++ r := by rw [hL]
    rw [← conv _ e]
    exact token_next_name s a hs (c :: d) r (by simp) (by simp [hc]; simpa using hall) (fun c' d' h => by injection h with h1 h2; rw [← h1]; exact hc) hr e ha w
  | text t r hr => exact token_next_text s a hs t r hr hL w
  | sign2 x y r h2 =>
    rw [← conv _ hL]
    exact token_next_sign s a 2 hs [x, y] r x [y] rfl (sign2_mem h2) hL rfl (fun w1 => token_sign2 s a (by omega) x y r hL ha h2 w1) w
  | sign1 x r hx h2 =>
    rw [← conv _ hL]
    exact token_next_sign s a 1 hs [x] r x [] rfl hx hL rfl (fun w1 => token_sign1 s a (by omega) x r hL ha hx h2 w1) w

end Go.Proofs.YtckalplhaggaoaaGreatDoor

namespace Go.Proofs.YtckalplhaggaoaaGreatDoor
open Go.RowKit

set_option maxHeartbeats 1600000 in
theorem tree_own (a b : GNode) (s t : Value) (w : World) :
    Calls Tryz.prog 65 #[nodeV a s, nodeV b t] w fun e w' => e = .returned (.bool (eqOwn a b)) ∧ Bel w w' := by
  unfold nodeV
  go_enter Tryz.func65, Tryz.ntmps65
  go_wp2
  all_goals (go_ret; refine ⟨ret_bool ?_, by (repeat (first | exact Below.refl _ _ | with_reducible assumption | refine bel_ext ?_ _ _ | refine bel_alloc ?_ _ | refine bel_drew ?_ | refine bel_drewN ?_ _ | refine bel_set ?_ (by simp; try omega) _))⟩; go_tidy; simp_all [eqOwn])

set_option maxHeartbeats 400000 in
theorem tree_Range (n : GNode) (s : Value) (w : World) :
    Calls Tryz.prog 93 #[nodeV n s] w fun e w' => e = .returned (.agg #[.string n.cell.sheet, .int .i64 n.cell.col, .int .i64 n.cell.row, .string n.to.sheet, .int .i64 n.to.col, .int .i64 n.to.row]) ∧ Bel w w' := by
  unfold nodeV
  go_enter Tryz.func93, Tryz.ntmps93
  go_wp2
  exact bodyPost_ret (v := .agg #[.string n.cell.sheet, .int .i64 n.cell.col, .int .i64 n.cell.row, .string n.to.sheet, .int .i64 n.to.col, .int .i64 n.to.row]) (by simp [results, Tryz.results93, go_sem]) rfl ⟨rfl, by (repeat (first | exact Below.refl _ _ | with_reducible assumption | refine bel_ext ?_ _ _ | refine bel_alloc ?_ _ | refine bel_drew ?_ | refine bel_drewN ?_ _ | refine bel_set ?_ (by simp; try omega) _))⟩

set_option maxHeartbeats 400000 in
theorem tree_constant (v : GVal) (w : World) :
    Calls Tryz.prog 91 #[.agg #[.int .i64 v.kind, .int .i64 v.n, .string v.s]] w fun e w' => e = .returned (.bool (constV v)) ∧ Bel w w' := by
  go_enter Tryz.func91, Tryz.ntmps91
  go_wp2_with (go_at_call 31; refine (value_Right v _).mono ?_; rintro e' w' ⟨rfl, hb'⟩; obtain ⟨d', o', rfl⟩ := hb'.ext; clear hb')
  all_goals (go_ret; refine ⟨ret_bool ?_, by (repeat (first | exact Below.refl _ _ | with_reducible assumption | refine bel_ext ?_ _ _ | refine bel_alloc ?_ _ | refine bel_drew ?_ | refine bel_drewN ?_ _ | refine bel_set ?_ (by simp; try omega) _))⟩; go_tidy; first | (simp_all [constV]; done) | (rw [Bool.eq_iff_iff]; simp_all [constV]; done) | (rw [Bool.eq_iff_iff]; simp_all [constV]; trace_state; omega))

set_option maxHeartbeats 800000 in
theorem tree_Call (s : ByteArray) (hs : s.size ≤ 9223372036854775807) (w : World) :
    Calls Tryz.prog 95 #[.string s] w fun e w' => e = .returned (.bool (callB s)) ∧ w' = w := by
  by_cases h0 : 0 < s.size
  case neg =>
    have h1 : s.toList = [] := toList_nil (by omega)
    have h1b : s.toList.isEmpty = true := by simpa using h1
    have hc : Hid (callB s = false) := by show _ = false; simp [callB, h1b]
    go_enter Tryz.func95, Tryz.ntmps95
    go_wp2
    go_ret
    exact ⟨ret_bool hc.out.symm, rfl⟩
  have h1 : ¬ s.toList = [] := toList_ne h0
  have h1b : s.toList.isEmpty = false := by simpa using h1
  by_cases h2 : (s.size : Int) ≤ 8
  case neg =>
    have hc : Hid (callB s = false) := by show _ = false; simp only [callB, h1b, decide_eq_false h2]; simp
    go_enter Tryz.func95, Tryz.ntmps95
    go_wp2
    go_ret
    exact ⟨ret_bool hc.out.symm, rfl⟩
  by_cases h3 : (s.toList == [84, 82, 85, 69]) = true
  case pos =>
    have hc : Hid (callB s = false) := by show _ = false; simp [callB, h3]
    go_enter Tryz.func95, Tryz.ntmps95
    go_wp2
    go_ret
    exact ⟨ret_bool hc.out.symm, rfl⟩
  by_cases h4 : (s.toList == [70, 65, 76, 83, 69]) = true
  case pos =>
    have hc : Hid (callB s = false) := by show _ = false; simp [callB, h4]
    go_enter Tryz.func95, Tryz.ntmps95
    go_wp2
    go_ret
    exact ⟨ret_bool hc.out.symm, rfl⟩
  have h3' : (s.toList == [84, 82, 85, 69]) = false := by simpa using h3
  have h4' : (s.toList == [70, 65, 76, 83, 69]) = false := by simpa using h4
  have hn : Hid (callB s = s.data.toList.all greatc) := by show _ = _; simp only [callB, h1b, h3', h4', decide_eq_true h2]; simp
  clear h3 h4
  go_enter Tryz.func95, Tryz.ntmps95
  go_wp2
  go_loop [21] (fun t => ∃ k : Nat, k ≤ s.size ∧ t = .int .i64 k ∧ Hid (allTo greatc s k = true)) (fun t => s.size - (intOf t).toNat)
  case atStart => exact ⟨0, Nat.zero_le _, rfl, allTo_zero _ _⟩
  case round =>
    obtain ⟨k, hk, rfl, hall⟩ := hrel
    by_cases hlt : k < s.size
    · have hstep := Lib.hid (allTo_succ greatc s k hlt)
      by_cases hc : greatc s[k] = true
      · have hc' : 65 ≤ (s[k].toNat : Int) ∧ (s[k].toNat : Int) ≤ 90 := by simpa [greatc] using hc
        have H : Hid (allTo greatc s (k + 1) = true) := by
          show _ = true
          rw [hstep.out, hall.out]; simpa using hc
        clear hstep hc
        obtain ⟨a1, a2⟩ := hc'
        go_wp2
        go_round
        case rel => exact ⟨k + 1, by omega, by go_num, H⟩
        case measure => simp [intOf]; omega
      · have hf : Hid (callB s = false) := by
          show _ = false
          rw [hn.out, all_false s k hlt (by simpa using hc)]
        have hc' : (s[k].toNat : Int) < 65 ∨ 90 < (s[k].toNat : Int) := by
          simp [greatc] at hc; omega
        clear hstep hc
        rcases hc' with a1 | a1
        all_goals (go_wp2; go_ret; exact ⟨ret_bool hf.out.symm, rfl⟩)
    · go_wp2
      go_ret
      refine ⟨ret_bool ?_, rfl⟩
      obtain rfl : k = s.size := by omega
      have := hall.out
      rw [allTo_size] at this
      rw [hn.out, this]

def onlyV (n : GNode) (s : Value) : Value := nodeV (onlyN n) (if n.kind = 4 ∨ n.kind = 5 ∨ n.kind = 6 then s else .slice none 0 0)
theorem onlyV_1 {n : GNode} {s : Value} (h : n.kind = 1) : onlyV n s = .agg #[.int .i64 n.kind, .string ⟨#[]⟩, .string ⟨#[]⟩, .int .i64 n.val.kind, .int .i64 n.val.n, .string n.val.s, .string ⟨#[]⟩, .int .i64 0, .int .i64 0, .string ⟨#[]⟩, .int .i64 0, .int .i64 0, .slice none 0 0] := by simp [onlyV, nodeV, onlyN, h, GNode.zero, GCell.zero]
theorem onlyV_2 {n : GNode} {s : Value} (h : n.kind = 2) : onlyV n s = .agg #[.int .i64 n.kind, .string ⟨#[]⟩, .string ⟨#[]⟩, .int .i64 0, .int .i64 0, .string ⟨#[]⟩, .string n.cell.sheet, .int .i64 n.cell.col, .int .i64 n.cell.row, .string ⟨#[]⟩, .int .i64 0, .int .i64 0, .slice none 0 0] := by simp [onlyV, nodeV, onlyN, h, GNode.zero, GCell.zero, GVal.zero]
theorem onlyV_3 {n : GNode} {s : Value} (h : n.kind = 3) : onlyV n s = .agg #[.int .i64 n.kind, .string ⟨#[]⟩, .string ⟨#[]⟩, .int .i64 0, .int .i64 0, .string ⟨#[]⟩, .string n.cell.sheet, .int .i64 n.cell.col, .int .i64 n.cell.row, .string n.to.sheet, .int .i64 n.to.col, .int .i64 n.to.row, .slice none 0 0] := by simp [onlyV, nodeV, onlyN, h, GNode.zero, GVal.zero]
theorem onlyV_45 {n : GNode} {s : Value} (h : n.kind = 4 ∨ n.kind = 5) : onlyV n s = .agg #[.int .i64 n.kind, .string n.op, .string ⟨#[]⟩, .int .i64 0, .int .i64 0, .string ⟨#[]⟩, .string ⟨#[]⟩, .int .i64 0, .int .i64 0, .string ⟨#[]⟩, .int .i64 0, .int .i64 0, s] := by
  rcases h with h | h <;> simp [onlyV, nodeV, onlyN, h, GNode.zero, GCell.zero, GVal.zero]
theorem onlyV_6 {n : GNode} {s : Value} (h : n.kind = 6) : onlyV n s = .agg #[.int .i64 n.kind, .string ⟨#[]⟩, .string n.name, .int .i64 0, .int .i64 0, .string ⟨#[]⟩, .string ⟨#[]⟩, .int .i64 0, .int .i64 0, .string ⟨#[]⟩, .int .i64 0, .int .i64 0, s] := by simp [onlyV, nodeV, onlyN, h, GNode.zero, GCell.zero, GVal.zero]
theorem onlyV_0 {n : GNode} {s : Value} (h1 : n.kind ≠ 1) (h2 : n.kind ≠ 2) (h3 : n.kind ≠ 3) (h4 : n.kind ≠ 4) (h5 : n.kind ≠ 5) (h6 : n.kind ≠ 6) : onlyV n s = .agg #[.int .i64 n.kind, .string ⟨#[]⟩, .string ⟨#[]⟩, .int .i64 0, .int .i64 0, .string ⟨#[]⟩, .string ⟨#[]⟩, .int .i64 0, .int .i64 0, .string ⟨#[]⟩, .int .i64 0, .int .i64 0, .slice none 0 0] := by simp [onlyV, nodeV, onlyN, h1, h2, h3, h4, h5, h6, GNode.zero, GCell.zero, GVal.zero]

set_option maxHeartbeats 4000000 in
set_option maxRecDepth 100000 in
theorem tree_only (n : GNode) (w : World) (A : Option Addr) (k c : Nat) :
    Calls Tryz.prog 66 #[nodeV n (.slice A k c)] w fun e w' => e = .returned (onlyV n (.slice A k c)) ∧ Bel w w' := by
  unfold nodeV
  go_enter Tryz.func66, Tryz.ntmps66
  go_wp2
  all_goals (try go_region)
  all_goals (try go_wp2)
  all_goals (
    refine bodyPost_ret (v := onlyV n (.slice A k c)) ?_ rfl ⟨rfl, by (repeat (first | exact Below.refl _ _ | with_reducible assumption | refine bel_ext ?_ _ _ | refine bel_alloc ?_ _ | refine bel_drew ?_ | refine bel_drewN ?_ _ | refine bel_set ?_ (by simp; try omega) _))⟩
    first
      | (have h : n.kind = 1 := by simpa using ‹(n.kind == 1) = true›
         rw [onlyV_1 h]; simp [results, Tryz.results66, go_sem]; done)
      | (have h : n.kind = 2 := by simpa using ‹(n.kind == 2) = true›
         rw [onlyV_2 h]; simp [results, Tryz.results66, go_sem]; done)
      | (have h : n.kind = 3 := by simpa using ‹(n.kind == 3) = true›
         rw [onlyV_3 h]; simp [results, Tryz.results66, go_sem]; done)
      | (have h : n.kind = 4 := by simpa using ‹(n.kind == 4) = true›
         rw [onlyV_45 (.inl h)]; simp [results, Tryz.results66, go_sem]; done)
      | (have h : n.kind = 5 := by simpa using ‹(n.kind == 5) = true›
         rw [onlyV_45 (.inr h)]; simp [results, Tryz.results66, go_sem]; done)
      | (have h : n.kind = 6 := by simpa using ‹(n.kind == 6) = true›
         rw [onlyV_6 h]; simp [results, Tryz.results66, go_sem]; done)
      | (rw [onlyV_0 (by simpa using ‹(n.kind == 1) = false›) (by simpa using ‹(n.kind == 2) = false›) (by simpa using ‹(n.kind == 3) = false›) (by simpa using ‹(n.kind == 4) = false›) (by simpa using ‹(n.kind == 5) = false›) (by simpa using ‹(n.kind == 6) = false›)]
         simp [results, Tryz.results66, go_sem]; done))

end Go.Proofs.YtckalplhaggaoaaGreatDoor
