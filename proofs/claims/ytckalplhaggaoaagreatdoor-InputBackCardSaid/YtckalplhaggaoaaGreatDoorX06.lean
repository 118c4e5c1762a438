/- Towards InputBack: what is shown as input is read back as it was, for every entry and every text; no condition. Part 6 of 28. -/
import Derived.Test.YtckalplhaggaoaaGreatDoorX02
import Derived.Test.YtckalplhaggaoaaGreatDoorX05
set_option linter.unusedVariables false
set_option linter.unusedSimpArgs false
namespace Go.Proofs.YtckalplhaggaoaaGreatDoor
open Go.RowKit

set_option maxHeartbeats 400000 in
theorem token_digit (c : UInt8) (w : World) : Calls Tryz.prog 80 #[.int .u8 (c.toNat : Int)] w fun e w' => e = .returned (.bool (digitc c)) ∧ w' = w := by
  go_enter Tryz.func80, Tryz.ntmps80
  go_wp2
  all_goals (go_ret; refine ⟨ret_bool ?_, rfl⟩; go_tidy; first | (simp_all [digitc]; done) | (simp_all [digitc]; omega))
set_option maxHeartbeats 400000 in
theorem token_great (c : UInt8) (w : World) : Calls Tryz.prog 82 #[.int .u8 (c.toNat : Int)] w fun e w' => e = .returned (.bool (greatc c)) ∧ w' = w := by
  go_enter Tryz.func82, Tryz.ntmps82
  go_wp2
  all_goals (go_ret; refine ⟨ret_bool ?_, rfl⟩; go_tidy; first | (simp_all [greatc]; done) | (simp_all [greatc]; omega))
set_option maxHeartbeats 400000 in
theorem token_small (c : UInt8) (w : World) : Calls Tryz.prog 84 #[.int .u8 (c.toNat : Int)] w fun e w' => e = .returned (.bool (smallc c)) ∧ w' = w := by
  go_enter Tryz.func84, Tryz.ntmps84
  go_wp2
  all_goals (go_ret; refine ⟨ret_bool ?_, rfl⟩; go_tidy; first | (simp_all [smallc]; done) | (simp_all [smallc]; omega))
set_option maxHeartbeats 400000 in
theorem token_next1 (c : UInt8) (w : World) : Calls Tryz.prog 83 #[.int .u8 (c.toNat : Int)] w fun e w' => e = .returned (.bool (greatc c || digitc c)) ∧ w' = w := by
  have h1 := Lib.hid (fun w1 => token_great c w1)
  have h2 := Lib.hid (fun w1 => token_digit c w1)
  go_enter Tryz.func83, Tryz.ntmps83
  go_wp2_with (first
    | (go_at_call 82; refine (h1.out _).mono ?_; rintro e' w1 ⟨rfl, hw1⟩; rw [hw1]; clear hw1)
    | (go_at_call 80; refine (h2.out _).mono ?_; rintro e' w1 ⟨rfl, hw1⟩; rw [hw1]; clear hw1))
  all_goals (go_ret; refine ⟨ret_bool ?_, rfl⟩; go_tidy; clear h1 h2; simp_all)
set_option maxHeartbeats 400000 in
theorem token_next2 (c : UInt8) (w : World) : Calls Tryz.prog 85 #[.int .u8 (c.toNat : Int)] w fun e w' => e = .returned (.bool (smallc c || digitc c)) ∧ w' = w := by
  have h1 := Lib.hid (fun w1 => token_small c w1)
  have h2 := Lib.hid (fun w1 => token_digit c w1)
  go_enter Tryz.func85, Tryz.ntmps85
  go_wp2_with (first
    | (go_at_call 84; refine (h1.out _).mono ?_; rintro e' w1 ⟨rfl, hw1⟩; rw [hw1]; clear hw1)
    | (go_at_call 80; refine (h2.out _).mono ?_; rintro e' w1 ⟨rfl, hw1⟩; rw [hw1]; clear hw1))
  all_goals (go_ret; refine ⟨ret_bool ?_, rfl⟩; go_tidy; clear h1 h2; simp_all)

set_option maxHeartbeats 1600000 in
theorem token_run1 (s : ByteArray) (a k : Nat) (ha : a ≤ k) (hk : k ≤ s.size) (hs : s.size ≤ 1000) (hall : ∀ j (h : j < s.size), a ≤ j → j < k → digitc s[j] = true) (hend : ∀ h : k < s.size, digitc s[k] = false) (w : World) :
    Calls Tryz.prog 81 #[.string s, .int .i64 (a : Int), .func (.func 80) #[] #[]] w fun e w' => e = .returned (.int .i64 (k : Int)) ∧ w' = w := by
  have HA := Lib.hid hall
  have HE := Lib.hid hend
  clear hall hend
  go_enter Tryz.func81, Tryz.ntmps81
  go_wp2
  go_loop [1] (fun t => ∃ j : Nat, a ≤ j ∧ j ≤ k ∧ t = .int .i64 j) (fun t => k - (intOf t).toNat)
  case atStart => exact ⟨a, Nat.le_refl _, ha, rfl⟩
  case round =>
    obtain ⟨j, hj1, hj2, rfl⟩ := hrel
    by_cases hlt : j < k
    · have hjs : j < s.size := by omega
      have hl : (j : Int) < s.size := by omega
      have hd := token_digit s[j] w
      rw [HA.out j hjs hj1 hlt] at hd
      have HD := Lib.hid hd
      clear hd
      go_wp2_with (go_at_call 80; refine HD.out.mono ?_; rintro e' w1 ⟨rfl, hw1⟩; rw [hw1]; clear hw1)
      go_round
      case rel => exact ⟨j + 1, by omega, by omega, by go_num⟩
      case measure => simp [intOf]; omega
    · obtain rfl : j = k := by omega
      by_cases hjs : j < s.size
      · have hl : (j : Int) < s.size := by omega
        have hd := token_digit s[j] w
        rw [HE.out hjs] at hd
        have HD := Lib.hid hd
        clear hd
        go_wp2_with (go_at_call 80; refine HD.out.mono ?_; rintro e' w1 ⟨rfl, hw1⟩; rw [hw1]; clear hw1)
        go_ret
        exact ⟨rfl, rfl⟩
      · have hl : ¬ (j : Int) < s.size := by omega
        go_wp2
        go_ret
        exact ⟨rfl, rfl⟩

set_option maxHeartbeats 1600000 in
theorem token_run2 (s : ByteArray) (a k : Nat) (ha : a ≤ k) (hk : k ≤ s.size) (hs : s.size ≤ 1000) (hall : ∀ j (h : j < s.size), a ≤ j → j < k → (greatc s[j] || digitc s[j]) = true) (hend : ∀ h : k < s.size, (greatc s[k] || digitc s[k]) = false) (w : World) :
    Calls Tryz.prog 81 #[.string s, .int .i64 (a : Int), .func (.func 83) #[] #[]] w fun e w' => e = .returned (.int .i64 (k : Int)) ∧ w' = w := by
  have HA := Lib.hid hall
  have HE := Lib.hid hend
  clear hall hend
  go_enter Tryz.func81, Tryz.ntmps81
  go_wp2
  go_loop [1] (fun t => ∃ j : Nat, a ≤ j ∧ j ≤ k ∧ t = .int .i64 j) (fun t => k - (intOf t).toNat)
  case atStart => exact ⟨a, Nat.le_refl _, ha, rfl⟩
  case round =>
    obtain ⟨j, hj1, hj2, rfl⟩ := hrel
    by_cases hlt : j < k
    · have hjs : j < s.size := by omega
      have hl : (j : Int) < s.size := by omega
      have hd := token_next1 s[j] w
      rw [HA.out j hjs hj1 hlt] at hd
      have HD := Lib.hid hd
      clear hd
      go_wp2_with (go_at_call 83; refine HD.out.mono ?_; rintro e' w1 ⟨rfl, hw1⟩; rw [hw1]; clear hw1)
      go_round
      case rel => exact ⟨j + 1, by omega, by omega, by go_num⟩
      case measure => simp [intOf]; omega
    · obtain rfl : j = k := by omega
      by_cases hjs : j < s.size
      · have hl : (j : Int) < s.size := by omega
        have hd := token_next1 s[j] w
        rw [HE.out hjs] at hd
        have HD := Lib.hid hd
        clear hd
        go_wp2_with (go_at_call 83; refine HD.out.mono ?_; rintro e' w1 ⟨rfl, hw1⟩; rw [hw1]; clear hw1)
        go_ret
        exact ⟨rfl, rfl⟩
      · have hl : ¬ (j : Int) < s.size := by omega
        go_wp2
        go_ret
        exact ⟨rfl, rfl⟩

set_option maxHeartbeats 1600000 in
theorem token_run3 (s : ByteArray) (a k : Nat) (ha : a ≤ k) (hk : k ≤ s.size) (hs : s.size ≤ 1000) (hall : ∀ j (h : j < s.size), a ≤ j → j < k → (smallc s[j] || digitc s[j]) = true) (hend : ∀ h : k < s.size, (smallc s[k] || digitc s[k]) = false) (w : World) :
    Calls Tryz.prog 81 #[.string s, .int .i64 (a : Int), .func (.func 85) #[] #[]] w fun e w' => e = .returned (.int .i64 (k : Int)) ∧ w' = w := by
  have HA := Lib.hid hall
  have HE := Lib.hid hend
  clear hall hend
  go_enter Tryz.func81, Tryz.ntmps81
  go_wp2
  go_loop [1] (fun t => ∃ j : Nat, a ≤ j ∧ j ≤ k ∧ t = .int .i64 j) (fun t => k - (intOf t).toNat)
  case atStart => exact ⟨a, Nat.le_refl _, ha, rfl⟩
  case round =>
    obtain ⟨j, hj1, hj2, rfl⟩ := hrel
    by_cases hlt : j < k
    · have hjs : j < s.size := by omega
      have hl : (j : Int) < s.size := by omega
      have hd := token_next2 s[j] w
      rw [HA.out j hjs hj1 hlt] at hd
      have HD := Lib.hid hd
      clear hd
      go_wp2_with (go_at_call 85; refine HD.out.mono ?_; rintro e' w1 ⟨rfl, hw1⟩; rw [hw1]; clear hw1)
      go_round
      case rel => exact ⟨j + 1, by omega, by omega, by go_num⟩
      case measure => simp [intOf]; omega
    · obtain rfl : j = k := by omega
      by_cases hjs : j < s.size
      · have hl : (j : Int) < s.size := by omega
        have hd := token_next2 s[j] w
        rw [HE.out hjs] at hd
        have HD := Lib.hid hd
        clear hd
        go_wp2_with (go_at_call 85; refine HD.out.mono ?_; rintro e' w1 ⟨rfl, hw1⟩; rw [hw1]; clear hw1)
        go_ret
        exact ⟨rfl, rfl⟩
      · have hl : ¬ (j : Int) < s.size := by omega
        go_wp2
        go_ret
        exact ⟨rfl, rfl⟩

end Go.Proofs.YtckalplhaggaoaaGreatDoor

namespace Go.Proofs.YtckalplhaggaoaaGreatDoor
open Go.RowKit

/-! ### Plain -/
def two1 (l : Str) : Bool := l == [60, 62]
def isSign2 (l : Str) : Bool := l == [60, 62] || l == [60, 61] || l == [62, 61]
def signs : Str := [43, 45, 42, 47, 38, 61, 60, 62, 40, 41, 44, 58, 33]
inductive TokAt : Str → Int → Str → Str → Prop
  | num (d r : Str) (hd : d ≠ []) (ha : d.all digitc = true) (hr : ∀ c r', r = c :: r' → digitc c = false) : TokAt (d ++ r) 1 d r
  | word (c : UInt8) (d r : Str) (hc : greatc c = true) (ha : d.all (fun c => greatc c || digitc c) = true) (hr : ∀ c r', r = c :: r' → (greatc c || digitc c) = false) : TokAt (c :: d ++ r) 3 (c :: d) r
  | name (c : UInt8) (d r : Str) (hc : smallc c = true) (ha : d.all (fun c => smallc c || digitc c) = true) (hr : ∀ c r', r = c :: r' → (smallc c || digitc c) = false) : TokAt (c :: d ++ r) 4 (c :: d) r
  | text (t r : Str) (hr : ∀ r', r ≠ 34 :: r') : TokAt (34 :: (dbl t ++ 34 :: r)) 2 t r
  | sign2 (x y : UInt8) (r : Str) (h : isSign2 [x, y] = true) : TokAt ([x, y] ++ r) 5 [x, y] r
  | sign1 (x : UInt8) (r : Str) (h : x ∈ signs) (h2 : isSign2 ((x :: r).take 2) = false) : TokAt ([x] ++ r) 5 [x] r

theorem at_get {s : ByteArray} {a : Nat} {c : UInt8} {r : Str} (h : s.data.toList.drop a = c :: r) : ∃ h : a < s.size, s[a] = c := by
  have h1 : a < s.data.toList.length := by
    by_cases hlt : a < s.data.toList.length
    · exact hlt
    · rw [List.drop_eq_nil_of_le (by omega)] at h; cases h
  refine ⟨by rw [len_data] at h1; exact h1, ?_⟩
  have h2 : s.data.toList[a]? = some c := by
    have := List.getElem?_drop (xs := s.data.toList) (i := a) (j := 0)
    rw [h] at this
    simpa using this.symm
  rw [List.getElem?_eq_getElem h1] at h2
  have h3 : s.data[a]'(by rw [len_data] at h1; exact h1) = c := by simpa using h2
  exact h3
theorem at_next {s : ByteArray} {a : Nat} {c : UInt8} {r : Str} (h : s.data.toList.drop a = c :: r) : s.data.toList.drop (a + 1) = r := by
  have := List.drop_drop (l := s.data.toList) (i := 1) (j := a)
  rw [h] at this
  simpa using this.symm
theorem at_skip {s : ByteArray} {a : Nat} {d r : Str} (h : s.data.toList.drop a = d ++ r) : s.data.toList.drop (a + d.length) = r := by
  have := List.drop_drop (l := s.data.toList) (i := d.length) (j := a)
  rw [h] at this
  simpa using this.symm
theorem at_len {s : ByteArray} {a : Nat} {d : Str} (h : s.data.toList.drop a = d) (ha : a ≤ s.size) : a + d.length = s.size := by
  have := congrArg List.length h
  rw [List.length_drop, len_data] at this
  omega
theorem ext_list (s : ByteArray) (a b : Nat) : (s.extract a b).data.toList = (s.data.toList.drop a).take (b - a) := by
  simp [ByteArray.extract, ByteArray.copySlice]
theorem ext_toList (s : ByteArray) (a b : Nat) : (s.extract a b).toList = (s.data.toList.drop a).take (b - a) := by
  rw [Lib.toList_data, ext_list]
theorem run_facts {s : ByteArray} {a : Nat} {d r : Str} {p : UInt8 → Bool} (h : s.data.toList.drop a = d ++ r) (ha0 : a ≤ s.size) (ha : d.all p = true) (hr : ∀ c r', r = c :: r' → p c = false) :
    a + d.length ≤ s.size ∧ (∀ j (h : j < s.size), a ≤ j → j < a + d.length → p s[j] = true) ∧ (∀ h : a + d.length < s.size, p s[a + d.length] = false) := by
  have hl := at_len h ha0
  rw [List.length_append] at hl
  refine ⟨by omega, fun j hj h1 h2 => ?_, fun hlt => ?_⟩
  · have e : s.data.toList[j]? = d[j - a]? := by
      have := List.getElem?_drop (xs := s.data.toList) (i := a) (j := j - a)
      rw [h, List.getElem?_append_left (by omega)] at this
      rw [this]; congr 1; omega
    have hq : s.data.toList[j]? = some s[j] := by rw [List.getElem?_eq_getElem (by rw [len_data]; exact hj)]; rfl
    rw [hq] at e
    exact List.all_eq_true.1 ha _ (List.mem_of_getElem? e.symm)
  · have h3 := at_skip h
    cases r with
    | nil => simp at hl; omega
    | cons c r' =>
      obtain ⟨_, h4⟩ := at_get h3
      rw [h4]; exact hr c r' rfl

/-! ### Walks -/
set_option maxHeartbeats 1600000 in
set_option maxRecDepth 100000 in
theorem token_sign2 (s : ByteArray) (a : Nat) (hs : s.size ≤ 1000) (x y : UInt8) (r : Str) (h : s.data.toList.drop a = [x, y] ++ r) (ha : a ≤ s.size) (h2 : isSign2 [x, y] = true) (w : World) :
    Calls Tryz.prog 87 #[.string s, .int .i64 (a : Int)] w fun e w' => e = .returned (.int .i64 ((a : Int) + 2)) ∧ w' = w := by
  have hl := at_len h ha
  simp at hl
  have hb : (a : Int) + 2 ≤ s.size := by omega
  have hx : (s.extract a (a + 2)).toList = [x, y] := by rw [ext_toList, h]; simp
  have H2 := Lib.hid h2
  have HX := Lib.hid hx
  clear h2 hx h hl
  go_enter Tryz.func87, Tryz.ntmps87
  go_wp2
  all_goals first
    | (go_ret; exact ⟨rfl, rfl⟩)
    | (exfalso; go_tidy; have h1 := H2.out; have h2 := HX.out; clear H2 HX; simp only [isSign2, Bool.or_eq_true, beq_iff_eq] at h1; simp_all; done)
    | (exfalso; go_tidy; have h1 := H2.out; have h2 := HX.out; clear H2 HX; simp only [isSign2, Bool.or_eq_true, beq_iff_eq] at h1; rcases h1 with (h1 | h1) | h1 <;> simp_all)

theorem idx_sign (x : UInt8) : (0 ≤ Lib.indexByte signs x) = (x ∈ signs) := by
  have : ∀ l : Str, (0 ≤ Lib.indexByte l x) ↔ x ∈ l := fun l => by
    induction l with
    | nil => simp [Lib.indexByte]
    | cons c r ih =>
      unfold Lib.indexByte
      have hge := Lib.indexByte_ge r x
      split
      · rename_i hc
        have : c = x := by simpa using hc
        simp [this]
      · rename_i hc
        have hne : ¬ x = c := fun e => hc (by simp [e])
        simp only [List.mem_cons, hne, false_or, ← ih]
        split
        · rename_i h1
          have : Lib.indexByte r x = -1 := by simpa using h1
          omega
        · rename_i h1
          have : ¬ Lib.indexByte r x = -1 := by simpa using h1
          omega
  exact propext (this signs)

set_option maxHeartbeats 1600000 in
set_option maxRecDepth 100000 in
theorem token_sign1 (s : ByteArray) (a : Nat) (hs : s.size ≤ 1000) (x : UInt8) (r : Str) (h : s.data.toList.drop a = [x] ++ r) (ha : a ≤ s.size) (hx : x ∈ signs) (h2 : isSign2 ((x :: r).take 2) = false) (w : World) :
    Calls Tryz.prog 87 #[.string s, .int .i64 (a : Int)] w fun e w' => e = .returned (.int .i64 ((a : Int) + 1)) ∧ w' = w := by
  have hl := at_len h ha
  simp at hl
  obtain ⟨hlt, hg⟩ := at_get (r := r) h
  have hlt' : (a : Int) < s.size := by omega
  have hI := Tryz.strings_IndexByte ⟨#[43, 45, 42, 47, 38, 61, 60, 62, 40, 41, 44, 58, 33]⟩ (s[a].toNat : Int) w
  have hu : ((s[a].toNat : Int)).toNat.toUInt8 = x := by rw [hg]; simp
  rw [hu] at hI
  have hge : 0 ≤ Lib.indexByte (⟨#[43, 45, 42, 47, 38, 61, 60, 62, 40, 41, 44, 58, 33]⟩ : ByteArray).data.toList x := by
    show 0 ≤ Lib.indexByte signs x
    rw [idx_sign]; exact hx
  generalize Lib.indexByte (⟨#[43, 45, 42, 47, 38, 61, 60, 62, 40, 41, 44, 58, 33]⟩ : ByteArray).data.toList x = I at *
  have hX : (s.extract a (a + 2)).toList = (x :: r).take 2 := by rw [ext_toList, h]; simp
  have hs3 : ((x :: r).take 2 == [60, 62]) = false ∧ ((x :: r).take 2 == [60, 61]) = false ∧ ((x :: r).take 2 == [62, 61]) = false := by
    simp only [isSign2, Bool.or_eq_false_iff] at h2; exact ⟨h2.1.1, h2.1.2, h2.2⟩
  rw [← hX] at hs3
  obtain ⟨e1, e2, e3⟩ := hs3
  have HI := Lib.hid hI
  clear hI hu hX h2 hx h hl hg
  by_cases hb : (a : Int) + 2 ≤ s.size
  · go_enter Tryz.func87, Tryz.ntmps87
    go_wp2_with (go_at_call 109; refine HI.out.mono ?_; rintro e' w1 ⟨rfl, hw1⟩; rw [hw1]; clear hw1)
    go_ret
    exact ⟨rfl, rfl⟩
  · clear e1 e2 e3
    go_enter Tryz.func87, Tryz.ntmps87
    go_wp2_with (go_at_call 109; refine HI.out.mono ?_; rintro e' w1 ⟨rfl, hw1⟩; rw [hw1]; clear hw1)
    go_ret
    exact ⟨rfl, rfl⟩

end Go.Proofs.YtckalplhaggaoaaGreatDoor

namespace Go.Proofs.YtckalplhaggaoaaGreatDoor
open Go.RowKit

theorem dbl_ge (t : Str) : t.length ≤ (dbl t).length := by
  induction t with
  | nil => simp
  | cons c r ih => rw [dbl]; split <;> simp <;> omega
theorem dbl_cons (c : UInt8) (v : Str) : dbl (c :: v) = if c = 34 then 34 :: 34 :: dbl v else c :: dbl v := rfl

set_option maxHeartbeats 4000000 in
set_option maxRecDepth 100000 in
theorem token_quoted (s : ByteArray) (a : Nat) (hs : s.size ≤ 300) (t r : Str) (h : s.data.toList.drop a = 34 :: (dbl t ++ 34 :: r)) (hr : ∀ r', r ≠ 34 :: r') (w : World) :
    Calls Tryz.prog 86 #[.string s, .int .i64 (a : Int)] w fun e w' => e = .returned (.tuple #[.string (bs t), .int .i64 ((s.size : Int) - r.length), .bool true]) ∧ Bel w w' := by
  have ha : a < s.size := (at_get h).1
  have h1 := Lib.hid (at_next h)
  have Hr := Lib.hid hr
  have ht : Hid (t.length ≤ 300) := by
    show _ ≤ _
    have := at_len h1.out (by omega)
    have h2 := dbl_ge t
    rw [List.length_append] at this; omega
  clear h hr
  go_enter Tryz.func86, Tryz.ntmps86
  go_wp2
  have hB0 : Lib.IsBuilder 97 5 w.heap.size w.heap.size (Lib.byteCells []) (w.alloc (.cells #[.pointer none, .slice none 0 0] 97)) := by
    refine .inl ⟨Nat.le_refl _, .slice none 0 0, ?_, World.ownsRow_nil _ _ _ _, by simp [Value.ownBlock]⟩
    show (w.heap.push _)[w.heap.size]? = _
    simp
  go_loopw [1] (fun q wr => ∃ (j : Nat) (u v : Str), j ≤ s.size ∧ q = .int .i64 j ∧ Hid (s.data.toList.drop j = dbl v ++ 34 :: r) ∧ Hid (t = u ++ v) ∧ Lib.IsBuilder 97 5 w.heap.size w.heap.size (Lib.byteCells u) wr ∧ Below w.heap.size w wr) (fun q _ => s.size - (intOf q).toNat)
  case atStart => exact ⟨a + 1, [], t, by omega, by go_num, h1, rfl, hB0, by (repeat (first | exact Below.refl _ _ | with_reducible assumption | refine bel_ext ?_ _ _ | refine bel_alloc ?_ _ | refine bel_drew ?_ | refine bel_drewN ?_ _ | refine bel_set ?_ (by simp; try omega) _))⟩
  case round =>
    obtain ⟨j, u, v, hj, rfl, hd, hu, hbd, hb⟩ := hrel
    have hbs := hb.size
    have hul : u.length ≤ 1000 := by
      have h1 := ht.out; have h2 := congrArg List.length hu.out
      rw [List.length_append] at h2; omega
    cases v with
    | nil =>
      obtain ⟨hjs, hg⟩ := at_get (r := r) hd.out
      have hn := at_next (r := r) hd.out
      have hl := at_len hn (by omega)
      have hjl : (j : Int) < s.size := by omega
      have hc : (s[j].toNat : Int) = 34 := by rw [hg]; rfl
      have hv : Hid (bs u = bs t) := by show _ = _; rw [hu.out, List.append_nil]
      have he : Hid ((s.size : Int) - r.length = (j : Int) + 1) := by show _ = _; omega
      have HS := Lib.hid (fun w1 h1 h2 => Builder_String w.heap.size w.heap.size u w1 h1 h2)
      by_cases hr0 : j + 1 < s.size
      · have hj2 : (j : Int) + 1 < s.size := by omega
        have hne : ((s[j + 1].toNat : Int) != 34) = true := by
          rw [bne_iff_ne]
          intro e
          obtain ⟨c, r', hr'⟩ : ∃ c r', r = c :: r' := by
            cases r with
            | nil => simp at hl; omega
            | cons c r' => exact ⟨c, r', rfl⟩
          subst hr'
          obtain ⟨_, hg2⟩ := at_get hn
          rw [hg2] at e
          have : c = 34 := by
            apply UInt8.toNat_inj.1
            have : (34 : UInt8).toNat = 34 := rfl
            omega
          exact Hr.out r' (by rw [this])
        clear hg hn hl hd
        go_wp2_with (go_at_call 73; refine (HS.out _ hbd hbs).mono ?_; rintro e' w' ⟨rfl, hb'⟩)
        exact bodyPost_ret (v := .tuple #[.string (bs u), .int .i64 ((j : Int) + 1), .bool true]) (by simp [results, Tryz.results86, go_sem]) rfl ⟨by rw [hv.out, he.out], hb.trans hb'⟩
      · have hj2 : (j : Int) + 1 = s.size := by omega
        have hje : ((j : Int) + 1 == s.size) = true := by simpa using hj2
        clear hg hn hl hd hr0 hj2
        go_wp2_with (go_at_call 73; refine (HS.out _ hbd hbs).mono ?_; rintro e' w' ⟨rfl, hb'⟩)
        exact bodyPost_ret (v := .tuple #[.string (bs u), .int .i64 ((j : Int) + 1), .bool true]) (by simp [results, Tryz.results86, go_sem]) rfl ⟨by rw [hv.out, he.out], hb.trans hb'⟩
    | cons c v' =>
      have hd' := hd.out
      rw [dbl_cons] at hd'
      have hu2 : Hid (t = (u ++ [c]) ++ v') := by show _ = _; rw [hu.out]; simp
      by_cases hc34 : c = 34
      · subst hc34
        rw [if_pos rfl] at hd'
        obtain ⟨hjs, hg⟩ := at_get (r := 34 :: (dbl v' ++ 34 :: r)) hd'
        have hn := at_next (r := 34 :: (dbl v' ++ 34 :: r)) hd'
        obtain ⟨hjs2, hg2⟩ := at_get hn
        have hn2 := Lib.hid (at_next hn)
        have hjl : (j : Int) < s.size := by omega
        have hj2 : (j : Int) + 1 < s.size := by omega
        have hc : (s[j].toNat : Int) = 34 := by rw [hg]; rfl
        have hne : ((s[j + 1].toNat : Int) != 34) = false := by rw [hg2]; rfl
        have hje : ((j : Int) + 1 == s.size) = false := by rw [beq_eq_false_iff_ne]; omega
        have HW := Lib.hid (fun w1 h1 h2 => Builder_WriteByte w.heap.size w.heap.size u 34 w1 h1 hul h2)
        have e34 : (((34 : UInt8).toNat : Nat) : Int) = 34 := rfl
        rw [e34] at HW
        clear hg hn hd hg2 hd' e34
        go_wp2_with (go_at_call 108; refine (HW.out _ hbd hbs).mono ?_; rintro e' w' ⟨rfl, hbd', hb'⟩)
        go_roundw
        case rel => exact ⟨j + 2, u ++ [34], v', by omega, by go_num, hn2, hu2, hbd', hb.trans hb'⟩
        case measure => simp [intOf]; omega
      · rw [if_neg hc34] at hd'
        obtain ⟨hjs, hg⟩ := at_get (r := dbl v' ++ 34 :: r) hd'
        have hn := Lib.hid (at_next (r := dbl v' ++ 34 :: r) hd')
        have hjl : (j : Int) < s.size := by omega
        have hc : ((s[j].toNat : Int) != 34) = true := by
          rw [bne_iff_ne]
          intro e
          apply hc34
          rw [← hg]
          apply UInt8.toNat_inj.1
          have : (34 : UInt8).toNat = 34 := rfl
          omega
        have HW := Lib.hid (fun w1 h1 h2 => Builder_WriteByte w.heap.size w.heap.size u s[j] w1 h1 hul h2)
        rw [← hg] at hu2
        clear hg hd hd'
        go_wp2_with (go_at_call 108; refine (HW.out _ hbd hbs).mono ?_; rintro e' w' ⟨rfl, hbd', hb'⟩)
        go_roundw
        case rel => exact ⟨j + 1, u ++ [s[j]], v', by omega, by go_num, hn, hu2, hbd', hb.trans hb'⟩
        case measure => simp [intOf]; omega

end Go.Proofs.YtckalplhaggaoaaGreatDoor
