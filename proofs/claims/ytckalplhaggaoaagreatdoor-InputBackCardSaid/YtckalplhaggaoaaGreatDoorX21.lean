/- Towards InputBack: what is shown as input is read back as it was, for every entry and every text; no condition. Part 21 of 28. -/
import Derived.Test.YtckalplhaggaoaaGreatDoorX20
import Derived.Test.YtckalplhaggaoaaGreatDoorX02
import Derived.Deep.RegionWith
set_option linter.unusedVariables false
set_option linter.unusedSimpArgs false
namespace Go.Proofs.YtckalplhaggaoaaGreatDoor
open Go.RowKit

theorem strconv_Atoi_err (s : ByteArray) (hs : s.size ≤ 1000) (h : ∀ v, Lib.atoiAll s.data.toList ≠ .ok v) (w : World) (hG : Gl w) :
    Calls Tryz.prog 35 #[.string s] w fun e w' => ∃ x : Int × Nat, e = .returned (.tuple #[.int .i64 x.1, .iface 103 (.pointer (some ⟨x.2, 0, none⟩))]) ∧ Bel w w' := by
  cases hc : Lib.atoiAll s.data.toList
  · exact absurd hc (h _)
  · obtain ⟨tp, p, hv⟩ := hG.syn
    refine (Tryz.strconv_Atoi_syntax_var s (by omega) hc tp p w hv).mono ?_
    rintro e w' ⟨N, he, _, _, hb⟩
    exact ⟨(0, N), he, hb⟩
  · obtain ⟨tp, p, hv⟩ := hG.ran
    refine (Tryz.strconv_Atoi_range_var s (by omega) hc tp p w hv).mono ?_
    rintro e w' ⟨N, he, _, _, hb⟩
    exact ⟨(Lib.atoiSat s.data.toList, N), he, hb⟩

theorem trim_bs (s : ByteArray) : (⟨(Lib.trimPrefix s.data.toList (⟨#[39]⟩ : ByteArray).data.toList).toArray⟩ : ByteArray) = bs (trimQ s.data.toList) := rfl
theorem text_small (l : Str) (h : l.length ≤ 200) : valV (textV (bs l)) = .agg #[.int .i64 2, .int .i64 0, .string (bs l)] := by
  have : ¬ (200 : Int) < (bs l).size := by rw [bs_size]; omega
  unfold textV
  rw [if_neg this]; rfl

set_option maxHeartbeats 4000000 in
theorem input_constant_nil (s : ByteArray) (hs : s.size = 0) (w : World) (hG : Gl w) :
    Calls Tryz.prog 21 #[.string s] w fun e w' => e = .returned (valV GVal.zero) ∧ Bel w w' := by
  have h1 := toList_nil hs
  have HA := Lib.hid (fun w1 (b : Bel w w1) => strconv_Atoi_err s (by omega) (fun v => by rw [← Lib.toList_data, h1]; intro h; cases h) w1 (hG.bel b))
  clear hG hs
  go_enter Tryz.func21, Tryz.ntmps21
  go_wp2_with (go_at_call 35; refine (HA.out _ (by (repeat (first | exact Below.refl _ _ | with_reducible assumption | refine bel_ext ?_ _ _ | refine bel_alloc ?_ _ | refine bel_drew ?_ | refine bel_drewN ?_ _ | refine bel_set ?_ (by simp; try omega) _)))).mono ?_; rintro e' w' ⟨⟨m, N⟩, rfl, hb'⟩; obtain ⟨d1, o1, rfl⟩ := hb'.ext; clear hb')
  exact bodyPost_ret (v := .agg #[.int .i64 0, .int .i64 0, .string ⟨#[]⟩]) (by simp [results, Tryz.results21, go_sem]) rfl ⟨rfl, by (repeat (first | exact Below.refl _ _ | with_reducible assumption | refine bel_ext ?_ _ _ | refine bel_alloc ?_ _ | refine bel_drew ?_ | refine bel_drewN ?_ _ | refine bel_set ?_ (by simp; try omega) _))⟩

set_option maxHeartbeats 4000000 in
theorem input_constant_int (s : ByteArray) (hs : s.size ≤ 200) (h0 : 0 < s.size) (n : Int) (hn : Lib.atoiAll s.data.toList = .ok n) (hn0 : -9223372036854775808 ≤ n) (hn1 : n ≤ 9223372036854775807) (hi : Lib.itoa n = s.data.toList) (w : World) (hG : Gl w) :
    Calls Tryz.prog 21 #[.string s] w fun e w' => e = .returned (.agg #[.int .i64 1, .int .i64 n, .string ⟨#[]⟩]) ∧ Bel w w' := by
  have h1 := toList_ne h0
  have h1b : s.toList.isEmpty = false := by simpa using h1
  have HA := Lib.hid (fun w1 => strconv_Atoi s (by omega) n hn w1)
  have HI := Lib.hid (fun w1 (b : Bel w w1) => strconv_Itoa n w1 (hG.bel b) hn0 hn1)
  have e : itoaB n = s := by unfold itoaB; rw [hi, bs_back]
  rw [e] at HI
  have hss : (s.toList == s.toList) = true := by simp
  have HX := Lib.hid (fun w1 => arith_Int n w1)
  clear hG hn hn0 hn1 hi e
  go_enter Tryz.func21, Tryz.ntmps21
  go_wp2_with (first
    | (go_at_call 35; refine (HA.out _).mono ?_; rintro e' w' ⟨rfl, hb'⟩; obtain ⟨d1, o1, rfl⟩ := hb'.ext; clear hb')
    | (go_at_call 32; refine (HI.out _ (by (repeat (first | exact Below.refl _ _ | with_reducible assumption | refine bel_ext ?_ _ _ | refine bel_alloc ?_ _ | refine bel_drew ?_ | refine bel_drewN ?_ _ | refine bel_set ?_ (by simp; try omega) _)))).mono ?_; rintro e' w' ⟨rfl, hb'⟩; obtain ⟨d2, o2, rfl⟩ := hb'.ext; clear hb')
    | (go_at_call 36; refine (HX.out _).mono ?_; rintro e' w' ⟨rfl, hb'⟩; obtain ⟨d3, o3, rfl⟩ := hb'.ext; clear hb'))
  exact bodyPost_ret (v := .agg #[.int .i64 1, .int .i64 n, .string ⟨#[]⟩]) (by simp [results, Tryz.results21, go_sem]) rfl ⟨rfl, by (repeat (first | exact Below.refl _ _ | with_reducible assumption | refine bel_ext ?_ _ _ | refine bel_alloc ?_ _ | refine bel_drew ?_ | refine bel_drewN ?_ _ | refine bel_set ?_ (by simp; try omega) _))⟩

set_option maxHeartbeats 4000000 in
theorem input_constant_ok_true (s : ByteArray) (hs : s.size ≤ 200) (h0 : 0 < s.size) (n : Int) (hn : Lib.atoiAll s.data.toList = .ok n) (hn0 : -9223372036854775808 ≤ n) (hn1 : n ≤ 9223372036854775807) (hi : ((itoaB n).toList == s.toList) = false) (x1 : (s.toList == [84, 82, 85, 69]) = true) (w : World) (hG : Gl w) :
    Calls Tryz.prog 21 #[.string s] w fun e w' => e = .returned (.agg #[.int .i64 3, .int .i64 1, .string ⟨#[]⟩]) ∧ Bel w w' := by
  have h1 := toList_ne h0
  have h1b : s.toList.isEmpty = false := by simpa using h1
  have HA := Lib.hid (fun w1 => strconv_Atoi s (by omega) n hn w1)
  have HI := Lib.hid (fun w1 (b : Bel w w1) => strconv_Itoa n w1 (hG.bel b) hn0 hn1)
  have HX := Lib.hid (fun w1 => arith_Bool true w1)
  simp only [if_true] at HX
  clear hG hn hn0 hn1
  go_enter Tryz.func21, Tryz.ntmps21
  go_wp2_with (first
    | (go_at_call 35; refine (HA.out _).mono ?_; rintro e' w' ⟨rfl, hb'⟩; obtain ⟨d1, o1, rfl⟩ := hb'.ext; clear hb')
    | (go_at_call 32; refine (HI.out _ (by (repeat (first | exact Below.refl _ _ | with_reducible assumption | refine bel_ext ?_ _ _ | refine bel_alloc ?_ _ | refine bel_drew ?_ | refine bel_drewN ?_ _ | refine bel_set ?_ (by simp; try omega) _)))).mono ?_; rintro e' w' ⟨rfl, hb'⟩; obtain ⟨d2, o2, rfl⟩ := hb'.ext; clear hb')
    | (go_at_call 37; refine (HX.out _).mono ?_; rintro e' w' ⟨rfl, hb'⟩; obtain ⟨d3, o3, rfl⟩ := hb'.ext; clear hb'))
  exact bodyPost_ret (v := .agg #[.int .i64 3, .int .i64 1, .string ⟨#[]⟩]) (by simp [results, Tryz.results21, go_sem]) rfl ⟨rfl, by (repeat (first | exact Below.refl _ _ | with_reducible assumption | refine bel_ext ?_ _ _ | refine bel_alloc ?_ _ | refine bel_drew ?_ | refine bel_drewN ?_ _ | refine bel_set ?_ (by simp; try omega) _))⟩

set_option maxHeartbeats 4000000 in
theorem input_constant_ok_false (s : ByteArray) (hs : s.size ≤ 200) (h0 : 0 < s.size) (n : Int) (hn : Lib.atoiAll s.data.toList = .ok n) (hn0 : -9223372036854775808 ≤ n) (hn1 : n ≤ 9223372036854775807) (hi : ((itoaB n).toList == s.toList) = false) (x1 : (s.toList == [84, 82, 85, 69]) = false) (x2 : (s.toList == [70, 65, 76, 83, 69]) = true) (w : World) (hG : Gl w) :
    Calls Tryz.prog 21 #[.string s] w fun e w' => e = .returned (.agg #[.int .i64 3, .int .i64 0, .string ⟨#[]⟩]) ∧ Bel w w' := by
  have h1 := toList_ne h0
  have h1b : s.toList.isEmpty = false := by simpa using h1
  have HA := Lib.hid (fun w1 => strconv_Atoi s (by omega) n hn w1)
  have HI := Lib.hid (fun w1 (b : Bel w w1) => strconv_Itoa n w1 (hG.bel b) hn0 hn1)
  have HX := Lib.hid (fun w1 => arith_Bool false w1)
  simp only [Bool.false_eq_true, if_false] at HX
  clear hG hn hn0 hn1
  go_enter Tryz.func21, Tryz.ntmps21
  go_wp2_with (first
    | (go_at_call 35; refine (HA.out _).mono ?_; rintro e' w' ⟨rfl, hb'⟩; obtain ⟨d1, o1, rfl⟩ := hb'.ext; clear hb')
    | (go_at_call 32; refine (HI.out _ (by (repeat (first | exact Below.refl _ _ | with_reducible assumption | refine bel_ext ?_ _ _ | refine bel_alloc ?_ _ | refine bel_drew ?_ | refine bel_drewN ?_ _ | refine bel_set ?_ (by simp; try omega) _)))).mono ?_; rintro e' w' ⟨rfl, hb'⟩; obtain ⟨d2, o2, rfl⟩ := hb'.ext; clear hb')
    | (go_at_call 37; refine (HX.out _).mono ?_; rintro e' w' ⟨rfl, hb'⟩; obtain ⟨d3, o3, rfl⟩ := hb'.ext; clear hb'))
  exact bodyPost_ret (v := .agg #[.int .i64 3, .int .i64 0, .string ⟨#[]⟩]) (by simp [results, Tryz.results21, go_sem]) rfl ⟨rfl, by (repeat (first | exact Below.refl _ _ | with_reducible assumption | refine bel_ext ?_ _ _ | refine bel_alloc ?_ _ | refine bel_drew ?_ | refine bel_drewN ?_ _ | refine bel_set ?_ (by simp; try omega) _))⟩

set_option maxHeartbeats 4000000 in
theorem input_constant_ok_text (s : ByteArray) (hs : s.size ≤ 200) (h0 : 0 < s.size) (n : Int) (hn : Lib.atoiAll s.data.toList = .ok n) (hn0 : -9223372036854775808 ≤ n) (hn1 : n ≤ 9223372036854775807) (hi : ((itoaB n).toList == s.toList) = false) (x1 : (s.toList == [84, 82, 85, 69]) = false) (x2 : (s.toList == [70, 65, 76, 83, 69]) = false) (w : World) (hG : Gl w) :
    Calls Tryz.prog 21 #[.string s] w fun e w' => e = .returned (.agg #[.int .i64 2, .int .i64 0, .string (bs (trimQ s.data.toList))]) ∧ Bel w w' := by
  have h1 := toList_ne h0
  have h1b : s.toList.isEmpty = false := by simpa using h1
  have HA := Lib.hid (fun w1 => strconv_Atoi s (by omega) n hn w1)
  have HI := Lib.hid (fun w1 (b : Bel w w1) => strconv_Itoa n w1 (hG.bel b) hn0 hn1)
  have HT := Lib.hid (fun w1 => Tryz.strings_TrimPrefix s ⟨#[39]⟩ w1)
  rw [trim_bs] at HT
  have HX := Lib.hid (fun w1 => arith_Text (bs (trimQ s.data.toList)) w1)
  have hl := trimQ_len s.data.toList
  have hl2 := len_data s
  rw [text_small _ (by omega)] at HX
  clear hG hn hn0 hn1 hl hl2
  go_enter Tryz.func21, Tryz.ntmps21
  go_wp2_with (first
    | (go_at_call 35; refine (HA.out _).mono ?_; rintro e' w' ⟨rfl, hb'⟩; obtain ⟨d1, o1, rfl⟩ := hb'.ext; clear hb')
    | (go_at_call 32; refine (HI.out _ (by (repeat (first | exact Below.refl _ _ | with_reducible assumption | refine bel_ext ?_ _ _ | refine bel_alloc ?_ _ | refine bel_drew ?_ | refine bel_drewN ?_ _ | refine bel_set ?_ (by simp; try omega) _)))).mono ?_; rintro e' w' ⟨rfl, hb'⟩; obtain ⟨d2, o2, rfl⟩ := hb'.ext; clear hb')
    | (go_at_call 39; refine (HT.out _).mono ?_; rintro e' w1 ⟨rfl, hw1⟩; rw [hw1]; clear hw1)
    | (go_at_call 38; refine (HX.out _).mono ?_; rintro e' w' ⟨rfl, hb'⟩; obtain ⟨d3, o3, rfl⟩ := hb'.ext; clear hb'))
  exact bodyPost_ret (v := .agg #[.int .i64 2, .int .i64 0, .string (bs (trimQ s.data.toList))]) (by simp [results, Tryz.results21, go_sem]) rfl ⟨rfl, by (repeat (first | exact Below.refl _ _ | with_reducible assumption | refine bel_ext ?_ _ _ | refine bel_alloc ?_ _ | refine bel_drew ?_ | refine bel_drewN ?_ _ | refine bel_set ?_ (by simp; try omega) _))⟩

set_option maxHeartbeats 4000000 in
theorem input_constant_err_true (s : ByteArray) (hs : s.size ≤ 200) (h0 : 0 < s.size) (hn : ∀ v, Lib.atoiAll s.data.toList ≠ .ok v) (x1 : (s.toList == [84, 82, 85, 69]) = true) (w : World) (hG : Gl w) :
    Calls Tryz.prog 21 #[.string s] w fun e w' => e = .returned (.agg #[.int .i64 3, .int .i64 1, .string ⟨#[]⟩]) ∧ Bel w w' := by
  have h1 := toList_ne h0
  have h1b : s.toList.isEmpty = false := by simpa using h1
  have HA := Lib.hid (fun w1 (b : Bel w w1) => strconv_Atoi_err s (by omega) hn w1 (hG.bel b))
  have HX := Lib.hid (fun w1 => arith_Bool true w1)
  simp only [if_true] at HX
  clear hG hn
  go_enter Tryz.func21, Tryz.ntmps21
  go_wp2_with (first
    | (go_at_call 35; refine (HA.out _ (by (repeat (first | exact Below.refl _ _ | with_reducible assumption | refine bel_ext ?_ _ _ | refine bel_alloc ?_ _ | refine bel_drew ?_ | refine bel_drewN ?_ _ | refine bel_set ?_ (by simp; try omega) _)))).mono ?_; rintro e' w' ⟨⟨m, N⟩, rfl, hb'⟩; obtain ⟨d1, o1, rfl⟩ := hb'.ext; clear hb')
    | (go_at_call 37; refine (HX.out _).mono ?_; rintro e' w' ⟨rfl, hb'⟩; obtain ⟨d3, o3, rfl⟩ := hb'.ext; clear hb'))
  exact bodyPost_ret (v := .agg #[.int .i64 3, .int .i64 1, .string ⟨#[]⟩]) (by simp [results, Tryz.results21, go_sem]) rfl ⟨rfl, by (repeat (first | exact Below.refl _ _ | with_reducible assumption | refine bel_ext ?_ _ _ | refine bel_alloc ?_ _ | refine bel_drew ?_ | refine bel_drewN ?_ _ | refine bel_set ?_ (by simp; try omega) _))⟩

set_option maxHeartbeats 4000000 in
theorem input_constant_err_false (s : ByteArray) (hs : s.size ≤ 200) (h0 : 0 < s.size) (hn : ∀ v, Lib.atoiAll s.data.toList ≠ .ok v) (x1 : (s.toList == [84, 82, 85, 69]) = false) (x2 : (s.toList == [70, 65, 76, 83, 69]) = true) (w : World) (hG : Gl w) :
    Calls Tryz.prog 21 #[.string s] w fun e w' => e = .returned (.agg #[.int .i64 3, .int .i64 0, .string ⟨#[]⟩]) ∧ Bel w w' := by
  have h1 := toList_ne h0
  have h1b : s.toList.isEmpty = false := by simpa using h1
  have HA := Lib.hid (fun w1 (b : Bel w w1) => strconv_Atoi_err s (by omega) hn w1 (hG.bel b))
  have HX := Lib.hid (fun w1 => arith_Bool false w1)
  simp only [Bool.false_eq_true, if_false] at HX
  clear hG hn
  go_enter Tryz.func21, Tryz.ntmps21
  go_wp2_with (first
    | (go_at_call 35; refine (HA.out _ (by (repeat (first | exact Below.refl _ _ | with_reducible assumption | refine bel_ext ?_ _ _ | refine bel_alloc ?_ _ | refine bel_drew ?_ | refine bel_drewN ?_ _ | refine bel_set ?_ (by simp; try omega) _)))).mono ?_; rintro e' w' ⟨⟨m, N⟩, rfl, hb'⟩; obtain ⟨d1, o1, rfl⟩ := hb'.ext; clear hb')
    | (go_at_call 37; refine (HX.out _).mono ?_; rintro e' w' ⟨rfl, hb'⟩; obtain ⟨d3, o3, rfl⟩ := hb'.ext; clear hb'))
  exact bodyPost_ret (v := .agg #[.int .i64 3, .int .i64 0, .string ⟨#[]⟩]) (by simp [results, Tryz.results21, go_sem]) rfl ⟨rfl, by (repeat (first | exact Below.refl _ _ | with_reducible assumption | refine bel_ext ?_ _ _ | refine bel_alloc ?_ _ | refine bel_drew ?_ | refine bel_drewN ?_ _ | refine bel_set ?_ (by simp; try omega) _))⟩

set_option maxHeartbeats 4000000 in
theorem input_constant_err_text (s : ByteArray) (hs : s.size ≤ 200) (h0 : 0 < s.size) (hn : ∀ v, Lib.atoiAll s.data.toList ≠ .ok v) (x1 : (s.toList == [84, 82, 85, 69]) = false) (x2 : (s.toList == [70, 65, 76, 83, 69]) = false) (w : World) (hG : Gl w) :
    Calls Tryz.prog 21 #[.string s] w fun e w' => e = .returned (.agg #[.int .i64 2, .int .i64 0, .string (bs (trimQ s.data.toList))]) ∧ Bel w w' := by
  have h1 := toList_ne h0
  have h1b : s.toList.isEmpty = false := by simpa using h1
  have HA := Lib.hid (fun w1 (b : Bel w w1) => strconv_Atoi_err s (by omega) hn w1 (hG.bel b))
  have HT := Lib.hid (fun w1 => Tryz.strings_TrimPrefix s ⟨#[39]⟩ w1)
  rw [trim_bs] at HT
  have HX := Lib.hid (fun w1 => arith_Text (bs (trimQ s.data.toList)) w1)
  have hl := trimQ_len s.data.toList
  have hl2 := len_data s
  rw [text_small _ (by omega)] at HX
  clear hG hn hl hl2
  go_enter Tryz.func21, Tryz.ntmps21
  go_wp2_with (first
    | (go_at_call 35; refine (HA.out _ (by (repeat (first | exact Below.refl _ _ | with_reducible assumption | refine bel_ext ?_ _ _ | refine bel_alloc ?_ _ | refine bel_drew ?_ | refine bel_drewN ?_ _ | refine bel_set ?_ (by simp; try omega) _)))).mono ?_; rintro e' w' ⟨⟨m, N⟩, rfl, hb'⟩; obtain ⟨d1, o1, rfl⟩ := hb'.ext; clear hb')
    | (go_at_call 39; refine (HT.out _).mono ?_; rintro e' w1 ⟨rfl, hw1⟩; rw [hw1]; clear hw1)
    | (go_at_call 38; refine (HX.out _).mono ?_; rintro e' w' ⟨rfl, hb'⟩; obtain ⟨d3, o3, rfl⟩ := hb'.ext; clear hb'))
  exact bodyPost_ret (v := .agg #[.int .i64 2, .int .i64 0, .string (bs (trimQ s.data.toList))]) (by simp [results, Tryz.results21, go_sem]) rfl ⟨rfl, by (repeat (first | exact Below.refl _ _ | with_reducible assumption | refine bel_ext ?_ _ _ | refine bel_alloc ?_ _ | refine bel_drew ?_ | refine bel_drewN ?_ _ | refine bel_set ?_ (by simp; try omega) _))⟩

theorem input_constant (s : ByteArray) (hs : s.size ≤ 200) (w : World) (hG : Gl w) :
    Calls Tryz.prog 21 #[.string s] w fun e w' => e = .returned (valV (constI s.data.toList)) ∧ Bel w w' := by
  by_cases h0 : 0 < s.size
  case neg =>
    have h1 := toList_nil (s := s) (by omega)
    rw [Lib.toList_data] at h1
    rw [h1]
    exact input_constant_nil s (by omega) w hG
  have hne : s.data.toList.isEmpty = false := by
    have := toList_ne h0
    rw [Lib.toList_data] at this
    simpa using this
  have rest : ∀ {x : Value} (_ : x = valV (restI s.data.toList)), constI s.data.toList = restI s.data.toList → x = valV (constI s.data.toList) := fun h e => by rw [h, e]
  have hr : (s.toList == [84, 82, 85, 69]) = true ∧ valV (restI s.data.toList) = .agg #[.int .i64 3, .int .i64 1, .string ⟨#[]⟩] ∨ (s.toList == [84, 82, 85, 69]) = false ∧ (s.toList == [70, 65, 76, 83, 69]) = true ∧ valV (restI s.data.toList) = .agg #[.int .i64 3, .int .i64 0, .string ⟨#[]⟩] ∨
      (s.toList == [84, 82, 85, 69]) = false ∧ (s.toList == [70, 65, 76, 83, 69]) = false ∧ valV (restI s.data.toList) = .agg #[.int .i64 2, .int .i64 0, .string (bs (trimQ s.data.toList))] := by
    rw [Lib.toList_data]
    unfold restI
    by_cases a1 : (s.data.toList == [84, 82, 85, 69]) = true
    · rw [if_pos a1]; exact .inl ⟨a1, rfl⟩
    · rw [if_neg a1]
      by_cases a2 : (s.data.toList == [70, 65, 76, 83, 69]) = true
      · rw [if_pos a2]; exact .inr (.inl ⟨by simpa using a1, a2, rfl⟩)
      · rw [if_neg a2]; exact .inr (.inr ⟨by simpa using a1, by simpa using a2, rfl⟩)
  by_cases hex : ∃ n, Lib.atoiAll s.data.toList = .ok n
  · obtain ⟨n, hc⟩ := hex
    have hb := Lib.atoiAll_bounds hc
    by_cases hi : (Lib.itoa n == s.data.toList) = true
    · have e : constI s.data.toList = ⟨1, n, ⟨#[]⟩⟩ := by unfold constI; rw [hne, hc]; simp only [Bool.false_eq_true, if_false]; rw [if_pos hi]
      rw [e]
      exact input_constant_int s hs h0 n hc hb.1 hb.2 (by simpa using hi) w hG
    · have e : constI s.data.toList = restI s.data.toList := by unfold constI; rw [hne, hc]; simp only [Bool.false_eq_true, if_false]; rw [if_neg hi]
      have hi2 : ((itoaB n).toList == s.toList) = false := by
        rw [Lib.toList_data, Lib.toList_data]
        have : (itoaB n).data.toList = Lib.itoa n := by simp [itoaB, bs]
        rw [this]; simpa using hi
      rw [e]
      rcases hr with ⟨a1, a2⟩ | ⟨a1, a2, a3⟩ | ⟨a1, a2, a3⟩
      · rw [a2]; exact input_constant_ok_true s hs h0 n hc hb.1 hb.2 hi2 a1 w hG
      · rw [a3]; exact input_constant_ok_false s hs h0 n hc hb.1 hb.2 hi2 a1 a2 w hG
      · rw [a3]; exact input_constant_ok_text s hs h0 n hc hb.1 hb.2 hi2 a1 a2 w hG
  · have hn : ∀ v, Lib.atoiAll s.data.toList ≠ .ok v := fun v e => hex ⟨v, e⟩
    have e : constI s.data.toList = restI s.data.toList := constI_no hne hn
    rw [e]
    rcases hr with ⟨a1, a2⟩ | ⟨a1, a2, a3⟩ | ⟨a1, a2, a3⟩
    · rw [a2]; exact input_constant_err_true s hs h0 hn a1 w hG
    · rw [a3]; exact input_constant_err_false s hs h0 hn a1 a2 w hG
    · rw [a3]; exact input_constant_err_text s hs h0 hn a1 a2 w hG


end Go.Proofs.YtckalplhaggaoaaGreatDoor

namespace Go.Proofs.YtckalplhaggaoaaGreatDoor
open Go.RowKit

set_option maxHeartbeats 400000 in
theorem cmp_isNaN_string (x : ByteArray) (w : World) : Calls Tryz.prog 146 #[.string x] w fun e w' => e = .returned (.bool false) ∧ w' = w := by
  go_enter Tryz.func146, Tryz.ntmps146
  go_wp2
  go_ret
  exact ⟨rfl, rfl⟩

set_option maxHeartbeats 400000 in
theorem cmp_Compare_string (x y : ByteArray) (w : World) : Calls Tryz.prog 141 #[.string x, .string y] w fun e w' => e = .returned (.int .i64 (cmpStr x y)) ∧ w' = w := by
  go_enter Tryz.func141, Tryz.ntmps141
  go_wp2_with (go_at_call 146; refine (cmp_isNaN_string _ _).mono ?_; rintro e' w1 ⟨rfl, hw1⟩; rw [hw1]; clear hw1)
  all_goals (go_ret; refine ⟨ret_int ?_, rfl⟩; go_tidy; simp_all [cmpStr])

set_option maxHeartbeats 400000 in
theorem cmp_Compare_int (x y : Int) (w : World) : Calls Tryz.prog 140 #[.int .i64 x, .int .i64 y] w fun e w' => e = .returned (.int .i64 (cmpInt x y)) ∧ w' = w := by
  exact (Tryz.cmp_Compare_int x y w).mono fun e w' ⟨he, hw⟩ => ⟨he.trans (ret_int (by unfold Lib.compareInt cmpInt; split <;> (try split) <;> (try split) <;> omega)), hw⟩

set_option maxHeartbeats 800000 in
theorem cmp_Or_3 (x y z : Int) (b : Nat) (w : World) (hb : b < w.heap.size) (h0 : w.cell? ⟨b, 0, none⟩ = some (.int .i64 x)) (h1 : w.cell? ⟨b, 1, none⟩ = some (.int .i64 y)) (h2 : w.cell? ⟨b, 2, none⟩ = some (.int .i64 z)) :
    Calls Tryz.prog 139 #[.slice (some ⟨b, 0, none⟩) 3 3] w fun e w' => e = .returned (.int .i64 (or3 x y z)) ∧ Bel w w' := by
  go_enter Tryz.func139, Tryz.ntmps139
  go_wp2
  by_cases hx : x = 0
  case neg =>
    have hx' : (x != 0) = true := by simpa using hx
    have hr : Hid (or3 x y z = x) := by show _ = _; simp [or3, hx]
    refine wp_loop_rounds 1 ?_
    rw [rounds_succ]
    go_wp2
    go_ret
    exact ⟨ret_int hr.out.symm, by (repeat (first | exact Below.refl _ _ | with_reducible assumption | refine bel_ext ?_ _ _ | refine bel_alloc ?_ _ | refine bel_drew ?_ | refine bel_drewN ?_ _ | refine bel_set ?_ (by simp; try omega) _))⟩
  subst hx
  by_cases hy : y = 0
  case neg =>
    have hy' : (y != 0) = true := by simpa using hy
    have hr : Hid (or3 0 y z = y) := by show _ = _; simp [or3, hy]
    refine wp_loop_rounds 2 ?_
    rw [rounds_succ]
    go_wp2
    rw [rounds_succ]
    go_wp2
    go_ret
    exact ⟨ret_int hr.out.symm, by (repeat (first | exact Below.refl _ _ | with_reducible assumption | refine bel_ext ?_ _ _ | refine bel_alloc ?_ _ | refine bel_drew ?_ | refine bel_drewN ?_ _ | refine bel_set ?_ (by simp; try omega) _))⟩
  subst hy
  by_cases hz : z = 0
  case neg =>
    have hz' : (z != 0) = true := by simpa using hz
    have hr : Hid (or3 0 0 z = z) := by show _ = _; simp [or3]
    refine wp_loop_rounds 3 ?_
    rw [rounds_succ]
    go_wp2
    rw [rounds_succ]
    go_wp2
    rw [rounds_succ]
    go_wp2
    go_ret
    exact ⟨ret_int hr.out.symm, by (repeat (first | exact Below.refl _ _ | with_reducible assumption | refine bel_ext ?_ _ _ | refine bel_alloc ?_ _ | refine bel_drew ?_ | refine bel_drewN ?_ _ | refine bel_set ?_ (by simp; try omega) _))⟩
  subst hz
  have hr : Hid (or3 0 0 0 = 0) := by show _ = _; simp [or3]
  refine wp_loop_rounds 4 ?_
  rw [rounds_succ]
  go_wp2
  rw [rounds_succ]
  go_wp2
  rw [rounds_succ]
  go_wp2
  rw [rounds_succ]
  go_wp2
  go_ret
  exact ⟨ret_int hr.out.symm, by (repeat (first | exact Below.refl _ _ | with_reducible assumption | refine bel_ext ?_ _ _ | refine bel_alloc ?_ _ | refine bel_drew ?_ | refine bel_drewN ?_ _ | refine bel_set ?_ (by simp; try omega) _))⟩

end Go.Proofs.YtckalplhaggaoaaGreatDoor
