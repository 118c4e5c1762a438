/- Towards InputBack: what is shown as input is read back as it was, for every entry and every text; no condition. Part 3 of 28. -/
import Derived.Test.YtckalplhaggaoaaGreatDoorX02
import Derived.RegionTactic
import Derived.BigRegion
set_option linter.unusedVariables false
set_option linter.unusedSimpArgs false
namespace Go.Proofs.YtckalplhaggaoaaGreatDoor
open Go.RowKit

def areaV (a b : GCell) : Value := .tuple #[.int .i64 (if areaOk a b then areaN a b else 0), .bool (areaOk a b)]
theorem areaOk_bd {a b : GCell} (h : areaOk a b = true) : 1 ≤ a.col ∧ b.col ≤ 702 ∧ 1 ≤ a.row ∧ b.row ≤ 999 ∧ a.col ≤ b.col ∧ a.row ≤ b.row := by
  simp [areaOk, rightC, placeB] at h; omega
theorem areaV_no {a b : GCell} (h : areaOk a b = false) : areaV a b = .tuple #[.int .i64 0, .bool false] := by simp [areaV, h]
theorem areaN_bd {a b : GCell} (h : areaOk a b = true) : 0 ≤ areaN a b ∧ areaN a b ≤ 701298 := by
  obtain ⟨q1, q2, q3, q4, q5, q6⟩ := areaOk_bd h
  unfold areaN
  have h1 : 0 ≤ b.col - a.col + 1 := by omega
  have h2 : 0 ≤ b.row - a.row + 1 := by omega
  refine ⟨Int.mul_nonneg h1 h2, Int.le_trans (Int.mul_le_mul_of_nonneg_right (show b.col - a.col + 1 ≤ 702 by omega) h2) ?_⟩
  omega
theorem areaV_yes {a b : GCell} (h : areaOk a b = true) : areaV a b = .tuple #[.int .i64 (wrap64 ((b.col - a.col + 1) * (b.row - a.row + 1))), .bool true] := by
  have hb := areaN_bd h
  have e : wrap64 ((b.col - a.col + 1) * (b.row - a.row + 1)) = areaN a b := by
    show wrap64 (areaN a b) = _
    unfold wrap64; omega
  rw [e]; simp [areaV, h]

set_option maxHeartbeats 4000000 in
set_option maxRecDepth 100000 in
theorem addr_Area (a b : GCell) (ha : okCell a) (hb : okCell b) (w : World) :
    Calls Tryz.prog 113 #[.agg #[.string a.sheet, .int .i64 a.col, .int .i64 a.row, .string b.sheet, .int .i64 b.col, .int .i64 b.row]] w fun e w' => e = .returned (areaV a b) ∧ Bel w w' := by
  have ha1 : a.sheet.size ≤ 9223372036854775807 := by have := ha.1; omega
  have hb1 : b.sheet.size ≤ 9223372036854775807 := by have := hb.1; omega
  clear ha hb
  by_cases hok : areaOk a b = true
  · obtain ⟨q1, q2, q3, q4, q5, q6⟩ := areaOk_bd hok
    have hr : rightC a = true ∧ rightC b = true ∧ a.sheet.toList = b.sheet.toList := by simp [areaOk] at hok; exact ⟨hok.1, hok.2.1, hok.2.2.1⟩
    obtain ⟨r1, r2, r3⟩ := hr
    have r1' : rightC ⟨a.sheet, a.col, a.row⟩ = true := r1
    have r2' : rightC ⟨b.sheet, b.col, b.row⟩ = true := r2
    have hv := Lib.hid (areaV_yes hok)
    clear hok r1 r2
    go_enter Tryz.func113, Tryz.ntmps113
    go_wp2
    go_region
    all_goals go_wp2_with (go_at_call 70; refine (addr_Right ⟨_, _, _⟩ (by assumption) _).mono ?_; rintro e' w' ⟨rfl, hb'⟩; obtain ⟨d', o', rfl⟩ := hb'.ext; clear hb')
    all_goals (go_ret2; exact ⟨by rw [hv.out]; rfl, by (repeat (first | exact Below.refl _ _ | with_reducible assumption | refine bel_ext ?_ _ _ | refine bel_alloc ?_ _ | refine bel_drew ?_ | refine bel_drewN ?_ _ | refine bel_set ?_ (by simp; try omega) _))⟩)
  · have hok' : areaOk a b = false := by simpa using hok
    have hv := Lib.hid (areaV_no hok')
    have ho : ¬ (rightC ⟨a.sheet, a.col, a.row⟩ = true ∧ rightC ⟨b.sheet, b.col, b.row⟩ = true ∧ a.sheet.toList = b.sheet.toList ∧ a.col ≤ b.col ∧ a.row ≤ b.row) := by
      intro h
      have : areaOk a b = true := by simp [areaOk]; exact h
      exact hok this
    have Ho := Lib.hid ho
    clear hok hok' ho
    go_enter Tryz.func113, Tryz.ntmps113
    go_wp2
    go_region
    all_goals go_wp2_with (go_at_call 70; refine (addr_Right ⟨_, _, _⟩ (by assumption) _).mono ?_; rintro e' w' ⟨rfl, hb'⟩; obtain ⟨d', o', rfl⟩ := hb'.ext; clear hb')
    all_goals first
      | (go_ret2; exact ⟨by rw [hv.out]; rfl, by (repeat (first | exact Below.refl _ _ | with_reducible assumption | refine bel_ext ?_ _ _ | refine bel_alloc ?_ _ | refine bel_drew ?_ | refine bel_drewN ?_ _ | refine bel_set ?_ (by simp; try omega) _))⟩)
      | (exfalso; apply Ho.out; refine ⟨by assumption, by assumption, by assumption, by omega, by omega⟩)

set_option maxHeartbeats 800000 in
theorem addr_Small (a b : GCell) (ha : okCell a) (hb : okCell b) (w : World) :
    Calls Tryz.prog 92 #[.agg #[.string a.sheet, .int .i64 a.col, .int .i64 a.row, .string b.sheet, .int .i64 b.col, .int .i64 b.row]] w fun e w' => e = .returned (.bool (smallR a b)) ∧ Bel w w' := by
  have hA := fun w => addr_Area a b ha hb w
  unfold areaV at hA
  by_cases hok : areaOk a b = true
  · rw [hok] at hA
    simp only [if_true] at hA
    have hs : Hid (smallR a b = decide (areaN a b ≤ 400)) := by show _ = _; simp [smallR, hok]
    have HA := Lib.hid hA
    clear hA hok ha hb
    generalize areaN a b = N at *
    go_enter Tryz.func92, Tryz.ntmps92
    go_wp2_with (go_at_call 113; refine (HA.out _).mono ?_; rintro e' w' ⟨rfl, hb'⟩; obtain ⟨d', o', rfl⟩ := hb'.ext; clear hb')
    all_goals (go_ret; exact ⟨ret_bool (by rw [hs.out]), by (repeat (first | exact Below.refl _ _ | with_reducible assumption | refine bel_ext ?_ _ _ | refine bel_alloc ?_ _ | refine bel_drew ?_ | refine bel_drewN ?_ _ | refine bel_set ?_ (by simp; try omega) _))⟩)
  · have hok : areaOk a b = false := by simpa using hok
    rw [hok] at hA
    simp only [Bool.false_eq_true, if_false] at hA
    have hs : Hid (smallR a b = false) := by show _ = _; simp [smallR, hok]
    have HA := Lib.hid hA
    clear hA hok ha hb
    go_enter Tryz.func92, Tryz.ntmps92
    go_wp2_with (go_at_call 113; refine (HA.out _).mono ?_; rintro e' w' ⟨rfl, hb'⟩; obtain ⟨d', o', rfl⟩ := hb'.ext; clear hb')
    all_goals (go_ret; exact ⟨ret_bool (by rw [hs.out]), by (repeat (first | exact Below.refl _ _ | with_reducible assumption | refine bel_ext ?_ _ _ | refine bel_alloc ?_ _ | refine bel_drew ?_ | refine bel_drewN ?_ _ | refine bel_set ?_ (by simp; try omega) _))⟩)

end Go.Proofs.YtckalplhaggaoaaGreatDoor

namespace Go.Proofs.YtckalplhaggaoaaGreatDoor
open Go.RowKit

set_option maxHeartbeats 400000 in
theorem ref_Small (c : UInt8) (w : World) : Calls Tryz.prog 14 #[.int .u8 (c.toNat : Int)] w fun e w' => e = .returned (.bool (smallc c)) ∧ w' = w := by
  go_enter Tryz.func14, Tryz.ntmps14
  go_wp2
  all_goals (go_ret; refine ⟨ret_bool ?_, rfl⟩; go_tidy; first | (simp_all [smallc]; done) | (simp_all [smallc]; omega))
set_option maxHeartbeats 400000 in
theorem ref_Great (c : UInt8) (w : World) : Calls Tryz.prog 46 #[.int .u8 (c.toNat : Int)] w fun e w' => e = .returned (.bool (greatc c)) ∧ w' = w := by
  go_enter Tryz.func46, Tryz.ntmps46
  go_wp2
  all_goals (go_ret; refine ⟨ret_bool ?_, rfl⟩; go_tidy; first | (simp_all [greatc]; done) | (simp_all [greatc]; omega))
set_option maxHeartbeats 400000 in
theorem ref_Digit (c : UInt8) (w : World) : Calls Tryz.prog 15 #[.int .u8 (c.toNat : Int)] w fun e w' => e = .returned (.bool (digitc c)) ∧ w' = w := by
  go_enter Tryz.func15, Tryz.ntmps15
  go_wp2
  all_goals (go_ret; refine ⟨ret_bool ?_, rfl⟩; go_tidy; first | (simp_all [digitc]; done) | (simp_all [digitc]; omega))

set_option maxHeartbeats 800000 in
theorem ref_RightValue (v : GVal) (w : World) :
    Calls Tryz.prog 8 #[.agg #[.int .i64 v.kind, .int .i64 v.n, .string v.s]] w fun e w' => e = .returned (.bool (rightV v)) ∧ Bel w w' := by
  go_enter Tryz.func8, Tryz.ntmps8
  go_wp2
  all_goals (go_ret; refine ⟨ret_bool ?_, by (repeat (first | exact Below.refl _ _ | with_reducible assumption | refine bel_ext ?_ _ _ | refine bel_alloc ?_ _ | refine bel_drew ?_ | refine bel_drewN ?_ _ | refine bel_set ?_ (by simp; try omega) _))⟩; go_tidy; first | (simp_all [rightV]; done) | (simp_all [rightV]; omega))

end Go.Proofs.YtckalplhaggaoaaGreatDoor

namespace Go.Proofs.YtckalplhaggaoaaGreatDoor
open Go.RowKit

set_option maxHeartbeats 1600000 in
theorem ref_Name (s : ByteArray) (hs : s.size ≤ 9223372036854775807) (w : World) :
    Calls Tryz.prog 6 #[.string s] w fun e w' => e = .returned (.bool (nameB s)) ∧ w' = w := by
  by_cases h0 : 0 < s.size
  case neg =>
    have h1 : s.toList = [] := toList_nil (by omega)
    have h2 : (s.size : Int) < 1 := by omega
    go_enter Tryz.func6, Tryz.ntmps6
    go_wp2
    go_ret
    exact ⟨ret_bool (nameB_nil h1).symm, rfl⟩
  have hn := Lib.hid (nameB_cons h0)
  have h1 : ¬ (s.size : Int) < 1 := by omega
  by_cases h2 : (s.size : Int) ≤ 8
  case neg =>
    go_enter Tryz.func6, Tryz.ntmps6
    go_wp2
    go_ret
    exact ⟨ret_bool (by rw [hn.out, decide_eq_false (by omega)]; rfl), rfl⟩
  by_cases h3 : smallc s[0] = true
  case neg =>
    have h3' : smallc s[0] = false := by simpa using h3
    clear h3
    have hv : Hid (nameB s = false) := by show _ = _; rw [hn.out, h3']; simp
    have hc := ref_Small s[0] w
    rw [h3'] at hc
    have HC := Lib.hid hc
    clear hc h3'
    go_enter Tryz.func6, Tryz.ntmps6
    go_wp2_with (go_at_call 14; refine HC.out.mono ?_; rintro e' w1 ⟨rfl, hw1⟩; rw [hw1]; clear hw1)
    go_ret
    exact ⟨ret_bool hv.out.symm, rfl⟩
  have hc := ref_Small s[0] w
  rw [h3] at hc
  have HC := Lib.hid hc
  have hv : Hid (nameB s = s.data.toList.all (fun c => smallc c || digitc c)) := by show _ = _; rw [hn.out, h3, decide_eq_true h2]; simp
  have h31 : Hid (allTo (fun c => smallc c || digitc c) s 1 = true) := by
    show _ = _
    rw [allTo_succ _ s 0 h0, allTo_zero, h3]; simp
  clear hc h3 hn
  go_enter Tryz.func6, Tryz.ntmps6
  go_wp2_with (go_at_call 14; refine HC.out.mono ?_; rintro e' w1 ⟨rfl, hw1⟩; rw [hw1]; clear hw1)
  go_loop [3] (fun t => ∃ k : Nat, k ≤ s.size ∧ t = .int .i64 k ∧ Hid (allTo (fun c => smallc c || digitc c) s k = true)) (fun t => s.size - (intOf t).toNat)
  case atStart => exact ⟨1, by omega, rfl, h31⟩
  case round =>
    obtain ⟨k, hk, rfl, hall⟩ := hrel
    by_cases hlt : k < s.size
    · have hstep := Lib.hid (allTo_succ (fun c => smallc c || digitc c) s k hlt)
      have hlt' : (k : Int) < s.size := by omega
      have c1 := ref_Small s[k] w
      have c2 := ref_Digit s[k] w
      rcases hsm : smallc s[k] with _ | _
      · rcases hdg : digitc s[k] with _ | _
        · have hf : Hid (nameB s = false) := by
            show _ = false
            rw [hv.out, all_false s k hlt (by rw [hsm, hdg]; rfl)]
          rw [hsm] at c1
          rw [hdg] at c2
          have C1 := Lib.hid c1
          have C2 := Lib.hid c2
          clear c1 c2 hsm hdg hstep
          go_wp2_with (first | (go_at_call 14; refine C1.out.mono ?_; rintro e' w1 ⟨rfl, hw1⟩; rw [hw1]; clear hw1) | (go_at_call 15; refine C2.out.mono ?_; rintro e' w1 ⟨rfl, hw1⟩; rw [hw1]; clear hw1))
          go_ret
          exact ⟨ret_bool hf.out.symm, rfl⟩
        · have H : Hid (allTo (fun c => smallc c || digitc c) s (k + 1) = true) := by
            show _ = true
            rw [hstep.out, hall.out, hsm, hdg]; rfl
          rw [hsm] at c1
          rw [hdg] at c2
          have C1 := Lib.hid c1
          have C2 := Lib.hid c2
          clear c1 c2 hsm hdg hstep
          go_wp2_with (first | (go_at_call 14; refine C1.out.mono ?_; rintro e' w1 ⟨rfl, hw1⟩; rw [hw1]; clear hw1) | (go_at_call 15; refine C2.out.mono ?_; rintro e' w1 ⟨rfl, hw1⟩; rw [hw1]; clear hw1))
          go_round
          case rel => exact ⟨k + 1, by omega, by go_num, H⟩
          case measure => simp [intOf]; omega
      · have H : Hid (allTo (fun c => smallc c || digitc c) s (k + 1) = true) := by
          show _ = true
          rw [hstep.out, hall.out, hsm]; rfl
        rw [hsm] at c1
        have C1 := Lib.hid c1
        clear c1 c2 hsm hstep
        go_wp2_with (go_at_call 14; refine C1.out.mono ?_; rintro e' w1 ⟨rfl, hw1⟩; rw [hw1]; clear hw1)
        go_round
        case rel => exact ⟨k + 1, by omega, by go_num, H⟩
        case measure => simp [intOf]; omega
    · go_wp2
      go_ret
      refine ⟨ret_bool ?_, rfl⟩
      obtain rfl : k = s.size := by omega
      have := hall.out
      rw [allTo_size] at this
      rw [hv.out, this]

set_option maxHeartbeats 400000 in
theorem ref_RightCell (c : GCell) (hs : c.sheet.size ≤ 9223372036854775807) (w : World) :
    Calls Tryz.prog 25 #[.agg #[.string c.sheet, .int .i64 c.col, .int .i64 c.row]] w fun e w' => e = .returned (.bool (rightC c)) ∧ Bel w w' := by
  go_enter Tryz.func25, Tryz.ntmps25
  go_wp2_with (go_at_call 6; refine (ref_Name _ hs _).mono ?_; rintro e' w1 ⟨rfl, hw1⟩; rw [hw1]; clear hw1)
  all_goals (go_ret; refine ⟨ret_bool ?_, by (repeat (first | exact Below.refl _ _ | with_reducible assumption | refine bel_ext ?_ _ _ | refine bel_alloc ?_ _ | refine bel_drew ?_ | refine bel_drewN ?_ _ | refine bel_set ?_ (by simp; try omega) _))⟩; go_tidy; first | (simp_all [rightC, placeB]; done) | (simp_all [rightC, placeB]; omega))

end Go.Proofs.YtckalplhaggaoaaGreatDoor

namespace Go.Proofs.YtckalplhaggaoaaGreatDoor
open Go.RowKit

set_option maxHeartbeats 1600000 in
theorem ref_Area (a b : GCell) (ha : okCell a) (hb : okCell b) (w : World) :
    Calls Tryz.prog 26 #[.agg #[.string a.sheet, .int .i64 a.col, .int .i64 a.row, .string b.sheet, .int .i64 b.col, .int .i64 b.row]] w fun e w' => e = .returned (areaV a b) ∧ Bel w w' := by
  have ha1 : a.sheet.size ≤ 9223372036854775807 := by have := ha.1; omega
  have hb1 : b.sheet.size ≤ 9223372036854775807 := by have := hb.1; omega
  clear ha hb
  by_cases hok : areaOk a b = true
  · obtain ⟨q1, q2, q3, q4, q5, q6⟩ := areaOk_bd hok
    have hr : rightC a = true ∧ rightC b = true ∧ a.sheet.toList = b.sheet.toList := by simp [areaOk] at hok; exact ⟨hok.1, hok.2.1, hok.2.2.1⟩
    obtain ⟨r1, r2, r3⟩ := hr
    have r1' : rightC ⟨a.sheet, a.col, a.row⟩ = true := r1
    have r2' : rightC ⟨b.sheet, b.col, b.row⟩ = true := r2
    have hv := Lib.hid (areaV_yes hok)
    clear hok r1 r2
    go_enter Tryz.func26, Tryz.ntmps26
    go_wp2_with (go_at_call 25; refine (ref_RightCell ⟨_, _, _⟩ (by assumption) _).mono ?_; rintro e' w' ⟨rfl, hb'⟩; obtain ⟨d', o', rfl⟩ := hb'.ext; clear hb')
    all_goals (go_ret2; exact ⟨by rw [hv.out]; rfl, by (repeat (first | exact Below.refl _ _ | with_reducible assumption | refine bel_ext ?_ _ _ | refine bel_alloc ?_ _ | refine bel_drew ?_ | refine bel_drewN ?_ _ | refine bel_set ?_ (by simp; try omega) _))⟩)
  · have hok' : areaOk a b = false := by simpa using hok
    have hv := Lib.hid (areaV_no hok')
    have ho : ¬ (rightC ⟨a.sheet, a.col, a.row⟩ = true ∧ rightC ⟨b.sheet, b.col, b.row⟩ = true ∧ a.sheet.toList = b.sheet.toList ∧ a.col ≤ b.col ∧ a.row ≤ b.row) := by
      intro h
      have : areaOk a b = true := by simp [areaOk]; exact h
      exact hok this
    have Ho := Lib.hid ho
    clear hok hok' ho
    go_enter Tryz.func26, Tryz.ntmps26
    go_wp2_with (go_at_call 25; refine (ref_RightCell ⟨_, _, _⟩ (by assumption) _).mono ?_; rintro e' w' ⟨rfl, hb'⟩; obtain ⟨d', o', rfl⟩ := hb'.ext; clear hb')
    all_goals first
      | (go_ret2; exact ⟨by rw [hv.out]; rfl, by (repeat (first | exact Below.refl _ _ | with_reducible assumption | refine bel_ext ?_ _ _ | refine bel_alloc ?_ _ | refine bel_drew ?_ | refine bel_drewN ?_ _ | refine bel_set ?_ (by simp; try omega) _))⟩)
      | (exfalso; apply Ho.out; refine ⟨by assumption, by assumption, by assumption, by omega, by omega⟩)

set_option maxHeartbeats 1600000 in
theorem ref_callName (s : ByteArray) (hs : s.size ≤ 9223372036854775807) (w : World) :
    Calls Tryz.prog 28 #[.string s] w fun e w' => e = .returned (.bool (callB s)) ∧ w' = w := by
  by_cases h0 : 0 < s.size
  case neg =>
    have h1 : s.toList = [] := toList_nil (by omega)
    have h2 : (s.size : Int) < 1 := by omega
    have hc : Hid (callB s = false) := by show _ = false; simp [callB, h1]
    go_enter Tryz.func28, Tryz.ntmps28
    go_wp2
    go_ret
    exact ⟨ret_bool hc.out.symm, rfl⟩
  have h1b : s.toList.isEmpty = false := by simpa using toList_ne h0
  have h1 : ¬ (s.size : Int) < 1 := by omega
  by_cases h2 : (s.size : Int) ≤ 8
  case neg =>
    have hc : Hid (callB s = false) := by show _ = false; simp only [callB, h1b, decide_eq_false h2]; simp
    go_enter Tryz.func28, Tryz.ntmps28
    go_wp2
    go_ret
    exact ⟨ret_bool hc.out.symm, rfl⟩
  by_cases h3 : (s.toList == [84, 82, 85, 69]) = true
  case pos =>
    have hc : Hid (callB s = false) := by show _ = false; simp [callB, h3]
    go_enter Tryz.func28, Tryz.ntmps28
    go_wp2
    go_ret
    exact ⟨ret_bool hc.out.symm, rfl⟩
  by_cases h4 : (s.toList == [70, 65, 76, 83, 69]) = true
  case pos =>
    have hc : Hid (callB s = false) := by show _ = false; simp [callB, h4]
    go_enter Tryz.func28, Tryz.ntmps28
    go_wp2
    go_ret
    exact ⟨ret_bool hc.out.symm, rfl⟩
  have h3' : (s.toList == [84, 82, 85, 69]) = false := by simpa using h3
  have h4' : (s.toList == [70, 65, 76, 83, 69]) = false := by simpa using h4
  have hn : Hid (callB s = s.data.toList.all greatc) := by show _ = _; simp only [callB, h1b, h3', h4', decide_eq_true h2]; simp
  clear h3 h4 h1b
  go_enter Tryz.func28, Tryz.ntmps28
  go_wp2
  go_loop [3] (fun t => ∃ k : Nat, k ≤ s.size ∧ t = .int .i64 k ∧ Hid (allTo greatc s k = true)) (fun t => s.size - (intOf t).toNat)
  case atStart => exact ⟨0, Nat.zero_le _, rfl, allTo_zero _ _⟩
  case round =>
    obtain ⟨k, hk, rfl, hall⟩ := hrel
    by_cases hlt : k < s.size
    · have hstep := Lib.hid (allTo_succ greatc s k hlt)
      have hlt' : (k : Int) < s.size := by omega
      have c1 := ref_Great s[k] w
      rcases hgr : greatc s[k] with _ | _
      · have hf : Hid (callB s = false) := by
          show _ = false
          rw [hn.out, all_false s k hlt hgr]
        rw [hgr] at c1
        have C1 := Lib.hid c1
        clear c1 hgr hstep
        go_wp2_with (go_at_call 46; refine C1.out.mono ?_; rintro e' w1 ⟨rfl, hw1⟩; rw [hw1]; clear hw1)
        go_ret
        exact ⟨ret_bool hf.out.symm, rfl⟩
      · have H : Hid (allTo greatc s (k + 1) = true) := by
          show _ = true
          rw [hstep.out, hall.out, hgr]; rfl
        rw [hgr] at c1
        have C1 := Lib.hid c1
        clear c1 hgr hstep
        go_wp2_with (go_at_call 46; refine C1.out.mono ?_; rintro e' w1 ⟨rfl, hw1⟩; rw [hw1]; clear hw1)
        go_round
        case rel => exact ⟨k + 1, by omega, by go_num, H⟩
        case measure => simp [intOf]; omega
    · go_wp2
      go_ret
      refine ⟨ret_bool ?_, rfl⟩
      obtain rfl : k = s.size := by omega
      have := hall.out
      rw [allTo_size] at this
      rw [hn.out, this]

def refOps : List ByteArray := [⟨#[43]⟩, ⟨#[45]⟩, ⟨#[42]⟩, ⟨#[47]⟩, ⟨#[38]⟩, ⟨#[61]⟩, ⟨#[60, 62]⟩, ⟨#[60]⟩, ⟨#[62]⟩, ⟨#[60, 61]⟩, ⟨#[62, 61]⟩]
theorem isOp_any (s : ByteArray) : isOp s = refOps.any (fun o => o.toList == s.toList) := by
  have e : ∀ (l : List UInt8), (⟨l.toArray⟩ : ByteArray).toList = l := fun l => by rw [Lib.toList_data]
  rw [Bool.eq_iff_iff]
  simp only [refOps, isOp, isCmp, List.any_cons, List.any_nil, Bool.or_false, Bool.or_eq_true, beq_iff_eq, e]
  grind
def opCells : Array Value := (refOps.map Value.string).toArray
theorem opCells_at (i : Nat) (h2 : i < 11) : opCells[i]? = some (.string (refOps.getD i ⟨#[]⟩)) := by
  have : i < refOps.length := h2
  simp [opCells, List.getElem?_eq_getElem this, List.getD_eq_getElem?_getD]

set_option maxHeartbeats 1600000 in
theorem ref_op (s : ByteArray) (w : World) :
    Calls Tryz.prog 27 #[.string s] w fun e w' => e = .returned (.bool (isOp s)) ∧ Bel w w' := by
  have hn := Lib.hid (isOp_any s)
  go_enter Tryz.func27, Tryz.ntmps27
  go_wp2
  have hw : w.alloc (.cells opCells 9) = w.alloc (.cells #[.string ⟨#[43]⟩, .string ⟨#[45]⟩, .string ⟨#[42]⟩, .string ⟨#[47]⟩, .string ⟨#[38]⟩, .string ⟨#[61]⟩, .string ⟨#[60, 62]⟩, .string ⟨#[60]⟩, .string ⟨#[62]⟩, .string ⟨#[60, 61]⟩, .string ⟨#[62, 61]⟩] 9) := rfl
  rw [← hw]
  have hc : ∀ i, i < 11 → (w.alloc (.cells opCells 9)).cell? ⟨w.heap.size, i, none⟩ = some (.string (refOps.getD i ⟨#[]⟩)) := fun i hi => by
    rw [World.cell?_alloc_at _ _ _ _ rfl]; exact opCells_at i hi
  have hB := bel1 w (.cells opCells 9)
  generalize w.alloc (.cells opCells 9) = W at *
  have Hc := Lib.hid hc
  clear hc hw
  go_loop [4] (fun t => ∃ k : Nat, k ≤ 11 ∧ t = .int .i64 k ∧ Hid ((refOps.take k).any (fun o => o.toList == s.toList) = false)) (fun t => 11 - (intOf t).toNat)
  case atStart => exact ⟨0, by omega, rfl, rfl⟩
  case round =>
    obtain ⟨k, hk, rfl, hall⟩ := hrel
    by_cases hlt : k < 11
    · have q := Hc.out k hlt
      have hk11 : (k : Int) < 11 := by omega
      have hst : Hid (refOps.take (k + 1) = refOps.take k ++ [refOps.getD k ⟨#[]⟩]) := by
        show _ = _
        have : k < refOps.length := hlt
        rw [take_succ_get refOps k this]
        simp [List.getD_eq_getElem?_getD, List.getElem?_eq_getElem this]
      generalize refOps.getD k ⟨#[]⟩ = o at *
      by_cases he : (o.toList == s.toList) = true
      · have hv : Hid (isOp s = true) := by
          show _ = _
          rw [hn.out, ← List.take_append_drop (k + 1) refOps, hst.out]
          have h1 : ([o].any fun o => o.toList == s.toList) = true := by simpa using he
          rw [List.any_append, List.any_append, h1]; simp
        go_wp2
        go_ret
        exact ⟨ret_bool hv.out.symm, by (repeat (first | exact Below.refl _ _ | with_reducible assumption | refine bel_ext ?_ _ _ | refine bel_alloc ?_ _ | refine bel_drew ?_ | refine bel_drewN ?_ _ | refine bel_set ?_ (by simp; try omega) _))⟩
      · have he' : (o.toList == s.toList) = false := by simpa using he
        clear he
        have H : Hid ((refOps.take (k + 1)).any (fun o => o.toList == s.toList) = false) := by
          show _ = _
          rw [hst.out, List.any_append, hall.out]
          simpa using he'
        clear hst
        go_wp2
        go_round
        case rel => exact ⟨k + 1, by omega, by go_num, H⟩
        case measure => simp [intOf]; omega
    · obtain rfl : k = 11 := by omega
      have hv : Hid (isOp s = false) := by
        show _ = _
        have := hall.out
        rw [hn.out]
        rwa [List.take_of_length_le (by decide)] at this
      go_wp2
      go_ret
      exact ⟨ret_bool hv.out.symm, by (repeat (first | exact Below.refl _ _ | with_reducible assumption | refine bel_ext ?_ _ _ | refine bel_alloc ?_ _ | refine bel_drew ?_ | refine bel_drewN ?_ _ | refine bel_set ?_ (by simp; try omega) _))⟩

end Go.Proofs.YtckalplhaggaoaaGreatDoor
