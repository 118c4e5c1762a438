/- Towards InputBack: what is shown as input is read back as it was, for every entry and every text; no condition. Part 27 of 28. -/
import Derived.Test.YtckalplhaggaoaaGreatDoorX26
set_option linter.unusedVariables false
set_option linter.unusedSimpArgs false
namespace Go.Proofs.YtckalplhaggaoaaGreatDoor
open Go.RowKit

set_option maxHeartbeats 8000000 in
set_option maxRecDepth 100000 in
theorem law_no1T (cell : GCell) (n : GNode) (v : GVal) (A : Option Addr) (k c : Nat) (Z : Nat → Prop) (sheet : ByteArray) (w : World) (hr : RdN Z w n (.slice A k c)) (hG : Gl w) (hsh : sheet.size ≤ 9223372036854775807) (hn : nameB sheet = false) :
    Calls Tryz.prog 3 #[entV ⟨cell, true, n, v⟩ (.slice A k c), .string sheet] w fun e w' => e = .returned (.bool true) ∧ Bel w w' := by
  have HA := Lib.hid (fun w1 (b : Bel w w1) => law_alive w1 (hG.bel b))
  have HF := Lib.hid (fun w1 (b : Bel w w1) => law_Few n A k c Z w1 (hr.bel b))
  have HNm := Lib.hid (fun w1 => ref_Name sheet hsh w1)
  rw [hn] at HNm
  clear hn hG hr
  unfold nodeV at HF
  unfold entV
  go_enter Tryz.func3, Tryz.ntmps3
  go_wp2_with (first
    | (go_at_call 4; refine (HA.out _ (by (repeat (first | exact Below.refl _ _ | with_reducible assumption | refine bel_ext ?_ _ _ | refine bel_alloc ?_ _ | refine bel_drew ?_ | refine bel_drewN ?_ _ | refine bel_set ?_ (by simp; try omega) _)))).mono ?_; rintro e' w' ⟨rfl, hb'⟩; obtain ⟨d1, o1, rfl⟩ := hb'.ext; clear hb')
    | (go_at_call 5; refine (HF.out _ (by (repeat (first | exact Below.refl _ _ | with_reducible assumption | refine bel_ext ?_ _ _ | refine bel_alloc ?_ _ | refine bel_drew ?_ | refine bel_drewN ?_ _ | refine bel_set ?_ (by simp; try omega) _)))).mono ?_; rintro e' w' ⟨b, rfl, hfew, hb'⟩; replace hfew := Lib.hid hfew; obtain ⟨d2, o2, rfl⟩ := hb'.ext; clear hb')
    | (go_at_call 6; refine (HNm.out _).mono ?_; rintro e' w1 ⟨rfl, hw1⟩; rw [hw1]; clear hw1))
  all_goals (go_ret; exact ⟨rfl, by (repeat (first | exact Below.refl _ _ | with_reducible assumption | refine bel_ext ?_ _ _ | refine bel_alloc ?_ _ | refine bel_drew ?_ | refine bel_drewN ?_ _ | refine bel_set ?_ (by simp; try omega) _))⟩)

set_option maxHeartbeats 8000000 in
set_option maxRecDepth 100000 in
theorem law_no1F (cell : GCell) (n : GNode) (v : GVal) (A : Option Addr) (k c : Nat) (Z : Nat → Prop) (sheet : ByteArray) (w : World) (hr : RdN Z w n (.slice A k c)) (hG : Gl w) (hsh : sheet.size ≤ 9223372036854775807) (hn : nameB sheet = false) :
    Calls Tryz.prog 3 #[entV ⟨cell, false, n, v⟩ (.slice A k c), .string sheet] w fun e w' => e = .returned (.bool true) ∧ Bel w w' := by
  have HA := Lib.hid (fun w1 (b : Bel w w1) => law_alive w1 (hG.bel b))
  have HF := Lib.hid (fun w1 (b : Bel w w1) => law_Few n A k c Z w1 (hr.bel b))
  have HNm := Lib.hid (fun w1 => ref_Name sheet hsh w1)
  rw [hn] at HNm
  clear hn hG hr
  unfold nodeV at HF
  unfold entV
  go_enter Tryz.func3, Tryz.ntmps3
  go_wp2_with (first
    | (go_at_call 4; refine (HA.out _ (by (repeat (first | exact Below.refl _ _ | with_reducible assumption | refine bel_ext ?_ _ _ | refine bel_alloc ?_ _ | refine bel_drew ?_ | refine bel_drewN ?_ _ | refine bel_set ?_ (by simp; try omega) _)))).mono ?_; rintro e' w' ⟨rfl, hb'⟩; obtain ⟨d1, o1, rfl⟩ := hb'.ext; clear hb')
    | (go_at_call 5; refine (HF.out _ (by (repeat (first | exact Below.refl _ _ | with_reducible assumption | refine bel_ext ?_ _ _ | refine bel_alloc ?_ _ | refine bel_drew ?_ | refine bel_drewN ?_ _ | refine bel_set ?_ (by simp; try omega) _)))).mono ?_; rintro e' w' ⟨b, rfl, hfew, hb'⟩; replace hfew := Lib.hid hfew; obtain ⟨d2, o2, rfl⟩ := hb'.ext; clear hb')
    | (go_at_call 6; refine (HNm.out _).mono ?_; rintro e' w1 ⟨rfl, hw1⟩; rw [hw1]; clear hw1))
  all_goals (go_ret; exact ⟨rfl, by (repeat (first | exact Below.refl _ _ | with_reducible assumption | refine bel_ext ?_ _ _ | refine bel_alloc ?_ _ | refine bel_drew ?_ | refine bel_drewN ?_ _ | refine bel_set ?_ (by simp; try omega) _))⟩)

set_option maxHeartbeats 8000000 in
set_option maxRecDepth 100000 in
theorem law_no2 (cell : GCell) (n : GNode) (v : GVal) (A : Option Addr) (k c : Nat) (Z : Nat → Prop) (sheet : ByteArray) (w : World) (hr : RdN Z w n (.slice A k c)) (hG : Gl w) (hsh : sheet.size ≤ 9223372036854775807) (hn : nameB sheet = true) (hR : (decide (depthN n ≤ 20) && rightR n) = false) :
    Calls Tryz.prog 3 #[entV ⟨cell, true, n, v⟩ (.slice A k c), .string sheet] w fun e w' => e = .returned (.bool true) ∧ Bel w w' := by
  have HA := Lib.hid (fun w1 (b : Bel w w1) => law_alive w1 (hG.bel b))
  have HF := Lib.hid (fun w1 (b : Bel w w1) => law_Few n A k c Z w1 (hr.bel b))
  have HNm := Lib.hid (fun w1 => ref_Name sheet hsh w1)
  rw [hn] at HNm
  have HRN := Lib.hid (fun w1 (b : Bel w w1) (hdd : depthN n ≤ 4000000000000000000) => ref_RightNode n A k c Z w1 hdd (hr.bel b))
  rw [hR] at HRN
  unfold nodeV at HRN
  clear hn hG hr hR
  unfold nodeV at HF
  unfold entV
  go_enter Tryz.func3, Tryz.ntmps3
  go_wp2_with (first
    | (go_at_call 4; refine (HA.out _ (by (repeat (first | exact Below.refl _ _ | with_reducible assumption | refine bel_ext ?_ _ _ | refine bel_alloc ?_ _ | refine bel_drew ?_ | refine bel_drewN ?_ _ | refine bel_set ?_ (by simp; try omega) _)))).mono ?_; rintro e' w' ⟨rfl, hb'⟩; obtain ⟨d1, o1, rfl⟩ := hb'.ext; clear hb')
    | (go_at_call 5; refine (HF.out _ (by (repeat (first | exact Below.refl _ _ | with_reducible assumption | refine bel_ext ?_ _ _ | refine bel_alloc ?_ _ | refine bel_drew ?_ | refine bel_drewN ?_ _ | refine bel_set ?_ (by simp; try omega) _)))).mono ?_; rintro e' w' ⟨b, rfl, hfew, hb'⟩; replace hfew := Lib.hid hfew; obtain ⟨d2, o2, rfl⟩ := hb'.ext; clear hb')
    | (go_at_call 6; refine (HNm.out _).mono ?_; rintro e' w1 ⟨rfl, hw1⟩; rw [hw1]; clear hw1)
    | (go_at_call 7; refine (HRN.out _ (by (repeat (first | exact Below.refl _ _ | with_reducible assumption | refine bel_ext ?_ _ _ | refine bel_alloc ?_ _ | refine bel_drew ?_ | refine bel_drewN ?_ _ | refine bel_set ?_ (by simp; try omega) _))) (depth_of_few hfew.out (by first | assumption | simpa using ‹_ = true›)).2).mono ?_; rintro e' w' ⟨rfl, hb'⟩; obtain ⟨d3, o3, rfl⟩ := hb'.ext; clear hb'))
  all_goals (go_ret; exact ⟨rfl, by (repeat (first | exact Below.refl _ _ | with_reducible assumption | refine bel_ext ?_ _ _ | refine bel_alloc ?_ _ | refine bel_drew ?_ | refine bel_drewN ?_ _ | refine bel_set ?_ (by simp; try omega) _))⟩)

set_option maxHeartbeats 8000000 in
set_option maxRecDepth 100000 in
theorem law_no5T (cell : GCell) (n : GNode) (v : GVal) (A : Option Addr) (k c : Nat) (Z : Nat → Prop) (sheet : ByteArray) (w : World) (hr : RdN Z w n (.slice A k c)) (hG : Gl w) (hsh : sheet.size ≤ 9223372036854775807) (hn : nameB sheet = true) (hR : (decide (depthN n ≤ 20) && rightR n) = true) (hs : (199 : Int) < v.s.size) :
    Calls Tryz.prog 3 #[entV ⟨cell, true, n, v⟩ (.slice A k c), .string sheet] w fun e w' => e = .returned (.bool true) ∧ Bel w w' := by
  have HA := Lib.hid (fun w1 (b : Bel w w1) => law_alive w1 (hG.bel b))
  have HF := Lib.hid (fun w1 (b : Bel w w1) => law_Few n A k c Z w1 (hr.bel b))
  have HNm := Lib.hid (fun w1 => ref_Name sheet hsh w1)
  rw [hn] at HNm
  have HRN := Lib.hid (fun w1 (b : Bel w w1) (hdd : depthN n ≤ 4000000000000000000) => ref_RightNode n A k c Z w1 hdd (hr.bel b))
  rw [hR] at HRN
  unfold nodeV at HRN
  clear hn hG hr hR
  unfold nodeV at HF
  unfold entV
  go_enter Tryz.func3, Tryz.ntmps3
  go_wp2_with (first
    | (go_at_call 4; refine (HA.out _ (by (repeat (first | exact Below.refl _ _ | with_reducible assumption | refine bel_ext ?_ _ _ | refine bel_alloc ?_ _ | refine bel_drew ?_ | refine bel_drewN ?_ _ | refine bel_set ?_ (by simp; try omega) _)))).mono ?_; rintro e' w' ⟨rfl, hb'⟩; obtain ⟨d1, o1, rfl⟩ := hb'.ext; clear hb')
    | (go_at_call 5; refine (HF.out _ (by (repeat (first | exact Below.refl _ _ | with_reducible assumption | refine bel_ext ?_ _ _ | refine bel_alloc ?_ _ | refine bel_drew ?_ | refine bel_drewN ?_ _ | refine bel_set ?_ (by simp; try omega) _)))).mono ?_; rintro e' w' ⟨b, rfl, hfew, hb'⟩; replace hfew := Lib.hid hfew; obtain ⟨d2, o2, rfl⟩ := hb'.ext; clear hb')
    | (go_at_call 6; refine (HNm.out _).mono ?_; rintro e' w1 ⟨rfl, hw1⟩; rw [hw1]; clear hw1)
    | (go_at_call 7; refine (HRN.out _ (by (repeat (first | exact Below.refl _ _ | with_reducible assumption | refine bel_ext ?_ _ _ | refine bel_alloc ?_ _ | refine bel_drew ?_ | refine bel_drewN ?_ _ | refine bel_set ?_ (by simp; try omega) _))) (depth_of_few hfew.out (by first | assumption | simpa using ‹_ = true›)).2).mono ?_; rintro e' w' ⟨rfl, hb'⟩; obtain ⟨d3, o3, rfl⟩ := hb'.ext; clear hb'))
  all_goals (go_ret; exact ⟨rfl, by (repeat (first | exact Below.refl _ _ | with_reducible assumption | refine bel_ext ?_ _ _ | refine bel_alloc ?_ _ | refine bel_drew ?_ | refine bel_drewN ?_ _ | refine bel_set ?_ (by simp; try omega) _))⟩)

set_option maxHeartbeats 8000000 in
set_option maxRecDepth 100000 in
theorem law_no3 (cell : GCell) (n : GNode) (v : GVal) (A : Option Addr) (k c : Nat) (Z : Nat → Prop) (sheet : ByteArray) (w : World) (hr : RdN Z w n (.slice A k c)) (hG : Gl w) (hsh : sheet.size ≤ 9223372036854775807) (hn : nameB sheet = true) (hR : rightV v = false) :
    Calls Tryz.prog 3 #[entV ⟨cell, false, n, v⟩ (.slice A k c), .string sheet] w fun e w' => e = .returned (.bool true) ∧ Bel w w' := by
  have HA := Lib.hid (fun w1 (b : Bel w w1) => law_alive w1 (hG.bel b))
  have HF := Lib.hid (fun w1 (b : Bel w w1) => law_Few n A k c Z w1 (hr.bel b))
  have HNm := Lib.hid (fun w1 => ref_Name sheet hsh w1)
  rw [hn] at HNm
  have HRV := Lib.hid (fun w1 => ref_RightValue v w1)
  rw [hR] at HRV
  clear hn hG hr hR
  unfold nodeV at HF
  unfold entV
  go_enter Tryz.func3, Tryz.ntmps3
  go_wp2_with (first
    | (go_at_call 4; refine (HA.out _ (by (repeat (first | exact Below.refl _ _ | with_reducible assumption | refine bel_ext ?_ _ _ | refine bel_alloc ?_ _ | refine bel_drew ?_ | refine bel_drewN ?_ _ | refine bel_set ?_ (by simp; try omega) _)))).mono ?_; rintro e' w' ⟨rfl, hb'⟩; obtain ⟨d1, o1, rfl⟩ := hb'.ext; clear hb')
    | (go_at_call 5; refine (HF.out _ (by (repeat (first | exact Below.refl _ _ | with_reducible assumption | refine bel_ext ?_ _ _ | refine bel_alloc ?_ _ | refine bel_drew ?_ | refine bel_drewN ?_ _ | refine bel_set ?_ (by simp; try omega) _)))).mono ?_; rintro e' w' ⟨b, rfl, hfew, hb'⟩; replace hfew := Lib.hid hfew; obtain ⟨d2, o2, rfl⟩ := hb'.ext; clear hb')
    | (go_at_call 6; refine (HNm.out _).mono ?_; rintro e' w1 ⟨rfl, hw1⟩; rw [hw1]; clear hw1)
    | (go_at_call 8; refine (HRV.out _).mono ?_; rintro e' w' ⟨rfl, hb'⟩; obtain ⟨d3, o3, rfl⟩ := hb'.ext; clear hb'))
  all_goals (go_ret; exact ⟨rfl, by (repeat (first | exact Below.refl _ _ | with_reducible assumption | refine bel_ext ?_ _ _ | refine bel_alloc ?_ _ | refine bel_drew ?_ | refine bel_drewN ?_ _ | refine bel_set ?_ (by simp; try omega) _))⟩)

set_option maxHeartbeats 8000000 in
set_option maxRecDepth 100000 in
theorem law_no4 (cell : GCell) (n : GNode) (v : GVal) (A : Option Addr) (k c : Nat) (Z : Nat → Prop) (sheet : ByteArray) (w : World) (hr : RdN Z w n (.slice A k c)) (hG : Gl w) (hsh : sheet.size ≤ 9223372036854775807) (hn : nameB sheet = true) (hR : rightV v = true) (h4 : (v.kind == 4) = true) :
    Calls Tryz.prog 3 #[entV ⟨cell, false, n, v⟩ (.slice A k c), .string sheet] w fun e w' => e = .returned (.bool true) ∧ Bel w w' := by
  have HA := Lib.hid (fun w1 (b : Bel w w1) => law_alive w1 (hG.bel b))
  have HF := Lib.hid (fun w1 (b : Bel w w1) => law_Few n A k c Z w1 (hr.bel b))
  have HNm := Lib.hid (fun w1 => ref_Name sheet hsh w1)
  rw [hn] at HNm
  have HRV := Lib.hid (fun w1 => ref_RightValue v w1)
  rw [hR] at HRV
  clear hn hG hr hR
  unfold nodeV at HF
  unfold entV
  go_enter Tryz.func3, Tryz.ntmps3
  go_wp2_with (first
    | (go_at_call 4; refine (HA.out _ (by (repeat (first | exact Below.refl _ _ | with_reducible assumption | refine bel_ext ?_ _ _ | refine bel_alloc ?_ _ | refine bel_drew ?_ | refine bel_drewN ?_ _ | refine bel_set ?_ (by simp; try omega) _)))).mono ?_; rintro e' w' ⟨rfl, hb'⟩; obtain ⟨d1, o1, rfl⟩ := hb'.ext; clear hb')
    | (go_at_call 5; refine (HF.out _ (by (repeat (first | exact Below.refl _ _ | with_reducible assumption | refine bel_ext ?_ _ _ | refine bel_alloc ?_ _ | refine bel_drew ?_ | refine bel_drewN ?_ _ | refine bel_set ?_ (by simp; try omega) _)))).mono ?_; rintro e' w' ⟨b, rfl, hfew, hb'⟩; replace hfew := Lib.hid hfew; obtain ⟨d2, o2, rfl⟩ := hb'.ext; clear hb')
    | (go_at_call 6; refine (HNm.out _).mono ?_; rintro e' w1 ⟨rfl, hw1⟩; rw [hw1]; clear hw1)
    | (go_at_call 8; refine (HRV.out _).mono ?_; rintro e' w' ⟨rfl, hb'⟩; obtain ⟨d3, o3, rfl⟩ := hb'.ext; clear hb'))
  all_goals (go_ret; exact ⟨rfl, by (repeat (first | exact Below.refl _ _ | with_reducible assumption | refine bel_ext ?_ _ _ | refine bel_alloc ?_ _ | refine bel_drew ?_ | refine bel_drewN ?_ _ | refine bel_set ?_ (by simp; try omega) _))⟩)

set_option maxHeartbeats 8000000 in
set_option maxRecDepth 100000 in
theorem law_no5F (cell : GCell) (n : GNode) (v : GVal) (A : Option Addr) (k c : Nat) (Z : Nat → Prop) (sheet : ByteArray) (w : World) (hr : RdN Z w n (.slice A k c)) (hG : Gl w) (hsh : sheet.size ≤ 9223372036854775807) (hn : nameB sheet = true) (hR : rightV v = true) (h4 : (v.kind == 4) = false) (hs : (199 : Int) < v.s.size) :
    Calls Tryz.prog 3 #[entV ⟨cell, false, n, v⟩ (.slice A k c), .string sheet] w fun e w' => e = .returned (.bool true) ∧ Bel w w' := by
  have HA := Lib.hid (fun w1 (b : Bel w w1) => law_alive w1 (hG.bel b))
  have HF := Lib.hid (fun w1 (b : Bel w w1) => law_Few n A k c Z w1 (hr.bel b))
  have HNm := Lib.hid (fun w1 => ref_Name sheet hsh w1)
  rw [hn] at HNm
  have HRV := Lib.hid (fun w1 => ref_RightValue v w1)
  rw [hR] at HRV
  clear hn hG hr hR
  unfold nodeV at HF
  unfold entV
  go_enter Tryz.func3, Tryz.ntmps3
  go_wp2_with (first
    | (go_at_call 4; refine (HA.out _ (by (repeat (first | exact Below.refl _ _ | with_reducible assumption | refine bel_ext ?_ _ _ | refine bel_alloc ?_ _ | refine bel_drew ?_ | refine bel_drewN ?_ _ | refine bel_set ?_ (by simp; try omega) _)))).mono ?_; rintro e' w' ⟨rfl, hb'⟩; obtain ⟨d1, o1, rfl⟩ := hb'.ext; clear hb')
    | (go_at_call 5; refine (HF.out _ (by (repeat (first | exact Below.refl _ _ | with_reducible assumption | refine bel_ext ?_ _ _ | refine bel_alloc ?_ _ | refine bel_drew ?_ | refine bel_drewN ?_ _ | refine bel_set ?_ (by simp; try omega) _)))).mono ?_; rintro e' w' ⟨b, rfl, hfew, hb'⟩; replace hfew := Lib.hid hfew; obtain ⟨d2, o2, rfl⟩ := hb'.ext; clear hb')
    | (go_at_call 6; refine (HNm.out _).mono ?_; rintro e' w1 ⟨rfl, hw1⟩; rw [hw1]; clear hw1)
    | (go_at_call 8; refine (HRV.out _).mono ?_; rintro e' w' ⟨rfl, hb'⟩; obtain ⟨d3, o3, rfl⟩ := hb'.ext; clear hb'))
  all_goals (go_ret; exact ⟨rfl, by (repeat (first | exact Below.refl _ _ | with_reducible assumption | refine bel_ext ?_ _ _ | refine bel_alloc ?_ _ | refine bel_drew ?_ | refine bel_drewN ?_ _ | refine bel_set ?_ (by simp; try omega) _))⟩)

theorem nameB_size {s : ByteArray} (h : nameB s = true) : s.size ≤ 8 := by
  by_cases h0 : 0 < s.size
  · rw [nameB_cons h0] at h
    simp at h
    omega
  · omega
/-- The law is true at every input. -/
theorem law_InputBack (cell : GCell) (f : Bool) (n : GNode) (v : GVal) (A : Option Addr) (k c : Nat) (Z : Nat → Prop) (sheet : ByteArray) (w : World) (hr : RdN Z w n (.slice A k c)) (hG : Gl w) (hsh : sheet.size ≤ 9223372036854775807) (hok : okVal v) :
    Calls Tryz.prog 3 #[entV ⟨cell, f, n, v⟩ (.slice A k c), .string sheet] w fun e w' => e = .returned (.bool true) ∧ Bel w w' := by
  by_cases hn : nameB sheet = true
  case neg =>
    have hn' : nameB sheet = false := by simpa using hn
    cases f
    · exact law_no1F cell n v A k c Z sheet w hr hG hsh hn'
    · exact law_no1T cell n v A k c Z sheet w hr hG hsh hn'
  have h8 := nameB_size hn
  cases f with
  | true =>
    cases hR : (decide (depthN n ≤ 20) && rightR n) with
    | false => exact law_no2 cell n v A k c Z sheet w hr hG hsh hn hR
    | true =>
      by_cases hs : v.s.size ≤ 199
      · have h1 := Bool.and_eq_true_iff.1 hR
        by_cases h2 : (bs (61 :: showN n)).size ≤ 200
        · exact law_formula_short cell n v A k c Z sheet w hr hG hsh hn h1.2 (of_decide_eq_true h1.1) (by omega) hs h2
        · exact law_formula_long cell n v A k c Z sheet w hr hG hsh hn h1.2 (of_decide_eq_true h1.1) (by omega) hs h2
      · exact law_no5T cell n v A k c Z sheet w hr hG hsh hn hR (by omega)
  | false =>
    cases hR : rightV v with
    | false => exact law_no3 cell n v A k c Z sheet w hr hG hsh hn hR
    | true =>
      cases h4 : (v.kind == 4) with
      | true => exact law_no4 cell n v A k c Z sheet w hr hG hsh hn hR h4
      | false =>
        by_cases hs : v.s.size ≤ 199
        · exact law_value cell n v A k c Z sheet w hr hG hsh hok hn hR h4 hs
        · exact law_no5F cell n v A k c Z sheet w hr hG hsh hn hR h4 (by omega)

end Go.Proofs.YtckalplhaggaoaaGreatDoor
