/- Towards InputBack: what is shown as input is read back as it was, for every entry and every text; no condition. Part 26 of 28. -/
import Derived.Test.YtckalplhaggaoaaGreatDoorX25
set_option linter.unusedVariables false
set_option linter.unusedSimpArgs false
namespace Go.Proofs.YtckalplhaggaoaaGreatDoor
open Go.RowKit

set_option maxHeartbeats 8000000 in
set_option maxRecDepth 100000 in
theorem law_formula_short (cell : GCell) (n : GNode) (v : GVal) (A : Option Addr) (k c : Nat) (Z : Nat → Prop) (sheet : ByteArray) (w : World) (hr : RdN Z w n (.slice A k c)) (hG : Gl w) (hsh : sheet.size ≤ 9223372036854775807) (hn : nameB sheet = true) (hR : rightR n = true) (hd : depthN n ≤ 20) (hnz : sheet.size ≤ 1000) (hs : v.s.size ≤ 199) (hsz2 : (bs (61 :: showN n)).size ≤ 200) :
    Calls Tryz.prog 3 #[entV ⟨cell, true, n, v⟩ (.slice A k c), .string sheet] w fun e w' => e = .returned (.bool true) ∧ Bel w w' := by
  have HA := Lib.hid (fun w1 (b : Bel w w1) => law_alive w1 (hG.bel b))
  have HF := Lib.hid (fun w1 (b : Bel w w1) => law_Few n A k c Z w1 (hr.bel b))
  have HNm := Lib.hid (fun w1 => ref_Name sheet hsh w1)
  rw [hn] at HNm
  have HRN := Lib.hid (fun w1 (b : Bel w w1) => ref_RightNode n A k c Z w1 (by omega) (hr.bel b))
  have hrd : (decide (depthN n ≤ 20) && rightR n) = true := by rw [hR, decide_eq_true hd]; rfl
  rw [hrd] at HRN
  have hss : (v.s.size : Int) ≤ 199 := by omega
  have hnm := Lib.hid hn
  have hR' := Lib.hid hR
  have hd' := Lib.hid hd
  have hsS := Lib.hid hs
  have hsz3 := Lib.hid hsz2
  clear hn hR hd hrd hs hsz2
  unfold nodeV at HF HRN
  unfold entV
  go_enter Tryz.func3, Tryz.ntmps3
  go_upto_region 4 with (first
    | (go_at_call 4; refine (HA.out _ (by (repeat (first | exact Below.refl _ _ | with_reducible assumption | refine bel_ext ?_ _ _ | refine bel_alloc ?_ _ | refine bel_drew ?_ | refine bel_drewN ?_ _ | refine bel_set ?_ (by simp; try omega) _)))).mono ?_; rintro e' w' ⟨rfl, hb'⟩; obtain ⟨d1, o1, rfl⟩ := hb'.ext; clear hb')
    | (go_at_call 5; refine (HF.out _ (by (repeat (first | exact Below.refl _ _ | with_reducible assumption | refine bel_ext ?_ _ _ | refine bel_alloc ?_ _ | refine bel_drew ?_ | refine bel_drewN ?_ _ | refine bel_set ?_ (by simp; try omega) _)))).mono ?_; rintro e' w' ⟨b, rfl, hfew, hb'⟩; obtain ⟨d2, o2, rfl⟩ := hb'.ext; clear hb')
    | (go_at_call 6; refine (HNm.out _).mono ?_; rintro e' w1 ⟨rfl, hw1⟩; rw [hw1]; clear hw1)
    | (go_at_call 7; refine (HRN.out _ (by (repeat (first | exact Below.refl _ _ | with_reducible assumption | refine bel_ext ?_ _ _ | refine bel_alloc ?_ _ | refine bel_drew ?_ | refine bel_drewN ?_ _ | refine bel_set ?_ (by simp; try omega) _)))).mono ?_; rintro e' w' ⟨rfl, hb'⟩; obtain ⟨d3, o3, rfl⟩ := hb'.ext; clear hb'))
  · have hb1 : b = true := by simpa using ‹b = true›
    have hfw := (depth_of_few hfew hb1).1
    have hi := hr.ints
    have HSh := Lib.hid (fun w1 (b : Bel w w1) => input_Show_formula cell n v A k c Z w1 hfw hR'.out hd'.out (hr.bel b) (hG.bel b))
    have HNum := Lib.hid (fun m w1 => law_num m w1)
    dsimp only [entV] at HSh
    have Hr := Lib.hid hr
    have hsz2 := hsz3.out
    have HRd := Lib.hid (fun w1 (b : Bel w w1) => input_Read_formula n sheet hsz2 hR'.out hi hd'.out hnm.out hnz w1 (hG.bel b))
    dsimp only [entV, GVal.zero, GCell.zero] at HRd
    have hlt : ((bs (61 :: showN n)).size : Int) ≤ 200 := by omega
    clear HF HA HNm HRN hfew hr hG hsh hss hnz hfw hi hsz2 hsz3 hb1 hsS
    generalize bs (61 :: showN n) = S at *
    go_step
    go_step
    refine wp_load_entry _ rfl _ rfl _ (by rw [heap_ext _ _ _ _ (by simp only [hsz, size_ext]; omega)]; exact heap_alloc_at _ _ _ (by simp only [hsz, size_ext, Array.size_append] <;> omega)) rfl ?_
    repeat (first
      | (((with_reducible refine wp_store20 (b := ?b) (cs := ?cs) ?hx ?hy ?hb ?ho ?hs ?h1 ?h); (case hx => exact rfl); (case hy => exact rfl); (case hb => (simp only [hsz, size_ext, Array.size_append] <;> omega)); (case ho => exact rfl); (case hs => exact rfl); (case h1 => simp [Value.oneCell'])))
      | (go_at_call 9; refine (HSh.out _ (by (repeat (first | with_reducible exact Below.refl _ _ | with_reducible assumption | refine bel_ext ?_ _ _ | refine bel_alloc ?_ _ | refine bel_drew ?_ | refine bel_drewN ?_ _ | refine bel_set ?_ (by simp; try omega) _)))).mono ?_; rintro e' w' ⟨rfl, hb'⟩; obtain ⟨d4, o4, rfl⟩ := hb'.ext; clear hb'; dsimp only)
      | (go_at_call 10; refine (HRd.out _ (by (repeat (first | with_reducible exact Below.refl _ _ | with_reducible assumption | refine bel_ext ?_ _ _ | refine bel_alloc ?_ _ | refine bel_drew ?_ | refine bel_drewN ?_ _ | refine bel_set ?_ (by simp; try omega) _)))).mono ?_; rintro e' w' ⟨y, rfl, ⟨A', c', rfl, hr'⟩, hb'⟩; obtain ⟨d5, o5, rfl⟩ := hb'.ext; clear hb'; simp only [ext_ext, Array.append_assoc] at hr'; replace hr' := Lib.hid hr'; dsimp only)
      | (go_at_call 11; refine (HNum.out _ _).mono ?_; rintro e' w1 ⟨rfl, hw1⟩; rw [hw1]; clear hw1; dsimp only)
      | go_skip | go_guarded | go_step)
    have HSN := fun (Y : Obj) => ref_SameNode (nsz n) n A' n.kids.length c' A k c _ Z _ (Nat.le_refl _) (hr'.out.bel (bel_alloc (Below.refl _ _) Y)) (Hr.out.bel (bel_alloc (bel_ext (bel_alloc (Below.refl _ _) _) _ _) Y))
    unfold nodeV at HSN
    refine (HSN _).mono ?_
    rintro e' w' ⟨rfl, hb'⟩
    obtain ⟨d6, o6, rfl⟩ := hb'.ext
    clear hb' HSN
    dsimp only
    repeat (first | go_skip | go_guarded | go_step)
    go_ret
    exact ⟨rfl, bel_ext (bel_alloc (bel_ext (bel_alloc (Below.refl _ _) _) _ _) _) _ _⟩
  · go_ret
    exact ⟨rfl, by (repeat (first | exact Below.refl _ _ | with_reducible assumption | refine bel_ext ?_ _ _ | refine bel_alloc ?_ _ | refine bel_drew ?_ | refine bel_drewN ?_ _ | refine bel_set ?_ (by simp; try omega) _))⟩

end Go.Proofs.YtckalplhaggaoaaGreatDoor

namespace Go.Proofs.YtckalplhaggaoaaGreatDoor
open Go.RowKit

set_option maxHeartbeats 8000000 in
set_option maxRecDepth 100000 in
theorem law_formula_long (cell : GCell) (n : GNode) (v : GVal) (A : Option Addr) (k c : Nat) (Z : Nat → Prop) (sheet : ByteArray) (w : World) (hr : RdN Z w n (.slice A k c)) (hG : Gl w) (hsh : sheet.size ≤ 9223372036854775807) (hn : nameB sheet = true) (hR : rightR n = true) (hd : depthN n ≤ 20) (hnz : sheet.size ≤ 1000) (hs : v.s.size ≤ 199) (hsz2 : ¬ (bs (61 :: showN n)).size ≤ 200) :
    Calls Tryz.prog 3 #[entV ⟨cell, true, n, v⟩ (.slice A k c), .string sheet] w fun e w' => e = .returned (.bool true) ∧ Bel w w' := by
  have HA := Lib.hid (fun w1 (b : Bel w w1) => law_alive w1 (hG.bel b))
  have HF := Lib.hid (fun w1 (b : Bel w w1) => law_Few n A k c Z w1 (hr.bel b))
  have HNm := Lib.hid (fun w1 => ref_Name sheet hsh w1)
  rw [hn] at HNm
  have HRN := Lib.hid (fun w1 (b : Bel w w1) => ref_RightNode n A k c Z w1 (by omega) (hr.bel b))
  have hrd : (decide (depthN n ≤ 20) && rightR n) = true := by rw [hR, decide_eq_true hd]; rfl
  rw [hrd] at HRN
  have hss : (v.s.size : Int) ≤ 199 := by omega
  have hnm := Lib.hid hn
  have hR' := Lib.hid hR
  have hd' := Lib.hid hd
  have hsS := Lib.hid hs
  have hsz3 := Lib.hid hsz2
  clear hn hR hd hrd hs hsz2
  unfold nodeV at HF HRN
  unfold entV
  go_enter Tryz.func3, Tryz.ntmps3
  go_upto_region 4 with (first
    | (go_at_call 4; refine (HA.out _ (by (repeat (first | exact Below.refl _ _ | with_reducible assumption | refine bel_ext ?_ _ _ | refine bel_alloc ?_ _ | refine bel_drew ?_ | refine bel_drewN ?_ _ | refine bel_set ?_ (by simp; try omega) _)))).mono ?_; rintro e' w' ⟨rfl, hb'⟩; obtain ⟨d1, o1, rfl⟩ := hb'.ext; clear hb')
    | (go_at_call 5; refine (HF.out _ (by (repeat (first | exact Below.refl _ _ | with_reducible assumption | refine bel_ext ?_ _ _ | refine bel_alloc ?_ _ | refine bel_drew ?_ | refine bel_drewN ?_ _ | refine bel_set ?_ (by simp; try omega) _)))).mono ?_; rintro e' w' ⟨b, rfl, hfew, hb'⟩; obtain ⟨d2, o2, rfl⟩ := hb'.ext; clear hb')
    | (go_at_call 6; refine (HNm.out _).mono ?_; rintro e' w1 ⟨rfl, hw1⟩; rw [hw1]; clear hw1)
    | (go_at_call 7; refine (HRN.out _ (by (repeat (first | exact Below.refl _ _ | with_reducible assumption | refine bel_ext ?_ _ _ | refine bel_alloc ?_ _ | refine bel_drew ?_ | refine bel_drewN ?_ _ | refine bel_set ?_ (by simp; try omega) _)))).mono ?_; rintro e' w' ⟨rfl, hb'⟩; obtain ⟨d3, o3, rfl⟩ := hb'.ext; clear hb'))
  · have hb1 : b = true := by simpa using ‹b = true›
    have hfw := (depth_of_few hfew hb1).1
    have hi := hr.ints
    have HSh := Lib.hid (fun w1 (b : Bel w w1) => input_Show_formula cell n v A k c Z w1 hfw hR'.out hd'.out (hr.bel b) (hG.bel b))
    have HNum := Lib.hid (fun m w1 => law_num m w1)
    dsimp only [entV] at HSh
    have Hr := Lib.hid hr
    have hsz2 := hsz3.out
    have HRd := Lib.hid (fun w1 => input_Read_long (bs (61 :: showN n)) sheet (by omega) w1)
    dsimp only [entV, GNode.zero, GVal.zero, GCell.zero] at HRd
    have hlt : (200 : Int) < ((bs (61 :: showN n)).size : Int) := by omega
    clear HF HA HNm HRN hfew hr hG hsh hss hnz hfw hi hsz2 hsz3 hb1 hsS Hr
    generalize bs (61 :: showN n) = S at *
    go_step
    go_step
    refine wp_load_entry _ rfl _ rfl _ (by rw [heap_ext _ _ _ _ (by simp only [hsz, size_ext]; omega)]; exact heap_alloc_at _ _ _ (by simp only [hsz, size_ext, Array.size_append] <;> omega)) rfl ?_
    repeat (first
      | (((with_reducible refine wp_store20 (b := ?b) (cs := ?cs) ?hx ?hy ?hb ?ho ?hs ?h1 ?h); (case hx => exact rfl); (case hy => exact rfl); (case hb => (simp only [hsz, size_ext, Array.size_append] <;> omega)); (case ho => exact rfl); (case hs => exact rfl); (case h1 => simp [Value.oneCell'])))
      | (go_at_call 9; refine (HSh.out _ (by (repeat (first | with_reducible exact Below.refl _ _ | with_reducible assumption | refine bel_ext ?_ _ _ | refine bel_alloc ?_ _ | refine bel_drew ?_ | refine bel_drewN ?_ _ | refine bel_set ?_ (by simp; try omega) _)))).mono ?_; rintro e' w' ⟨rfl, hb'⟩; obtain ⟨d4, o4, rfl⟩ := hb'.ext; clear hb'; dsimp only)
      | (go_at_call 10; refine (HRd.out _).mono ?_; rintro e' w' ⟨rfl, hb'⟩; obtain ⟨d5, o5, rfl⟩ := hb'.ext; clear hb'; dsimp only)
      | (go_at_call 11; refine (HNum.out _ _).mono ?_; rintro e' w1 ⟨rfl, hw1⟩; rw [hw1]; clear hw1; dsimp only)
      | go_skip | go_guarded | go_step)
    trace_state
    go_ret
    exact ⟨rfl, bel_alloc (bel_ext (bel_alloc (Below.refl _ _) _) _ _) _⟩
  · go_ret
    exact ⟨rfl, by (repeat (first | exact Below.refl _ _ | with_reducible assumption | refine bel_ext ?_ _ _ | refine bel_alloc ?_ _ | refine bel_drew ?_ | refine bel_drewN ?_ _ | refine bel_set ?_ (by simp; try omega) _))⟩

end Go.Proofs.YtckalplhaggaoaaGreatDoor
